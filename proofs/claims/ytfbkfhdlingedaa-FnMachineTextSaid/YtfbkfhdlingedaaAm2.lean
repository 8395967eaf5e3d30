/- An abstract machine for the loaded code, proved sound, part 2 of 5: no conditions. -/
import Derived.Test.YtfbkfhdlingedaaAm1
import Derived.Laws.StructEq
import Derived.Great.BuildSlice
set_option linter.unusedVariables false
set_option linter.unusedSimpArgs false
set_option linter.unusedSectionVars false
/-! Fields and loads. -/
namespace Go.Proofs.YtfbkfhdlingedaaAm
open Go RowKit
section
variable {P : Program} {C : Cx} {M : Mm} {x : SV} {v : Value} {o : Oper} {a : Act} {e : Eff} {n : Nat} {t t' u : TypeId} {pv : PV} {cs : List Value} {ok : Nat → Prop} {w : World} {F : List Nat}
variable [Glb P]
theorem laid_off : ∀ {gs : List Field} {o n i : Nat} {f : Field}, laid P o gs n = true → gs[i]? = some f → f.offset = o + sumSz P ((gs.map (·.type)).take i)
  | [], _, _, i, f, _, hi => by simp at hi
  | g :: gs, o, n, 0, f, h, hi => by
    simp at hi; subst hi
    simp only [laid, Bool.and_eq_true, Nat.beq_eq] at h
    simp [sumSz, h.1]
  | g :: gs, o, n, i + 1, f, h, hi => by
    simp only [laid, Bool.and_eq_true] at h
    have := laid_off h.2 (by simpa using hi)
    simp [sumSz] at this ⊢
    omega
theorem run_fieldAt {fs : List TypeId} {f : TypeId} {i : Nat} (ht : tk P t = .struct fs) (hna : isArr P t = false) (hi : fs[i]? = some f) (hp : 0 < sizeOf P f) (ad : Addr) (w : World) : (Instr.fieldAt t (.pointer (some ad)) i).run P w = .ok (.pointer (some (ad.add (offOf P fs i)))) w := by
  obtain ⟨gs, hu, hl, rfl⟩ := tk_struct ht hna
  obtain ⟨g, hg, rfl⟩ : ∃ g, gs.toList[i]? = some g ∧ g.type = f := by
    simp at hi
    obtain ⟨g, h1, h2⟩ := hi
    exact ⟨g, by simpa using h1, h2⟩
  have hoff := laid_off hl hg
  have hinfo : ∃ inf, P.info? g.type = some inf ∧ inf.size = sizeOf P g.type := by
    unfold sizeOf at hp ⊢
    cases h : P.info? g.type with
    | none => rw [h] at hp; simp at hp
    | some inf => exact ⟨inf, rfl, rfl⟩
  obtain ⟨inf, h1, h2⟩ := hinfo
  have hne : ¬ inf.size = 0 := by omega
  have hg' : gs[i]? = some g := by simpa using hg
  simp [Instr.fieldAt, run_underlying hu, hg', Instr.sureAddr, fieldPlace, run_sizeOf' h1, hne, hoff, offOf]
theorem getD_some {fs : List TypeId} {i : Nat} (h : i < fs.length) : fs[i]? = some (fs.getD i 0) := by simp [List.getD_eq_getElem?_getD, h]
theorem ok_fieldAddr (hm : At P C M) {h' : Nat → Own} {y : Operand} {i : Nat} (ho : o.op = .fieldAddr t y i) {sy : SV} (hy : Slot P M sy (a.eval y)) (hh : ∀ id ∈ idsOf sy, h' id = M.oh id) (h : eFieldAddr P h' some t i sy = some e) : OpOk P C M o a e := by
  unfold eFieldAddr at h
  split at h
  · rename_i id p
    split at h
    case h_2 => cases h
    rename_i fs ht
    cases hb : (Nat.blt i fs.length && Nat.blt 0 (sizeOf P (fs.getD i 0)) && !isArr P t) <;> simp only [hb, cond_true, cond_false] at h
    · cases h
    · simp only [Bool.and_eq_true, Nat.blt_eq, Bool.not_eq_true'] at hb
      obtain ⟨hb, hna⟩ := hb
      have hf := getD_some hb.1
      obtain ⟨hl, _⟩ := hy.leaf_inv (by simp) (by simp) (by simp) (by simp) (by simp)
      split at h
      · rename_i u pv ho1
        have ho1 : M.oh id = .row u pv := by rw [← hh id (by simp [idsOf])]; exact ho1
        cases hal : alike P t (tyAt P u p) <;> simp only [hal, cond_true, cond_false] at h
        · cases h
        · injection h with h; subst h
          obtain ⟨ad, t', hv, hpl⟩ := hl.ptr_row ho1
          have := hpl.ty; subst this
          refine opOk_val ?_ (hm.pure (slot_ptr_row ho1 (hpl.trans (q := [.fld i]) ⟨fs, _, by rw [← alike_tk hal]; exact ht, hf, rfl, rfl⟩)))
          have hrun := run_fieldAt ht hna hf hb.2 ad M.w
          simp [execOp, ho, hv, hrun]
      · rename_i u sv ho1
        have ho1 : M.oh id = .box u sv := by rw [← hh id (by simp [idsOf])]; exact ho1
        cases hal : alike P t (tyAt P u p) <;> simp only [hal, cond_true, cond_false] at h
        · cases h
        · injection h with h; subst h
          obtain ⟨g, o1, t', hd, hv, hpl⟩ := hl.ptr_box ho1
          have := hpl.ty; subst this
          have hpl' := hpl.trans (q := [.fld i]) (o3 := o1 + offOf P fs i) ⟨fs, _, by rw [← alike_tk hal]; exact ht, hf, rfl, rfl⟩
          refine opOk_val (v := .pointer (some ⟨g, o1 + offOf P fs i, none⟩)) ?_ (hm.pure (.leaf _ _ (by simp only [Leaf, ho1]; exact ⟨g, _, _, hd, rfl, hpl'⟩) rfl))
          have hrun := run_fieldAt ht hna hf hb.2 ⟨g, o1, none⟩ M.w
          rw [add_none] at hrun
          simp [execOp, ho, hv, hrun]
      · rename_i u pv q0 ho1
        have ho1 : M.oh id = .hole u pv q0 := by rw [← hh id (by simp [idsOf])]; exact ho1
        cases hal : alike P t (tyAt P u p) <;> simp only [hal, cond_true, cond_false] at h
        · cases h
        · cases ht2 : twoIdx p <;> simp only [ht2, cond_true, cond_false] at h
          case true => cases h
          injection h with h; subst h
          simp only [Leaf, ho1] at hl
          obtain ⟨ad, t', hv, hpl⟩ := hl ht2
          have := hpl.ty; subst this
          have hpl' := hpl.trans (q := [.fld i]) ⟨fs, _, by rw [← alike_tk hal]; exact ht, hf, rfl, rfl⟩
          refine opOk_val (v := .pointer (some (ad.add (offOf P fs i)))) ?_ (hm.pure (.leaf _ _ (by simp only [Leaf, ho1]; exact fun _ => ⟨_, _, rfl, hpl'⟩) rfl))
          have hrun := run_fieldAt ht hna hf hb.2 ad M.w
          simp [execOp, ho, hv, hrun]
      · cases h
  · rename_i u pv
    split at h
    case h_2 => cases h
    rename_i fs ht
    cases hb : (Nat.blt i fs.length && Nat.blt 0 (sizeOf P (fs.getD i 0)) && alike P t u && !isArr P t) <;> simp only [hb, cond_true, cond_false] at h
    · cases h
    · simp only [Bool.and_eq_true, Nat.blt_eq, Bool.not_eq_true'] at hb
      obtain ⟨⟨⟨hb1, hb2⟩, hal⟩, hna⟩ := hb
      have hf := getD_some hb1
      obtain ⟨hl, _⟩ := hy.leaf_inv (by simp) (by simp) (by simp) (by simp) (by simp)
      injection h with h; subst h
      obtain ⟨ad, n, cs, hv, h1, h2, h3, h4⟩ := hl
      cases n with
      | zero => exact h4.elim
      | succ n =>
        unfold Rd at h4
        rw [← alike_tk hal] at h4
        simp only [ht] at h4
        obtain ⟨ps, rfl, h5⟩ := h4
        obtain ⟨q, A, c, B, a1, a2, a3, a4⟩ := h5.get (P := P) (fun t p c hp => hp.len) hf
        subst a2
        refine opOk_val (v := .pointer (some (ad.add (offOf P fs i)))) ?_ (hm.pure (.leaf _ _ ⟨_, n, c, rfl, by rw [add_block]; exact h1, by rw [add_block]; exact h2, a3 ▸ h3.app, ?_⟩ rfl))
        · have hrun := run_fieldAt ht hna hf hb2 ad M.w
          simp [execOp, ho, hv, hrun]
        · simpa [PV.fld, PV.parts, List.getD_eq_getElem?_getD, a1] using a4
  · cases h
theorem offOf_arr {n : Nat} {e : TypeId} (hs : sizeOf P e = 1) {i : Nat} (hi : i < n) : offOf P (List.replicate n e) i = i := by
  unfold offOf
  rw [List.take_replicate, Nat.min_eq_left (by omega)]
  simp [sumSz, List.map_replicate, List.sum_replicate_nat, hs]
theorem run_indexArr {n : Nat} {e : TypeId} (hao : arrOf P t = some (n, e)) (hs : sizeOf P e = 1) {ad : Addr} {k : IntKind} {j : Int} (h0 : 0 ≤ j) (h1 : j < n) (w : World) : (Instr.indexAt t (.pointer (some ad)) (.int k j)).run P w = .ok (.pointer (some (ad.add j.toNat))) w := by
  have hsz : ∃ i, P.info? e = some i ∧ i.size = 1 := by
    unfold sizeOf at hs
    cases hi : P.info? e with
    | none => rw [hi] at hs; simp at hs
    | some i => rw [hi] at hs; exact ⟨i, rfl, hs⟩
  obtain ⟨i, hi1, hi2⟩ := hsz
  simp [Instr.indexAt, asIntOf, run_underlying (arrOf_some hao), Instr.sureAddr, h0, h1, run_sizeOf' hi1, hi2]
theorem isArr_struct {u : TypeId} {w : World} {pv : PV} {m : Nat} {F : List Nat} (h : tk P u ≠ .bad) (ha : isArr P u = true) : ∃ fs, tk P u = .struct fs := by
  unfold isArr at ha
  cases hao : arrOf P u with
  | none => rw [hao] at ha; cases ha
  | some x =>
    obtain ⟨n, e⟩ := x
    have hu := arrOf_some hao
    unfold tk at h ⊢
    simp only [hu] at h ⊢
    cases hf : arrFit P u n e <;> rw [hf] at h
    · exact absurd rfl h
    · exact ⟨_, rfl⟩
theorem ok_indexArr (hm : At P C M) {h' : Nat → Own} {y z : Operand} (ho : o.op = .indexAddr t y z) {sy sz : SV} (hy : Slot P M sy (a.eval y)) (hz : Slot P M sz (a.eval z)) (hh : ∀ id ∈ idsOf sy, h' id = M.oh id) {n : Nat} {el : TypeId} (hao : arrOf P t = some (n, el)) (h : eIndexArr P h' some t n el sy sz = some e) : OpOk P C M o a e := by
  unfold eIndexArr at h
  have key : ∀ {u : TypeId}, alike P t u = true → tk P u ≠ .bad → tk P u = .struct (List.replicate n el) ∧ sizeOf P el = 1 := fun {u} hal hb => by
    have hbt : tk P t ≠ .bad := by rw [alike_tk hal]; exact hb
    obtain ⟨fs, hfs⟩ := isArr_struct (w := M.w) (pv := default) (m := 0) (F := []) hbt (by unfold isArr; rw [hao])
    obtain ⟨c1, c2, c3, _⟩ := tk_arr hao hfs
    exact ⟨by rw [← alike_tk hal, hfs, c1], c3⟩
  split at h
  · rename_i id p k j
    have hz' := hz.sc_inv.1
    obtain ⟨hl, _⟩ := hy.leaf_inv (by simp) (by simp) (by simp) (by simp) (by simp)
    split at h
    · rename_i u pv ho1
      have ho1 : M.oh id = .row u pv := by rw [← hh id (by simp [idsOf])]; exact ho1
      cases hal : (alike P t (tyAt P u p) && isArr P (tyAt P u p)) <;> simp only [hal, cond_true, cond_false] at h
      · cases h
      simp only [Bool.and_eq_true] at hal
      split at h
      case isFalse => cases h
      rename_i h0
      split at h
      case isFalse => cases h
      rename_i h1
      injection h with h; subst h
      obtain ⟨ad, t', hv, hpl⟩ := hl.ptr_row ho1
      have := hpl.ty; subst this
      obtain ⟨m, how⟩ := hm.mem.row id u pv ho1
      obtain ⟨m', cs', F', c1, _, _, _⟩ := how.getH hpl
      obtain ⟨d1, d2⟩ := key hal.1 c1.good
      have hjn : j.toNat < n := by omega
      have hpl' := hpl.trans (q := [.fld j.toNat]) (t3 := el) (a3 := ad.add j.toNat) ⟨_, el, d1, by rw [List.getElem?_replicate]; simp [hjn], rfl, by rw [offOf_arr d2 hjn]⟩
      refine opOk_val ?_ (hm.pure (slot_ptr_row ho1 hpl'))
      have hrun := run_indexArr hao d2 (ad := ad) (k := k) h0 h1 M.w
      simp [execOp, ho, hv, hz', hrun]
    · rename_i u sv ho1
      have ho1 : M.oh id = .box u sv := by rw [← hh id (by simp [idsOf])]; exact ho1
      cases hal : (alike P t (tyAt P u p) && isArr P (tyAt P u p)) <;> simp only [hal, cond_true, cond_false] at h
      · cases h
      simp only [Bool.and_eq_true] at hal
      split at h
      case isFalse => cases h
      rename_i h0
      split at h
      case isFalse => cases h
      rename_i h1
      injection h with h; subst h
      obtain ⟨g, o1, t', hd, hv, hpl⟩ := hl.ptr_box ho1
      have := hpl.ty; subst this
      by_cases hbd : tk P t = .bad
      · exfalso
        have hx := alike_tk hal.1
        rw [hbd] at hx
        have h3 := hal.1
        unfold alike at h3
        rw [hbd] at h3
        simp [TK.same] at h3
      obtain ⟨d1, d2⟩ := key hal.1 (by rw [← alike_tk hal.1]; exact hbd)
      have hjn : j.toNat < n := by omega
      have hpl' := hpl.trans (q := [.fld j.toNat]) (t3 := el) (o3 := o1 + j.toNat) ⟨_, el, d1, by rw [List.getElem?_replicate]; simp [hjn], rfl, by rw [offOf_arr d2 hjn]⟩
      refine opOk_val (v := .pointer (some ⟨g, o1 + j.toNat, none⟩)) ?_ (hm.pure (.leaf _ _ (by simp only [Leaf, ho1]; exact ⟨g, _, _, hd, rfl, hpl'⟩) rfl))
      have hrun := run_indexArr hao d2 (ad := ⟨g, o1, none⟩) (k := k) h0 h1 M.w
      rw [add_none] at hrun
      simp [execOp, ho, hv, hz', hrun]
    · cases h
  · rename_i u pv k j
    have hz' := hz.sc_inv.1
    obtain ⟨hl, _⟩ := hy.leaf_inv (by simp) (by simp) (by simp) (by simp) (by simp)
    cases hal : (alike P t u && isArr P u) <;> simp only [hal, cond_true, cond_false] at h
    · cases h
    simp only [Bool.and_eq_true] at hal
    split at h
    case isFalse => cases h
    rename_i h0
    split at h
    case isFalse => cases h
    rename_i h1
    injection h with h; subst h
    obtain ⟨ad, m, cs, hv, h2, h3, h4, h5⟩ := hl
    obtain ⟨d1, d2⟩ := key hal.1 h5.good
    have hjn : j.toNat < n := by omega
    cases m with
    | zero => exact h5.elim
    | succ m =>
      unfold Rd at h5
      simp only [d1] at h5
      obtain ⟨ps, rfl, h6⟩ := h5
      obtain ⟨q, A, c, B, a1, a2, a3, a4⟩ := h6.get (P := P) (fun t p c hp => hp.len) (i := j.toNat) (f := el) (by rw [List.getElem?_replicate]; simp [hjn])
      subst a2
      rw [offOf_arr d2 hjn] at a3
      refine opOk_val (v := .pointer (some (ad.add j.toNat))) ?_ (hm.pure (.leaf _ _ ⟨_, m, c, rfl, by rw [add_block]; exact h2, by rw [add_block]; exact h3, a3 ▸ h4.app, ?_⟩ rfl))
      · have hrun := run_indexArr hao d2 (ad := ad) (k := k) h0 h1 M.w
        simp [execOp, ho, hv, hz', hrun]
      · simpa [PV.fld, PV.parts, List.getD_eq_getElem?_getD, a1] using a4
  · cases h
theorem ok_indexAddr (hm : At P C M) {h' : Nat → Own} {y z : Operand} (ho : o.op = .indexAddr t y z) {sy sz : SV} (hy : Slot P M sy (a.eval y)) (hz : Slot P M sz (a.eval z)) (hh : ∀ id ∈ idsOf sy, h' id = M.oh id) (h : eIndexAddr P h' some t sy sz = some e) : OpOk P C M o a e := by
  unfold eIndexAddr at h
  split at h
  · rename_i n el hao
    exact ok_indexArr hm ho hy hz hh hao h
  · exact ok_indexAddrS hm ho hy hz hh h
theorem ok_nilCheck (hm : At P C M) {y : Operand} (ho : o.op = .nilCheck y) {sy : SV} (hy : Slot P M sy (a.eval y)) {h' : Nat → Own} (hh : ∀ id ∈ idsOf sy, h' id = M.oh id) (h : eNilCheck h' some sy = some e) : OpOk P C M o a e := by
  unfold eNilCheck at h
  split at h
  · rename_i id p
    have hid := hh id (by simp [idsOf])
    obtain ⟨hlf, _⟩ := hy.leaf_inv (by simp) (by simp) (by simp) (by simp) (by simp)
    split at h
    · rename_i u pv ho1
      rw [hid] at ho1
      injection h with h; subst h
      obtain ⟨ad, t', hv, _⟩ := hlf.ptr_row ho1
      exact opOk_val (v := .pointer (some ad)) (by simp [execOp, ho, hv]) (hm.pure (hv ▸ hy))
    · rename_i u sv ho1
      rw [hid] at ho1
      injection h with h; subst h
      obtain ⟨g, o1, _, _, hv, _⟩ := hlf.ptr_box ho1
      exact opOk_val (v := .pointer (some ⟨g, o1, none⟩)) (by simp [execOp, ho, hv]) (hm.pure (hv ▸ hy))
    · rename_i u qs ho1
      rw [hid] at ho1
      injection h with h; subst h
      simp only [Leaf, ho1] at hlf
      obtain ⟨_, ad, _, hv, _⟩ := hlf
      exact opOk_val (v := .pointer (some ad)) (by simp [execOp, ho, hv]) (hm.pure (hv ▸ hy))
    · cases h
  · injection h with h; subst h
    obtain ⟨⟨ad, n, cs, hv, _⟩, _⟩ := hy.leaf_inv (by simp) (by simp) (by simp) (by simp) (by simp)
    exact opOk_val (v := .pointer (some ad)) (by simp [execOp, ho, hv]) (hm.pure (hv ▸ hy))
  · cases h
/-! What a tree makes of a slot -/
theorem fieldsRo_ok {R : TypeId → PV → List Value → Prop} {f : TypeId → PV → SV} : ∀ {ts : List TypeId} {ps : List PV} {cs : List Value} {q : PV} {i : Nat}, (∀ j, q.fld (i + j) = ps.getD j default) → (∀ t p c, R t p c → SVc P M t (f t p) c) → Flds R ts ps cs → SVcL P M ts (fieldsRo f ts q i) cs
  | [], [], cs, q, i, _, _, h => by rw [show cs = [] from h]; exact .nil
  | t :: ts, p :: ps, cs, q, i, hq, hR, ⟨c, cs', h1, h2, h3⟩ => by
    subst h1
    have h0 := hq 0
    simp at h0
    refine .cons _ _ _ _ _ _ (h0 ▸ hR _ _ _ h2) (fieldsRo_ok (fun j => ?_) hR h3)
    have := hq (j + 1)
    simp at this
    rw [show i + 1 + j = i + (j + 1) by omega]; exact this
  | [], _ :: _, _, _, _, _, _, h => h.elim
  | _ :: _, [], _, _, _, _, _, h => h.elim
theorem reifyRo_ok : ∀ {m n : Nat} {t : TypeId} {pv : PV} {cs : List Value}, Rd P M.ok M.w n t pv cs → SVc P M t (reifyRo P m t pv) cs
  | 0, n, t, pv, cs, h => .junk _ _ h.len h.ones
  | m + 1, 0, t, pv, cs, h => h.elim
  | m + 1, n + 1, t, pv, cs, h => by
    have hlen := h.len
    have hones := h.ones
    have h0 := h
    unfold Rd at h
    unfold reifyRo
    split at h <;> rename_i ht
    · obtain ⟨x, rfl, rfl⟩ := h
      (try simp only [ht]); exact .leaf _ _ _ rfl rfl (by rw [← hlen]; rfl) (by rw [ht]; simp)
    · obtain ⟨x, rfl, rfl⟩ := h
      (try simp only [ht]); exact .leaf _ _ _ rfl rfl (by rw [← hlen]; rfl) (by rw [ht]; simp)
    · obtain ⟨x, rfl, rfl⟩ := h
      (try simp only [ht]); exact .leaf _ _ _ rfl rfl (by rw [← hlen]; rfl) (by rw [ht]; simp)
    · obtain ⟨A, cap, ps, rfl, rfl, _⟩ := h
      (try simp only [ht]); exact .leaf _ _ _ ⟨_, _, ht, h0⟩ rfl (by rw [← hlen]; rfl) (by rw [ht]; simp)
    · obtain ⟨ps, rfl, h2⟩ := h
      (try simp only [ht])
      refine .agg _ _ _ _ _ ht (by unfold alike; rw [ht]; simp only [TK.same]; exact listEq_refl _) (fieldsRo_ok (R := Rd P M.ok M.w n) (ps := ps) (fun j => ?_) (fun t p c hp => reifyRo_ok hp) h2)
      simp [PV.fld, PV.parts]
    · obtain ⟨x, rfl, rfl, h3⟩ := h
      (try simp only [ht]); exact .leaf _ _ _ rfl h3 (by rw [← hlen]; rfl) (by rw [ht]; simp)
    · exact h.elim
where listEq_refl : ∀ (l : List Nat), listEq l l = true
  | [] => rfl
  | a :: r => by simp [listEq, listEq_refl r]
theorem alike_refl {fs : List TypeId} (ht : tk P t = .struct fs) : alike P t t = true := by unfold alike; rw [ht]; simp only [TK.same]; exact reifyRo_ok.listEq_refl _
/-- A place in a row, as a slot. -/
theorem reifyRef_ok {id : Nat} {hv : Value} {p0 : PV} (hoh : M.oh id = .row u p0) (how : ∃ n, Ow P M.w n u p0 [M.G.hnd id] (M.G.ft id)) : ∀ {m n : Nat} {t : TypeId} {pv : PV} {cs : List Value} {F : List Nat} {p : List Stp} {ad : Addr},
    Ow P M.w n t pv cs F → Loc M.w ad cs → ((p = [] ∧ u = t ∧ cs = [M.G.hnd id]) ∨ PlcH P M.w u (M.G.hnd id) p t ad) → (p = [] → tk P t = .slice (etype P t)) → SVc P M t (reifyRef P id m t pv p) cs
  | 0, n, t, pv, cs, F, p, ad, h, hl, hp, _ => .junk _ _ h.len h.ones
  | m + 1, 0, t, pv, cs, F, p, ad, h, _, _, _ => h.elim
  | m + 1, n + 1, t, pv, cs, F, p, ad, h, hl, hp, hp0 => by
    have hlen := h.len
    have hones := h.ones
    unfold Ow at h
    unfold reifyRef
    split at h <;> rename_i ht
    · obtain ⟨⟨x, rfl, rfl⟩, _⟩ := h
      (try simp only [ht]); exact .leaf _ _ _ rfl rfl (by rw [← hlen]; rfl) (by rw [ht]; simp)
    · obtain ⟨⟨x, rfl, rfl⟩, _⟩ := h
      (try simp only [ht]); exact .leaf _ _ _ rfl rfl (by rw [← hlen]; rfl) (by rw [ht]; simp)
    · obtain ⟨⟨x, rfl, rfl⟩, _⟩ := h
      (try simp only [ht]); exact .leaf _ _ _ rfl rfl (by rw [← hlen]; rfl) (by rw [ht]; simp)
    · obtain ⟨v, xs, ps, F', rfl, rfl, h3, _⟩ := h
      obtain ⟨A, cap, hvv, _⟩ := ownsRow_slice h3
      (try simp only [ht])
      refine .leaf _ _ _ ?_ (by rw [hvv]; rfl) (by rw [← hlen]; rfl) (by rw [ht]; simp)
      simp only [Leaf, hoh]
      rcases hp with ⟨h1, _, h2⟩ | h1
      · exact .inl ⟨h1, by simpa using h2⟩
      · refine .inr ⟨ad, t, _, h1, ht, ?_⟩
        have := hl 0 v rfl
        rwa [add_zero] at this
    · rename_i fs
      obtain ⟨ps, rfl, h2⟩ := h
      (try simp only [ht])
      have hpl : PlcH P M.w u (M.G.hnd id) p t ad := by
        rcases hp with ⟨h1, h3, _⟩ | h1
        · have := hp0 h1; rw [ht] at this; cases this
        · exact h1
      refine .agg _ _ _ _ _ ht (alike_refl ht) ?_
      have key : ∀ {ts : List TypeId} {qs : List PV} {cs1 pre : List Value} {F1 : List Nat} {i : Nat}, (∀ j, ts[j]? = fs[i + j]?) → (∀ j, (PV.agg ps).fld (i + j) = qs.getD j default) → pre.length = offOf P fs i → Loc M.w ad (pre ++ cs1) → OwFlds (Ow P M.w n) ts qs cs1 F1 → SVcL P M ts (fieldsRef (reifyRef P id m) ts (.agg ps) p i) cs1 := by
        intro ts
        induction ts with
        | nil =>
          intro qs cs1 pre F1 i _ _ _ _ h
          cases qs with
          | nil => rw [h.1]; exact .nil
          | cons => exact h.elim
        | cons t1 ts ih =>
          intro qs cs1 pre F1 i hts hqs hpre hloc h
          cases qs with
          | nil => exact h.elim
          | cons q qs =>
            obtain ⟨c, cs', f1, F', rfl, rfl, h4, h5⟩ := h
            have hq0 := hqs 0
            have ht0 := hts 0
            simp at hq0 ht0
            have hlc : Loc M.w (ad.add (offOf P fs i)) c := by
              have hloc' : Loc M.w ad (pre ++ c ++ cs') := by simpa using hloc
              exact hpre ▸ hloc'.app
            refine .cons _ _ _ _ _ _ ?_ ?_
            · rw [hq0]
              exact reifyRef_ok hoh how (hv := hv) h4 hlc (.inr (hpl.trans (q := [.fld i]) ⟨fs, t1, ht, ht0.symm, rfl, rfl⟩)) (fun h => by simp at h)
            · refine ih (i := i + 1) (pre := pre ++ c) (fun j => ?_) (fun j => ?_) ?_ (by simpa using hloc) h5
              · have := hts (j + 1); simp at this; rw [show i + 1 + j = i + (j + 1) by omega]; exact this
              · have := hqs (j + 1); simp at this; rw [show i + 1 + j = i + (j + 1) by omega]; exact this
              · rw [List.length_append, hpre, h4.len]
                have : fs.take (i + 1) = fs.take i ++ [t1] := by rw [List.take_add_one, ← ht0]; rfl
                simp [offOf, sumSz, this]
      exact key (pre := []) (i := 0) (fun j => by simp) (fun j => by simp [PV.fld, PV.parts]) (by simp [offOf, sumSz]) (by simpa using hl) h2
    · obtain ⟨⟨x, rfl, rfl, h3⟩, _⟩ := h
      (try simp only [ht]); exact .leaf _ _ _ rfl h3 (by rw [← hlen]; rfl) (by rw [ht]; simp)
    · exact h.elim
/-- A variable's cells, as a value. -/
def valOf (P : Program) (t : TypeId) (cs : List Value) : Value := match tk P t with
  | .struct _ => .agg cs.toArray
  | _ => cs.headD Go.undef
theorem svc_slot (h : SVc P M t x cs) : Slot P M x (valOf P t cs) := by
  cases h with
  | junk => exact .junk _
  | leaf _ _ v h1 h2 h3 h4 =>
    unfold valOf
    split
    · rename_i fs ht; exact absurd ht (h4 fs)
    · exact .leaf _ _ h1 h2
  | agg _ u fs xs _ h1 h2 h3 =>
    unfold valOf
    rw [h1]
    have hu : tk P u = .struct fs := by rw [← alike_tk h2]; exact h1
    exact .agg u xs _ (by simpa using SVc.agg u u fs xs cs hu (alike_refl hu) h3)
  | arr _ u k pv _ h1 h2 =>
    obtain ⟨n, e, ps, b1, b2, _⟩ := id h2
    unfold valOf
    rw [alike_tk h1, b2]
    exact .arr u k pv _ (by simpa using h2)
theorem tk_notAgg (h : tk P t ≠ .bad) (hs : ∀ fs, tk P t ≠ .struct fs) (w : World) : (isAgg t).run P w = .ok false w := by
  unfold tk at h hs
  cases hu : P.underlying t with
  | none => rw [hu] at h; exact absurd rfl h
  | some d =>
    rw [hu] at h hs
    cases d
    case struct gs =>
      simp only [cond_eq_ite] at h hs
      split at h
      · rename_i hc; exact absurd (if_pos hc) (hs _)
      · exact absurd rfl h
    case array n e =>
      simp only [cond_eq_ite] at h hs
      split at h
      · rename_i hc; exact absurd (if_pos hc) (hs _)
      · exact absurd rfl h
    all_goals simp [isAgg, run_underlying hu]
theorem isAgg_struct {fs : List TypeId} (ht : tk P t = .struct fs) (w : World) : P.underlying t ≠ none ∧ (isAgg t).run P w = .ok true w := by
  rcases arr_or ht with h | ⟨n, e, h⟩
  · obtain ⟨gs, hu, _⟩ := tk_struct ht h
    exact ⟨by rw [hu]; simp, by simp [isAgg, run_underlying hu]⟩
  · have hu := arrOf_some h
    exact ⟨by rw [hu]; simp, by simp [isAgg, run_underlying hu]⟩
theorem run_loadVar' (hb : tk P t ≠ .bad) {ad : Addr} (hl : Loc w ad cs) (hlen : cs.length = sizeOf P t) : (loadVar t ad).run P w = .ok (valOf P t cs) w := by
  cases ht : tk P t
  case struct fs =>
    obtain ⟨hu, hag⟩ := isAgg_struct ht w
    have hi : ∃ i, P.info? t = some i ∧ i.size = sizeOf P t := by
      cases h : P.info? t with
      | none => exact absurd (by simp [Program.underlying, h]) hu
      | some i => exact ⟨i, rfl, by simp [sizeOf, h]⟩
    obtain ⟨i, h1, h2⟩ := hi
    have hlc := run_loadCells_list (P := P) (w := w) ad cs hl
    rw [hlen] at hlc
    simp [loadVar, hag, run_sizeOf' h1, h2, hlc, valOf, ht]
  all_goals
    have hag := tk_notAgg hb (fun fs => by rw [ht]; simp) w
    have h1 : sizeOf P t = 1 := by rw [tk_size hb, ht]; rfl
    rw [h1] at hlen
    obtain ⟨y, rfl⟩ : ∃ y, cs = [y] := by
      cases cs with
      | nil => simp at hlen
      | cons y r => cases r with
        | nil => exact ⟨y, rfl⟩
        | cons => simp at hlen
    have := hl 0 y rfl
    rw [add_zero] at this
    simp [loadVar, hag, this, valOf, ht]
end
end Go.Proofs.YtfbkfhdlingedaaAm

/-! Loads, what lies in a variable, and slots read as trees. -/
namespace Go.Proofs.YtfbkfhdlingedaaAm
open Go RowKit
section
variable {P : Program} {C : Cx} {M : Mm} {x : SV} {v : Value} {o : Oper} {a : Act} {e : Eff} {n : Nat} {t t' u : TypeId} {pv : PV} {cs : List Value} {ok : Nat → Prop} {w : World} {F : List Nat}
variable [Glb P]
theorem arr_flds {ok : Nat → Prop} {w : World} {e : TypeId} {k : IntKind} (he : tk P e = .int k) : ∀ (ps : List PV), (∀ p ∈ ps, ∃ x, p = .sc (.int k x)) → Flds (Rd P ok w 1) (List.replicate ps.length e) ps (ps.map PV.toVal)
  | [], _ => rfl
  | p :: ps, h => by
    obtain ⟨x, hx⟩ := h p List.mem_cons_self
    subst hx
    exact ⟨[.int k x], ps.map PV.toVal, rfl, by unfold Rd; simp only [he]; exact ⟨x, rfl, rfl⟩, arr_flds he ps (fun q hq => h q (List.mem_cons_of_mem _ hq))⟩
theorem ArrC.rd {k : IntKind} (h : ArrC P t k pv cs) (ok : Nat → Prop) (w : World) : Rd P ok w 2 t pv cs := by
  obtain ⟨n, e, ps, h1, h2, h3, rfl, h5, h6, rfl⟩ := h
  subst h5
  unfold Rd
  simp only [h2]
  exact ⟨ps, rfl, arr_flds h3 ps h6⟩
theorem rd_arr {ok : Nat → Prop} {w : World} {k : IntKind} {n m : Nat} {e : TypeId} (hu : P.underlying t = some (.array n e)) (ht : tk P t = .struct (List.replicate n e)) (he : tk P e = .int k) (h : Rd P ok w m t pv cs) : ArrC P t k pv cs := by
  cases m with
  | zero => exact h.elim
  | succ m =>
    unfold Rd at h
    simp only [ht] at h
    obtain ⟨ps, rfl, h2⟩ := h
    have key : ∀ (n : Nat) (ps : List PV) (cs : List Value), Flds (Rd P ok w m) (List.replicate n e) ps cs → ps.length = n ∧ (∀ p ∈ ps, ∃ x, p = .sc (.int k x)) ∧ cs = ps.map PV.toVal := by
      intro n
      induction n with
      | zero =>
        intro ps cs h
        cases ps with
        | nil => exact ⟨rfl, by simp, h⟩
        | cons => exact h.elim
      | succ n ih =>
        intro ps cs h
        rw [List.replicate_succ] at h
        cases ps with
        | nil => exact h.elim
        | cons p ps =>
          obtain ⟨c, cs', h1, h2, h3⟩ := h
          obtain ⟨i1, i2, i3⟩ := ih ps cs' h3
          cases m with
          | zero => exact h2.elim
          | succ m =>
            unfold Rd at h2
            simp only [he] at h2
            obtain ⟨x, q1, q2⟩ := h2
            subst q1 q2 i3 h1
            refine ⟨by simp [i1], fun p hp => ?_, rfl⟩
            rcases List.mem_cons.1 hp with hp | hp
            · exact ⟨x, hp⟩
            · exact i2 p hp
    obtain ⟨i1, i2, i3⟩ := key n ps cs h2
    exact ⟨n, e, ps, hu, ht, he, rfl, i1, i2, i3⟩
mutual
theorem SVc.len : ∀ {t : TypeId} {x : SV} {cs : List Value}, SVc P M t x cs → cs.length = sizeOf P t
  | _, _, _, .junk _ _ h _ => h
  | _, _, _, .leaf _ _ _ _ _ h _ => by simp [h]
  | _, _, _, .agg t u fs xs cs h1 h2 h3 => by rw [SVcL.len h3, tk_size (by rw [h1]; simp), h1]; rfl
  | _, _, _, .arr t u k pv cs h1 h2 => by
    have hr := h2.rd (fun _ => True) M.w
    exact (hr.alike (alike_symm h1)).len
theorem SVcL.len : ∀ {ts : List TypeId} {xs : List SV} {cs : List Value}, SVcL P M ts xs cs → cs.length = sumSz P ts
  | _, _, _, .nil => rfl
  | _, _, _, .cons t ts x xs c cs h1 h2 => by rw [List.length_append, SVc.len h1, SVcL.len h2]; simp [sumSz]
end
mutual
theorem SVc.ones : ∀ {t : TypeId} {x : SV} {cs : List Value}, SVc P M t x cs → ∀ u ∈ cs, one u = true
  | _, _, _, .junk _ _ _ h => h
  | _, _, _, .leaf _ _ _ _ h _ _ => by simpa using h
  | _, _, _, .agg t u fs xs cs h1 h2 h3 => SVcL.ones h3
  | _, _, _, .arr t u k pv cs h1 h2 => by
    obtain ⟨n, e, ps, _, _, _, _, _, h6, rfl⟩ := h2
    intro v hv
    obtain ⟨p, hp, rfl⟩ := List.mem_map.1 hv
    obtain ⟨x, rfl⟩ := h6 p hp
    rfl
theorem SVcL.ones : ∀ {ts : List TypeId} {xs : List SV} {cs : List Value}, SVcL P M ts xs cs → ∀ u ∈ cs, one u = true
  | _, _, _, .nil => fun u h => by cases h
  | _, _, _, .cons t ts x xs c cs h1 h2 => fun u hu => by
    rcases List.mem_append.1 hu with h | h
    · exact SVc.ones h1 u h
    · exact SVcL.ones h2 u h
end
theorem SVcL.get : ∀ {ts : List TypeId} {xs : List SV} {cs : List Value} {i : Nat} {f : TypeId}, SVcL P M ts xs cs → ts[i]? = some f →
    ∃ x A c B, xs[i]? = some x ∧ cs = A ++ c ++ B ∧ A.length = offOf P ts i ∧ SVc P M f x c ∧ ∀ {x' c'}, SVc P M f x' c' → SVcL P M ts (xs.set i x') (A ++ c' ++ B)
  | _, _, _, i, f, .nil, hi => by simp at hi
  | _, _, _, 0, f, .cons t ts x xs c cs h1 h2, hi => by
    simp at hi; subst hi
    exact ⟨x, [], c, cs, rfl, by simp, rfl, h1, fun hx => .cons _ _ _ _ _ _ hx h2⟩
  | _, _, _, i + 1, f, .cons t ts x xs c cs h1 h2, hi => by
    obtain ⟨y, A, c1, B, a1, a2, a3, a4, a5⟩ := SVcL.get h2 (by simpa using hi)
    refine ⟨y, c ++ A, c1, B, by simpa using a1, by rw [a2]; simp, ?_, a4, fun hx => ?_⟩
    · simp [offOf, sumSz, h1.len]; simpa [offOf, sumSz] using a3
    · have := SVcL.cons t ts x _ c _ h1 (a5 hx)
      simpa using this
/-- What lies at a path in a variable, and the variable with something else there. -/
theorem SVc.at_ : ∀ {p : List Stp} {t : TypeId} {x : SV} {cs : List Value} {o1 o2 : Nat}, SVc P M t x cs → PlcF P t o1 p t' o2 → x.at p ≠ .junk →
    ∃ A c B, cs = A ++ c ++ B ∧ o2 = o1 + A.length ∧ SVc P M t' (x.at p) c ∧ ∀ {y d}, SVc P M t' y d → setOk x p y = true → SVc P M t (x.setAt p y) (A ++ d ++ B)
  | [], t, x, cs, o1, o2, h, ⟨h1, h2⟩, hj => by subst h1 h2; exact ⟨[], cs, [], by simp, rfl, h, fun hy _ => by rw [SV.setAt]; simpa using hy⟩
  | .idx j :: r, _, _, _, _, _, _, hp, _ => hp.elim
  | .fld i :: r, t, x, cs, o1, o2, h, ⟨fs, f, h1, h2, h3⟩, hj => by
    cases h with
    | junk =>
      exfalso; apply hj
      have : ∀ (r : List Stp), SV.at .junk r = .junk := by
        intro r; induction r with
        | nil => rfl
        | cons s r ih => cases s with
          | fld i => simpa [SV.at, SV.part, SV.parts] using ih
          | idx i => rfl
      simpa [SV.at, SV.part, SV.parts] using this r
    | leaf _ _ v a1 a2 a3 a4 => exact absurd h1 (a4 fs)
    | agg _ u fs' xs _ a1 a2 a3 =>
      have : fs' = fs := by rw [a1] at h1; injection h1
      subst this
      obtain ⟨y, A, c, B, b1, b2, b3, b4, b5⟩ := a3.get h2
      have hx : xs[i]?.getD .junk = y := by rw [b1]; rfl
      have hxi : xs.getD i .junk = y := by rw [List.getD_eq_getElem?_getD, b1]; rfl
      obtain ⟨A1, c1, B1, d1, d2, d3, d4⟩ := SVc.at_ (p := r) b4 h3 (by simpa [SV.at, SV.part, SV.parts, hx] using hj)
      refine ⟨A ++ A1, c1, B1 ++ B, by rw [b2, d1]; simp, by rw [d2, ← b3]; simp; omega, by simpa [SV.at, SV.part, SV.parts, hx] using d3, fun hy hso => ?_⟩
      have := SVc.agg t u fs' _ _ h1 a2 (b5 (d4 hy (by simpa [setOk, SV.part, SV.parts, hx] using hso)))
      simpa [SV.setAt, SV.part, SV.setPart, SV.parts, SV.aggType, hx] using this
    | arr _ u k pv _ a1 a2 =>
      obtain ⟨n, e, ps, b1, b2, b3, rfl, b5, b6, rfl⟩ := id a2
      have hfs : fs = List.replicate n e := by have := (alike_tk a1).symm.trans h1; rw [b2] at this; injection this with this; exact this.symm
      subst hfs
      rw [List.getElem?_replicate] at h2
      split at h2
      case isFalse => cases h2
      rename_i hin
      injection h2 with h2; subst h2
      have he1 : sizeOf P e = 1 := by rw [tk_size (by rw [b3]; simp), b3]; rfl
      rw [offOf_arr he1 hin] at h3
      cases r with
      | cons q r =>
        cases q with
        | idx => exact h3.elim
        | fld j => obtain ⟨fs', f', g1, _⟩ := h3; rw [b3] at g1; cases g1
      | nil =>
        obtain ⟨rfl, rfl⟩ := h3
        have hip : i < ps.length := by omega
        obtain ⟨x, hx⟩ := b6 ps[i] (List.getElem_mem hip)
        have hpi : ps[i]? = some (.sc (.int k x)) := by rw [← hx]; simp [hip]
        have hsplit : ps.map PV.toVal = (ps.map PV.toVal).take i ++ [.int k x] ++ (ps.map PV.toVal).drop (i + 1) := by
          conv => lhs; rw [← List.take_append_drop i (ps.map PV.toVal)]
          rw [List.drop_eq_getElem_cons (by simpa using hip)]
          simp [hx, PV.toVal]
        refine ⟨(ps.map PV.toVal).take i, [.int k x], (ps.map PV.toVal).drop (i + 1), hsplit, by simp; omega, ?_, fun {y d} hy hso => ?_⟩
        · have hval : ((SV.arr u k (.agg ps)).at [.fld i]) = .sc (.int k x) := by
            simp [SV.at, SV.part, PV.fld, PV.parts, List.getD_eq_getElem?_getD, hpi, PV.toInt]
          rw [hval]
          exact .leaf _ _ _ rfl rfl he1 (by rw [b3]; simp)
        · simp only [setOk] at hso
          split at hso
          case h_2 => cases hso
          rename_i k' z _
          split at hso
          case isFalse => cases hso
          rename_i hkk
          subst hkk
          cases hy with
          | leaf _ _ v hl _ _ _ =>
            have hv : v = .int k z := hl
            subst hv
            refine .arr _ _ _ _ _ a1 ⟨n, _, ps.set i (.sc (.int k z)), b1, b2, b3, rfl, by simpa using b5, fun p hp => ?_, ?_⟩
            · rcases List.mem_or_eq_of_mem_set hp with hp | hp
              · exact b6 p hp
              · exact ⟨z, hp⟩
            · rw [List.map_set, List.set_eq_take_append_cons_drop]
              simp [hip, PV.toVal]
theorem fits_notJunk (h : fits P t x = true) : x ≠ .junk := fun hj => by subst hj; simp [fits] at h
theorem fits_good (h : fits P t x = true) (hs : ∀ u xs, x ≠ .agg u xs) (hs2 : ∀ u k pv, x ≠ .arr u k pv) : tk P t ≠ .bad ∧ ∀ fs, tk P t ≠ .struct fs := by
  cases x <;> simp only [fits] at h
  case agg => exact absurd rfl (hs _ _)
  case arr => exact absurd rfl (hs2 _ _ _)
  case junk => cases h
  case undef => cases h
  case tup => cases h
  all_goals first
    | (refine ⟨fun hb => ?_, fun fs hb => ?_⟩ <;> rw [hb] at h <;> simp at h)
theorem svc_alike (ha : alike P u t = true) (hb : tk P u ≠ .bad) (h : SVc P M t x cs) : SVc P M u x cs := by
  cases h with
  | junk _ _ h1 h2 => exact .junk _ _ (by rw [alike_size ha hb]; exact h1) h2
  | leaf _ _ v h1 h2 h3 h4 => exact .leaf _ _ v h1 h2 (by rw [alike_size ha hb]; exact h3) (by rw [alike_tk ha]; exact h4)
  | agg _ u' fs xs _ h1 h2 h3 =>
    refine .agg _ u' fs xs _ (by rw [alike_tk ha]; exact h1) ?_ h3
    unfold alike at h2 ⊢; rw [alike_tk ha]; exact h2
  | arr _ u' k pv _ h1 h2 =>
    refine .arr _ u' k pv _ ?_ h2
    unfold alike at h1 ⊢; rw [alike_tk ha]; exact h1
theorem ok_load (hm : At P C M) {h' : Nat → Own} {y : Operand} (ho : o.op = .load t y) {sy : SV} (hy : Slot P M sy (a.eval y)) (hh : ∀ id ∈ idsOf sy, h' id = M.oh id) (h : eLoad P h' some t sy = some e) : OpOk P C M o a e := by
  unfold eLoad at h
  split at h
  · rename_i id p
    have hid := hh id (by simp [idsOf])
    obtain ⟨hl, _⟩ := hy.leaf_inv (by simp) (by simp) (by simp) (by simp) (by simp)
    split at h
    · rename_i u pv ho1
      rw [hid] at ho1
      cases hal : alike P t (tyAt P u p) <;> simp only [hal, cond_true, cond_false] at h
      · cases h
      · injection h with h; subst h
        obtain ⟨ad, t', hv, hpl⟩ := hl.ptr_row ho1
        have := hpl.ty; subst this
        obtain ⟨n, how⟩ := hm.mem.row id u pv ho1
        obtain ⟨m, cs', F', c1, c2, c3, _⟩ := how.getH hpl
        have htk : tk P t ≠ .bad := by rw [alike_tk hal]; exact c1.good
        have c1' := c1.alike (alike_symm hal)
        have hpl' : PlcH P M.w u (M.G.hnd id) p t ad ∨ True := .inr trivial
        have hsv := reifyRef_ok (hv := M.G.hnd id) ho1 ⟨n, how⟩ (m := 8) c1 c2 (.inr hpl) (fun h => by subst h; exact hpl.elim)
        have hsv2 : SVc P M t (reifyRef P id 8 t (pv.at p) p) cs' := by
          have e1 : SVc P M t (reifyRef P id 8 (tyAt P u p) (pv.at p) p) cs' := svc_alike hal htk hsv
          unfold reifyRef at e1 ⊢
          rw [← alike_tk hal] at e1
          split at e1 <;> rename_i hk
          all_goals first | exact e1 | skip
          cases e1 with
          | agg _ _ fs' _ _ b1 b2 b3 => exact .agg _ _ _ _ _ b1 (alike_refl b1) b3
          | leaf _ _ _ hlf => exact hlf.elim
        refine opOk_val ?_ (hm.pure (svc_slot hsv2))
        have hrun := run_loadVar' htk c2 (by rw [c1.len, alike_size hal htk])
        simp [execOp, ho, hv, Instr.loadAt, Instr.sureAddr, hrun]
    · rename_i u sv ho1
      rw [hid] at ho1
      cases hal : (alike P t (tyAt P u p) && fits P t (sv.at p)) <;> simp only [hal, cond_true, cond_false] at h
      · cases h
      · simp only [Bool.and_eq_true] at hal
        injection h with h; subst h
        obtain ⟨g, o1, t', hd, hv, hpl⟩ := hl.ptr_box ho1
        have := hpl.ty; subst this
        obtain ⟨g', bcs, b1, b2, b3, b4⟩ := hm.mem.box id u sv ho1
        rw [hd] at b1; injection b1 with b1; injection b1 with b1; injection b1 with b1
        subst b1
        obtain ⟨A, c, B, d1, d2, d3, _⟩ := b4.at_ hpl (fits_notJunk hal.2)
        have htk : tk P t ≠ .bad := by
          cases hs : sv.at p with
          | agg u' xs =>
            rw [hs] at d3
            cases d3 with
            | agg _ _ fs _ _ e1 _ _ => rw [alike_tk hal.1, e1]; simp
            | leaf _ _ _ hlf => exact hlf.elim
          | arr u' k pv =>
            rw [hs] at d3
            cases d3 with
            | arr _ _ _ _ _ e1 e2 =>
              obtain ⟨n, e, ps, _, q2, _⟩ := e2
              rw [alike_tk hal.1, alike_tk e1, q2]; simp
            | leaf _ _ _ hlf => exact hlf.elim
          | _ => exact (fits_good hal.2 (by rw [hs]; simp) (by rw [hs]; simp)).1
        have hsv := svc_alike hal.1 htk d3
        refine opOk_val ?_ (hm.pure (svc_slot hsv))
        have hloc : Loc M.w ⟨g, o1, none⟩ c := fun q u hq => by
          rw [add_none]
          have hlt := (List.getElem?_eq_some_iff.1 hq).1
          have : bcs.toList[o1 + q]? = some u := by
            rw [d1, d2, Nat.zero_add, List.getElem?_append_left (by simp; omega), List.getElem?_append_right (by omega)]
            simpa using hq
          simpa [World.cell?, b3] using this
        have hrun := run_loadVar' htk hloc hsv.len
        simp [execOp, ho, hv, Instr.loadAt, Instr.sureAddr, hrun]
    · rename_i u qs ho1
      rw [hid] at ho1
      split at h
      case h_2 => cases h
      rename_i j
      cases hal : alike P t (etype P u) <;> simp only [hal, cond_true, cond_false] at h
      · cases h
      injection h with h; subst h
      simp only [Leaf, ho1] at hl
      obtain ⟨_, ad, t', hv, el, A, len, cap, hsl, hvs, hj, q1, q2⟩ := hl
      have hjl : j < qs.length := by
        obtain ⟨_, _, _, _, hown, _⟩ := hm.mem.shl id u qs ho1
        obtain ⟨_, _, hv2, _⟩ := ownsRow_slice hown
        rw [hvs] at hv2; injection hv2 with _ e2 _; omega
      obtain ⟨g, cap', n, c, hv', hloc, hrd⟩ := (hm.mem.shl id u qs ho1).elem hsl hjl
      have hA : A = ⟨g, 0, none⟩ := by rw [hvs] at hv'; injection hv' with e1 _ _; injection e1
      subst hA q2
      rw [etype_of hsl] at hal
      have h4' := hrd.alike (alike_symm hal)
      refine opOk_val ?_ (hm.pure (svc_slot (reifyRo_ok (m := 8) h4')))
      have hrun := run_loadVar' h4'.good hloc h4'.len
      simp [execOp, ho, hv, Instr.loadAt, Instr.sureAddr, hrun]
    · cases h
  · rename_i u pv
    cases hal : alike P t u <;> simp only [hal, cond_true, cond_false] at h
    · cases h
    · injection h with h; subst h
      obtain ⟨⟨ad, n, cs, hv, h1, h2, h3, h4⟩, _⟩ := hy.leaf_inv (by simp) (by simp) (by simp) (by simp) (by simp)
      have h4' := h4.alike (alike_symm hal)
      refine opOk_val ?_ (hm.pure (svc_slot (reifyRo_ok (m := 8) h4')))
      have hrun := run_loadVar' h4'.good h3 h4'.len
      simp [execOp, ho, hv, Instr.loadAt, Instr.sureAddr, hrun]
  · cases h
end
end Go.Proofs.YtfbkfhdlingedaaAm

/-! Slots read as trees (contT), slots taken over (takeT). -/
namespace Go.Proofs.YtfbkfhdlingedaaAm
open Go RowKit
section
variable {P : Program} {C : Cx} {M : Mm} {x : SV} {v : Value} {o : Oper} {a : Act} {e : Eff} {n : Nat} {t t' u : TypeId} {pv : PV} {cs : List Value} {ok : Nat → Prop} {w : World} {F : List Nat} {h' : Nat → Own}
variable [Glb P]
/-- Blocks that reading a slot may meet. -/
def okOf (M : Mm) (l : List Nat) (k : Nat) : Prop := M.ok k ∨ ∃ id ∈ l, k ∈ M.G.ft id
theorem Flds.le {ts : List TypeId} {ps : List PV} {n m : Nat} (h : n ≤ m) (hf : Flds (Rd P ok w n) ts ps cs) : Flds (Rd P ok w m) ts ps cs := hf.imp (fun _ _ _ _ hp => hp.le h)
theorem cont_leaf (hm : Mem P C M) (h : Leaf P M x v) (h1 : one v = true) (hh : ∀ id ∈ idsOf x, h' id = M.oh id) (hsz : ∀ c, x = .sc c → sizeOf P t = 1) {p : PV} (hc : contT P h' t x = some p) : ∃ n, Rd P (okOf M (idsOf x)) M.w n t p [v] := by
  cases x with
  | junk => exact h.elim
  | undef => exact h.elim
  | agg => exact h.elim
  | arr => exact h.elim
  | tup => exact h.elim
  | ptr => simp [contT] at hc
  | rop => simp [contT] at hc
  | err => simp [contT] at hc
  | nil =>
    have hv : v = .slice none 0 0 := h
    subst hv
    simp only [contT] at hc
    split at hc <;> simp at hc
    rename_i e he
    subst hc
    exact ⟨1, by unfold Rd; simp only [he]; exact ⟨none, 0, [], rfl, rfl, Nat.le_refl _, fun h => absurd h (by simp)⟩⟩
  | sc c =>
    have hv : v = c := h
    subst hv
    simp only [contT] at hc
    refine ⟨1, ?_⟩
    unfold Rd
    split at hc <;> rename_i hk
    · split at hc <;> simp at hc
      rename_i he
      subst hc he
      simp only [hk]; exact ⟨_, rfl, rfl⟩
    · simp at hc; subst hc; simp only [hk]; exact ⟨_, rfl, rfl⟩
    · simp at hc; subst hc; simp only [hk]; exact ⟨_, rfl, rfl⟩
    · simp at hc; subst hc; simp only [hk]; exact ⟨_, rfl, rfl, h1⟩
    · cases hc
  | ro u pv =>
    obtain ⟨n, e, he, hr⟩ := h
    simp only [contT] at hc
    cases hal : alike P t u <;> simp only [hal, cond_true, cond_false] at hc
    · cases hc
    · injection hc with hc; subst hc
      exact ⟨n, (hr.alike (alike_symm hal)).mono (fun k hk => .inl hk)⟩
  | con g u pv =>
    obtain ⟨_, n, e, he, hr⟩ := h
    simp only [contT] at hc
    cases hal : alike P t u <;> simp only [hal, cond_true, cond_false] at hc
    · cases hc
    · injection hc with hc; subst hc
      exact ⟨n, (hr.alike (alike_symm hal)).mono (fun k hk => .inl hk)⟩
  | ref id p =>
    have hid := hh id (by simp [idsOf])
    simp only [contT] at hc
    split at hc
    · rename_i e u pv he ho
      rw [hid] at ho
      cases hal : alike P t (tyAt P u p) <;> simp only [hal, cond_true, cond_false] at hc
      · cases hc
      · injection hc with hc; subst hc
        obtain ⟨n, how⟩ := hm.row id u pv ho
        have hr := h.ref_row ho
        obtain ⟨m, xs, ps, F', c1, c2, _⟩ := hr.val how (by rw [← alike_tk hal]; exact he)
        exact ⟨_, (c1.alike (alike_symm hal)).rd (fun k hk => .inr ⟨id, by simp [idsOf], c2 k hk⟩)⟩
    · rename_i e u qs he ho
      rw [hid] at ho
      split at hc
      case h_2 => cases hc
      cases hal : alike P t u <;> simp only [hal, cond_true, cond_false] at hc
      · cases hc
      · injection hc with hc; subst hc
        simp only [Leaf, ho] at h
        obtain ⟨n, hr⟩ := (hm.shl id u qs ho).rd
        rw [h.2]
        exact ⟨_, (hr.alike (alike_symm hal)).mono (fun k hk => hk.imp (fun h => h) (fun hk => ⟨id, by simp [idsOf], hk⟩))⟩
    · cases hc
  | view id p lo hi =>
    have hid := hh id (by simp [idsOf])
    have sub : ∀ {e : TypeId} {A A' : Option Addr} {len cap cap' : Nat} {q : PV} {m : Nat}, tk P t = .slice e → Rd P (okOf M [id]) M.w (m + 1) t q [.slice A len cap] → lo ≤ hi → hi ≤ len → hi - lo ≤ cap' → (lo < hi → ∃ ad, A = some ad ∧ A' = some (ad.add (lo * sizeOf P e))) → Rd P (okOf M [id]) M.w (m + 1) t (.list ((q.items.drop lo).take (hi - lo))) [.slice A' (hi - lo) cap'] := fun {e A A' len cap cap' q m} he c5 g1 g2 g4 g5 => by
      unfold Rd at c5
      simp only [he] at c5
      obtain ⟨A1, cap1, ps, d1, rfl, d3, d4⟩ := c5
      simp at d1
      obtain ⟨d1, dl, d6⟩ := d1
      subst d1 dl d6
      have hll : ((ps.drop lo).take (hi - lo)).length = hi - lo := by simp; omega
      unfold Rd
      simp only [he]
      refine ⟨A', cap', (ps.drop lo).take (hi - lo), by rw [hll], rfl, by omega, fun h0 => ?_⟩
      obtain ⟨ad, rfl, rfl⟩ := g5 (by omega)
      obtain ⟨ad', e1, e2, e3⟩ := d4 (by omega)
      injection e1 with e1; subst e1
      refine ⟨_, rfl, by rw [add_block]; exact e2, fun j q hj => ?_⟩
      have hj' : ps[lo + j]? = some q := by
        rw [List.getElem?_take] at hj
        split at hj
        · rwa [List.getElem?_drop] at hj
        · cases hj
      obtain ⟨c, f1, f2, f3⟩ := e3 _ _ hj'
      refine ⟨c, f1, fun q u hq => ?_, f3⟩
      rw [add_add, ← Nat.add_assoc, ← Nat.add_mul]
      exact f2 q u hq
    simp only [contT] at hc
    split at hc
    · rename_i e u pv he ho
      rw [hid] at ho
      cases hal : alike P t (tyAt P u p) <;> simp only [hal, cond_true, cond_false] at hc
      · cases hc
      · injection hc with hc; subst hc
        obtain ⟨n, how⟩ := hm.row id u pv ho
        simp only [Leaf, ho] at h
        obtain ⟨e', A, len, cap, A', cap', hsl, hr, g1, g2, g3, g4, g5, _⟩ := h
        have : e = e' := by rw [← alike_tk hal, he] at hsl; injection hsl
        subst this
        obtain ⟨m, xs, ps, F', c1, c2, c3, c4⟩ := hr.val how hsl
        have c5 := (c1.alike (alike_symm hal)).rd (ok := okOf M [id]) (fun k hk => .inr ⟨id, by simp, c2 k hk⟩)
        rw [g3]
        exact ⟨m + 1, sub he c5 g1 g2 g4 g5⟩
    · rename_i e u qs he ho
      rw [hid] at ho
      split at hc
      case h_2 => cases hc
      cases hal : alike P t u <;> simp only [hal, cond_true, cond_false] at hc
      · cases hc
      · injection hc with hc; subst hc
        simp only [Leaf, ho] at h
        obtain ⟨_, e', A, len, cap, A', cap', hsl, hr, g1, g2, g3, g4, g5, _⟩ := h
        have hsl' : tk P u = .slice e' := hsl
        have : e = e' := by rw [← alike_tk hal, he] at hsl'; injection hsl'
        subst this
        obtain ⟨m, c5⟩ := (hm.shl id u qs ho).rd
        rw [← hr] at c5
        have c6 := (c5.alike (alike_symm hal)).mono (ok' := okOf M [id]) (fun k hk => hk.imp (fun h => h) (fun hk => ⟨id, by simp, hk⟩))
        rw [g3]
        exact ⟨m + 1, sub he c6 g1 g2 g4 g5⟩
    · cases hc
mutual
theorem cont_svc (hm : Mem P C M) : ∀ {t : TypeId} {x : SV} {cs : List Value}, SVc P M t x cs → (∀ id ∈ idsOf x, h' id = M.oh id) → ∀ {p : PV}, contT P h' t x = some p → ∃ n, Rd P (okOf M (idsOf x)) M.w n t p cs
  | _, _, _, .junk _ _ _ _, _, p, hc => by simp [contT] at hc
  | t, x, _, .leaf _ _ v h1 h2 h3 h4, hh, p, hc => cont_leaf hm h1 h2 hh (fun _ _ => h3) hc
  | t, _, cs, .agg _ u fs xs _ h1 h2 h3, hh, p, hc => by
    simp only [contT, h1, h2, cond_true] at hc
    cases hl : contTL P h' fs xs with
    | none => rw [hl] at hc; cases hc
    | some ps =>
      rw [hl] at hc; simp at hc; subst hc
      obtain ⟨n, hn⟩ := cont_svcL hm h3 (by simpa [idsOf] using hh) hl
      exact ⟨n + 1, by unfold Rd; simp only [h1]; exact ⟨ps, rfl, by simpa [idsOf] using hn⟩⟩
  | t, _, cs, .arr _ u k pv _ h1 h2, hh, p, hc => by
    obtain ⟨n, e, ps, b1, b2, _⟩ := id h2
    have b3 := (alike_tk h1).trans b2
    simp only [contT, b3, h1, cond_true] at hc
    injection hc with hc; subst hc
    exact ⟨2, (h2.rd _ _).alike (alike_symm h1)⟩
theorem cont_svcL (hm : Mem P C M) : ∀ {ts : List TypeId} {xs : List SV} {cs : List Value}, SVcL P M ts xs cs → (∀ id ∈ idsOfL xs, h' id = M.oh id) → ∀ {ps : List PV}, contTL P h' ts xs = some ps → ∃ n, Flds (Rd P (okOf M (idsOfL xs)) M.w n) ts ps cs
  | _, _, _, .nil, _, ps, hc => by simp [contTL] at hc; subst hc; exact ⟨0, rfl⟩
  | _, _, _, .cons t ts x xs c cs h1 h2, hh, ps, hc => by
    simp only [contTL] at hc
    cases hx : contT P h' t x with
    | none => rw [hx] at hc; cases hc
    | some p =>
      cases hl : contTL P h' ts xs with
      | none => rw [hx, hl] at hc; cases hc
      | some qs =>
        rw [hx, hl] at hc; simp at hc; subst hc
        obtain ⟨n, hn⟩ := cont_svc hm h1 (fun id hi => hh id (by simp [idsOfL, hi])) hx
        obtain ⟨m, hm'⟩ := cont_svcL hm h2 (fun id hi => hh id (by simp [idsOfL, hi])) hl
        have up : ∀ {l1 l2 : List Nat}, (∀ i ∈ l1, i ∈ l2) → ∀ k, okOf M l1 k → okOf M l2 k := fun hs k hk => hk.imp id (fun ⟨i, hi, hk⟩ => ⟨i, hs i hi, hk⟩)
        refine ⟨max n m, c, cs, rfl, (hn.mono (up (fun i hi => by simp [idsOfL, hi]))).le (Nat.le_max_left _ _), ?_⟩
        exact (hm'.imp (fun t p c _ hp => hp.mono (up (fun i hi => by simp [idsOfL, hi])))).le (Nat.le_max_right _ _)
end
theorem OwFlds.le {ts : List TypeId} {ps : List PV} {n m : Nat} (h : n ≤ m) (hf : OwFlds (Ow P w n) ts ps cs F) : OwFlds (Ow P w m) ts ps cs F := hf.imp (fun _ _ _ _ _ hp => hp.le h)
theorem OwSeq.flat {R : PV → List Value → List Nat → Prop} {sz : Nat} (hR : ∀ p c f, R p c f → f = []) : ∀ {ps : List PV} {xs : List Value} {F : List Nat}, OwSeq R sz ps xs F → F = []
  | [], _, _, h => h.2
  | p :: ps, xs, F, ⟨c, cs', f, F', _, _, h3, h4, h5⟩ => by rw [h3, hR _ _ _ h4, OwSeq.flat hR h5]; rfl
theorem OwFlds.flat {R : TypeId → PV → List Value → List Nat → Prop} : ∀ {ts : List TypeId} {ps : List PV} {xs : List Value} {F : List Nat}, (∀ t ∈ ts, ∀ p c f, R t p c f → f = []) → OwFlds R ts ps xs F → F = []
  | [], [], _, _, _, h => h.2
  | t :: ts, p :: ps, xs, F, hR, ⟨c, cs', f, F', _, h3, h4, h5⟩ => by rw [h3, hR t (by simp) _ _ _ h4, OwFlds.flat (fun t ht => hR t (by simp [ht])) h5]; rfl
  | [], _ :: _, _, _, _, h => h.elim
  | _ :: _, [], _, _, _, h => h.elim
theorem Ow.flat_nil : ∀ {m : Nat} {n : Nat} {t : TypeId} {p : PV} {c : List Value} {F : List Nat}, YtfbkfhdlingedaaAm.flat P m t = true → Ow P w n t p c F → F = []
  | 0, _, _, _, _, _, h, _ => by simp [YtfbkfhdlingedaaAm.flat] at h
  | m + 1, 0, _, _, _, _, _, h => h.elim
  | m + 1, n + 1, t, p, c, F, hf, h => by
    unfold Ow at h
    cases ht : tk P t with
    | int k => simp only [ht] at h; exact h.2
    | bool => simp only [ht] at h; exact h.2
    | str => simp only [ht] at h; exact h.2
    | slice e => exact absurd ht (flat_noSlice hf)
    | struct fs =>
      simp only [ht] at h
      obtain ⟨ps, _, h⟩ := h
      simp only [YtfbkfhdlingedaaAm.flat, ht] at hf
      exact OwFlds.flat (fun t ht p c f hp => Ow.flat_nil (List.all_eq_true.1 hf t ht) hp) h
    | other => simp only [ht] at h; exact h.2
    | bad => simp only [ht] at h
theorem OwSeq.take {R : PV → List Value → List Nat → Prop} {sz : Nat} : ∀ (k : Nat) {ps : List PV} {xs : List Value}, OwSeq R sz ps xs [] → OwSeq R sz (ps.take k) (xs.take (k * sz)) []
  | 0, ps, xs, h => by simp [OwSeq]
  | k + 1, [], xs, h => by obtain ⟨rfl, _⟩ := h; simp [OwSeq]
  | k + 1, p :: ps, xs, ⟨c, cs', f, F', h1, h2, h3, h4, h5⟩ => by
    obtain ⟨rfl, rfl⟩ : f = [] ∧ F' = [] := by simpa using h3.symm
    refine ⟨c, cs'.take (k * sz), [], [], ?_, h2, rfl, h4, OwSeq.take k h5⟩
    rw [h1, List.take_append, h2, Nat.add_mul, Nat.one_mul, List.take_of_length_le (by omega), Nat.add_sub_cancel]
theorem take_leaf (hm : Mem P C M) (h : Leaf P M x v) (h1 : one v = true) (hh : ∀ id ∈ idsOf x, h' id = M.oh id) {p : PV} {l : List Nat} (hc : takeT P h' t x = some (p, l)) : (∃ n, Ow P M.w n t p [v] (l.flatMap M.G.ft)) ∧ (∀ i ∈ l, i ∈ idsOf x ∧ ∃ u q, M.oh i = .row u q) := by
  cases x with
  | junk => exact h.elim
  | undef => exact h.elim
  | agg => exact h.elim
  | arr => exact h.elim
  | tup => exact h.elim
  | ptr => simp [takeT] at hc
  | rop => simp [takeT] at hc
  | err => simp [takeT] at hc
  | view id p0 lo hi =>
    cases p0 with
    | cons s r => simp [takeT] at hc
    | nil =>
      have hid := hh id (by simp [idsOf])
      simp only [takeT] at hc
      split at hc <;> try cases hc
      rename_i e u pv he ho
      rw [hid] at ho
      cases hal : (Nat.beq lo 0 && alike P t u && flat P 8 e) <;> simp only [hal, cond_true, cond_false] at hc
      · cases hc
      · injection hc with hc; injection hc with hc1 hc2; subst hc1 hc2
        simp only [Bool.and_eq_true] at hal
        obtain ⟨⟨hlo, hal⟩, hfl⟩ := hal
        have hlo' : lo = 0 := Nat.beq_eq.mp hlo
        subst hlo'
        simp only [Leaf, ho] at h
        obtain ⟨e', A, len, cap, A', cap', hsl, hr, g1, g2, g3, g4, _, g6⟩ := h
        obtain ⟨rfl, rfl⟩ := g6 trivial
        obtain ⟨n, how⟩ := hm.row id u pv ho
        have hr' : Value.slice A' len cap' = M.G.hnd id := by
          rcases hr with ⟨_, h⟩ | ⟨_, _, _, h, _⟩
          · exact h
          · exact h.elim
        have how2 := how.alike (alike_symm hal)
        cases n with
        | zero => exact how2.elim
        | succ n =>
        unfold Ow at how2
        simp only [he] at how2
        obtain ⟨v0, xs, ps, F', c1, rfl, c3, c4, c5⟩ := how2
        simp at c1
        rw [← hr'] at c1
        subst c1
        have hF : F' = [] := OwSeq.flat (fun p c f hp => Ow.flat_nil hfl hp) c5
        subst hF
        refine ⟨⟨n + 1, ?_⟩, fun i hi => by simp at hi; subst hi; exact ⟨by simp [idsOf], u, _, ho⟩⟩
        unfold Ow
        simp only [he]
        have hv : v = .slice A' hi cap' := by rw [g3]; simp
        subst hv
        have hlen : len = ps.length := by
          rcases c3.2 with ⟨h, h0⟩ | ⟨g, cap2, cur, fz, h, _⟩
          · injection h with _ h _; omega
          · injection h
        have hpl : ((PV.list ps).items.take hi).length = hi := by simp [PV.items]; omega
        refine ⟨_, xs.take (hi * sizeOf P e), (PV.list ps).items.take hi, [], rfl, rfl, ?_, ?_, ?_⟩
        · rw [hpl]
          refine ⟨by rw [List.length_take, c3.1]; have := Nat.mul_le_mul_right (sizeOf P e) (show hi ≤ ps.length by omega); omega, ?_⟩
          rcases c3.2 with ⟨h, h0⟩ | ⟨g, cap2, cur, fz, h, d1, d2, d3, d4, d5, d6⟩
          · injection h with e1 e2 e3
            subst e1 e3
            have : hi = 0 := by omega
            subst this
            exact .inl ⟨rfl, rfl⟩
          · injection h with e1 e2 e3
            subst e1 e3
            refine .inr ⟨g, cap', cur, fz, rfl, d1, d2, by omega, d4, d5, ?_⟩
            have hm2 := Nat.mul_le_mul_right (sizeOf P e) (show hi ≤ ps.length by omega)
            rw [← d6, List.take_take, Nat.min_eq_left hm2]
        · have c4' : M.G.ft id = (Value.slice A' len cap').ownBlock.toList := by simpa using c4
          have : (Value.slice A' len cap').ownBlock = (Value.slice A' hi cap').ownBlock := by unfold Value.ownBlock; cases A' <;> rfl
          rw [this] at c4'
          simpa using c4'
        · exact OwSeq.take hi c5
  | ro => simp [takeT] at hc
  | con => simp [takeT] at hc
  | nil =>
    have hv : v = .slice none 0 0 := h
    subst hv
    simp only [takeT] at hc
    split at hc <;> simp at hc
    rename_i e he
    obtain ⟨rfl, rfl⟩ := hc
    exact ⟨⟨1, by unfold Ow; simp only [he]; exact ⟨_, [], [], [], rfl, rfl, ⟨by simp, .inl ⟨rfl, rfl⟩⟩, rfl, rfl, rfl⟩⟩, by simp⟩
  | sc c =>
    have hv : v = c := h
    subst hv
    simp only [takeT] at hc
    have fin : ∀ {p : PV} {l : List Nat}, l = [] → Ow P M.w 1 t p [v] [] → (∃ n, Ow P M.w n t p [v] (l.flatMap M.G.ft)) ∧ (∀ i ∈ l, i ∈ idsOf (.sc v) ∧ ∃ u q, M.oh i = .row u q) := fun hl ho => by subst hl; exact ⟨⟨1, ho⟩, by simp⟩
    split at hc <;> rename_i hk
    · split at hc <;> simp at hc
      rename_i he
      obtain ⟨rfl, hl⟩ := hc
      subst he
      exact fin hl (by unfold Ow; simp only [hk]; exact ⟨⟨_, rfl, rfl⟩, trivial⟩)
    · simp at hc; obtain ⟨rfl, hl⟩ := hc; exact fin hl (by unfold Ow; simp only [hk]; exact ⟨⟨_, rfl, rfl⟩, trivial⟩)
    · simp at hc; obtain ⟨rfl, hl⟩ := hc; exact fin hl (by unfold Ow; simp only [hk]; exact ⟨⟨_, rfl, rfl⟩, trivial⟩)
    · simp at hc; obtain ⟨rfl, hl⟩ := hc; exact fin hl (by unfold Ow; simp only [hk]; exact ⟨⟨_, rfl, rfl, h1⟩, trivial⟩)
    · cases hc
  | ref id p0 =>
    have hid := hh id (by simp [idsOf])
    cases p0 with
    | cons s r => simp [takeT] at hc
    | nil =>
      simp only [takeT] at hc
      split at hc <;> try cases hc
      rename_i e u pv he ho
      rw [hid] at ho
      cases hal : alike P t u <;> simp only [hal, cond_true, cond_false] at hc
      · cases hc
      · injection hc with hc; injection hc with e1 e2; subst e1 e2
        obtain ⟨n, how⟩ := hm.row id u pv ho
        have hr := h.ref_row ho
        have hv : v = M.G.hnd id := by
          rcases hr with ⟨_, h⟩ | ⟨_, _, _, h, _⟩
          · exact h
          · exact h.elim
        subst hv
        exact ⟨⟨n, by simpa using how.alike (alike_symm hal)⟩, fun i hi => by simp at hi; subst hi; exact ⟨by simp [idsOf], u, pv, ho⟩⟩
theorem arr_owflds {w : World} {e : TypeId} {k : IntKind} (he : tk P e = .int k) : ∀ (ps : List PV), (∀ p ∈ ps, ∃ x, p = .sc (.int k x)) → OwFlds (Ow P w 1) (List.replicate ps.length e) ps (ps.map PV.toVal) []
  | [], _ => ⟨rfl, rfl⟩
  | p :: ps, h => by
    obtain ⟨x, hx⟩ := h p List.mem_cons_self
    subst hx
    exact ⟨[.int k x], ps.map PV.toVal, [], [], rfl, rfl, by unfold Ow; simp only [he]; exact ⟨⟨x, rfl, rfl⟩, trivial⟩, arr_owflds he ps (fun q hq => h q (List.mem_cons_of_mem _ hq))⟩
theorem ArrC.ow {k : IntKind} (h : ArrC P t k pv cs) (w : World) : Ow P w 2 t pv cs [] := by
  obtain ⟨n, e, ps, h1, h2, h3, rfl, h5, h6, rfl⟩ := h
  subst h5
  unfold Ow
  simp only [h2]
  exact ⟨ps, rfl, arr_owflds h3 ps h6⟩
mutual
theorem take_svc (hm : Mem P C M) : ∀ {t : TypeId} {x : SV} {cs : List Value}, SVc P M t x cs → (∀ id ∈ idsOf x, h' id = M.oh id) → ∀ {p : PV} {l : List Nat}, takeT P h' t x = some (p, l) → (∃ n, Ow P M.w n t p cs (l.flatMap M.G.ft)) ∧ (∀ i ∈ l, i ∈ idsOf x ∧ ∃ u q, M.oh i = .row u q)
  | _, _, _, .junk _ _ _ _, _, p, l, hc => by simp [takeT] at hc
  | t, x, _, .leaf _ _ v h1 h2 h3 h4, hh, p, l, hc => take_leaf hm h1 h2 hh hc
  | t, _, cs, .agg _ u fs xs _ h1 h2 h3, hh, p, l, hc => by
    simp only [takeT, h1, h2, cond_true] at hc
    cases hl : takeTL P h' fs xs with
    | none => rw [hl] at hc; cases hc
    | some r =>
      obtain ⟨ps, l'⟩ := r
      rw [hl] at hc; simp at hc
      obtain ⟨rfl, rfl⟩ := hc
      obtain ⟨⟨n, hn⟩, hi⟩ := take_svcL hm h3 (by simpa [idsOf] using hh) hl
      exact ⟨⟨n + 1, by unfold Ow; simp only [h1]; exact ⟨ps, rfl, hn⟩⟩, by simpa [idsOf] using hi⟩
  | t, _, cs, .arr _ u k pv _ h1 h2, hh, p, l, hc => by
    obtain ⟨n, e, ps, b1, b2, _⟩ := id h2
    have b3 := (alike_tk h1).trans b2
    simp only [takeT, b3, h1, cond_true] at hc
    injection hc with hc; injection hc with e1 e2; subst e1 e2
    exact ⟨⟨2, (h2.ow _).alike (alike_symm h1)⟩, by simp⟩
theorem take_svcL (hm : Mem P C M) : ∀ {ts : List TypeId} {xs : List SV} {cs : List Value}, SVcL P M ts xs cs → (∀ id ∈ idsOfL xs, h' id = M.oh id) → ∀ {ps : List PV} {l : List Nat}, takeTL P h' ts xs = some (ps, l) → (∃ n, OwFlds (Ow P M.w n) ts ps cs (l.flatMap M.G.ft)) ∧ (∀ i ∈ l, i ∈ idsOfL xs ∧ ∃ u q, M.oh i = .row u q)
  | _, _, _, .nil, _, ps, l, hc => by simp [takeTL] at hc; obtain ⟨rfl, rfl⟩ := hc; exact ⟨⟨0, rfl, rfl⟩, by simp⟩
  | _, _, _, .cons t ts x xs c cs h1 h2, hh, ps, l, hc => by
    simp only [takeTL] at hc
    cases hx : takeT P h' t x with
    | none => rw [hx] at hc; cases hc
    | some r1 =>
      obtain ⟨p, l1⟩ := r1
      cases hl : takeTL P h' ts xs with
      | none => rw [hx, hl] at hc; cases hc
      | some r2 =>
        obtain ⟨qs, l2⟩ := r2
        rw [hx, hl] at hc; simp at hc
        obtain ⟨rfl, rfl⟩ := hc
        obtain ⟨⟨n, hn⟩, hi1⟩ := take_svc hm h1 (fun id hi => hh id (by simp [idsOfL, hi])) hx
        obtain ⟨⟨m, hm'⟩, hi2⟩ := take_svcL hm h2 (fun id hi => hh id (by simp [idsOfL, hi])) hl
        refine ⟨⟨max n m, c, cs, _, _, rfl, by simp, hn.le (Nat.le_max_left _ _), hm'.le (Nat.le_max_right _ _)⟩, fun i hi => ?_⟩
        rcases List.mem_append.1 hi with h | h
        · exact ⟨by simp [idsOfL, (hi1 i h).1], (hi1 i h).2⟩
        · exact ⟨by simp [idsOfL, (hi2 i h).1], (hi2 i h).2⟩
end
end
end Go.Proofs.YtfbkfhdlingedaaAm

/-! Fields of values, tuples, lengths, slices of slices. -/
namespace Go.Proofs.YtfbkfhdlingedaaAm
open Go RowKit
section
variable {P : Program} {C : Cx} {M : Mm} {x : SV} {v : Value} {o : Oper} {a : Act} {e : Eff} {n : Nat} {t t' u : TypeId} {pv : PV} {cs : List Value} {ok : Nat → Prop} {w : World} {F : List Nat} {h' : Nat → Own}
variable [Glb P]
theorem info_of (hb : tk P t ≠ .bad) : ∃ i, P.info? t = some i ∧ i.size = sizeOf P t := by
  cases h : P.info? t with
  | none =>
    exfalso; apply hb
    have : P.underlying t = none := by simp [Program.underlying, h]
    unfold tk; rw [this]
  | some i => exact ⟨i, rfl, by simp [sizeOf, h]⟩
theorem run_part (hb : tk P t ≠ .bad) {A c B : List Value} {arr : Array Value} (ha : arr.toList = A ++ c ++ B) (hc : c.length = sizeOf P t) : (part t arr A.length).run P w = .ok (valOf P t c) w := by
  obtain ⟨i, h1, h2⟩ := info_of hb
  cases ht : tk P t
  case struct fs =>
    obtain ⟨hu, hag⟩ := isAgg_struct ht w
    have : arr.extract A.length (A.length + sizeOf P t) = c.toArray := by
      apply Array.toList_inj.1
      rw [Array.toList_extract, ha, List.extract_eq_take_drop]
      simp [← hc]
    simp [part, hag, run_sizeOf' h1, h2, this, valOf, ht]
  all_goals
    have hag := tk_notAgg hb (fun fs => by rw [ht]; simp) w
    have h1 : sizeOf P t = 1 := by rw [tk_size hb, ht]; rfl
    rw [h1] at hc
    obtain ⟨y, rfl⟩ : ∃ y, c = [y] := by
      cases c with
      | nil => simp at hc
      | cons y r => cases r with
        | nil => exact ⟨y, rfl⟩
        | cons => simp at hc
    have : arr[A.length]? = some y := by rw [← Array.getElem?_toList, ha]; simp
    simp [part, hag, this, valOf, ht]
theorem ok_field (hm : At P C M) {y : Operand} {i : Nat} (ho : o.op = .field t y i) {sy : SV} (hy : Slot P M sy (a.eval y)) (h : eField P some t i sy = some e) : OpOk P C M o a e := by
  unfold eField at h
  split at h
  · rename_i u ys
    split at h
    · rename_i fs ht
      split at h
      · cases h
      · rename_i hg
        cases hb : (Nat.blt i fs.length && alike P t u && !isArr P t) <;> simp only [hb, cond_true, cond_false] at h
        · cases h
        · simp only [Bool.and_eq_true, Nat.blt_eq, Bool.not_eq_true'] at hb
          obtain ⟨hb, hna⟩ := hb
          injection h with h; subst h
          have hf := getD_some hb.1
          generalize hvv : a.eval y = vv at hy
          cases hy with
          | leaf _ _ hl => exact hl.elim
          | agg _ _ arr hs =>
            generalize hal : arr.toList = al at hs
            cases hs with
            | leaf _ _ _ hl => exact hl.elim
            | agg _ _ fs' _ _ h1 h2 h3 =>
              have : fs' = fs := by rw [← alike_tk hb.2, ht] at h1; injection h1 with h1; exact h1.symm
              subst this
              obtain ⟨z, A, c, B, b1, b2, b3, b4, _⟩ := h3.get hf
              have hgood : tk P (fs'.getD i 0) ≠ .bad := fun hbad => hg hbad
              have hrun := run_part (w := M.w) hgood (hal.trans b2) b4.len
              obtain ⟨gs, hu, hla, hfs⟩ := tk_struct ht hna
              obtain ⟨g, hg1, hg2⟩ : ∃ g, gs.toList[i]? = some g ∧ g.type = fs'.getD i 0 := by
                rw [hfs] at hf
                simp at hf
                obtain ⟨g, q1, q2⟩ := hf
                exact ⟨g, by simpa using q1, by rw [q2, hfs]; simp⟩
              have hoff := laid_off hla hg1
              have hoff' : g.offset = A.length := by rw [hoff, b3, offOf, hfs]; simp
              have hg' : gs[i]? = some g := by simpa using hg1
              have hz : ys.getD i .junk = z := by rw [List.getD_eq_getElem?_getD, b1]; rfl
              refine opOk_val ?_ (hm.pure (hz ▸ svc_slot b4))
              have hfin : (Instr.field t (.agg arr) i).run P M.w = .ok (valOf P (fs'.getD i 0) c) M.w := by
                simp only [Instr.field, Sem.run_bind, run_underlying hu, Result.andThen_ok, hg', asAgg, Sem.run_pure, hg2, hoff', hrun]
              simp only [execOp, ho, hvv, Sem.run_bind, hfin, Result.andThen_ok, Sem.run_pure]
    · cases h
  · cases h
/-! ### Structs of plain values, compared. -/
theorem svc_sc {v : Value} {c : List Value} (h : SVc P M t (.sc v) c) : c = [v] ∧ sizeOf P t = 1 := by
  cases h with
  | leaf _ _ v' h1 h2 h3 h4 =>
    have : v' = v := h1
    exact ⟨by rw [this], h3⟩
theorem valOf_one' (h : ∀ fs, tk P t ≠ .struct fs) (v : Value) : valOf P t [v] = v := by
  unfold valOf
  split
  · rename_i fs hf; exact absurd hf (h fs)
  · rfl
theorem eqSc_spec {α : Type} {x y : SV} {f : Bool → Option α} {r : α} {c d : List Value} (h : eqSc P t x y f = some r) (hx : SVc P M t x c) (hy : SVc P M t y d) :
    ∃ b v u, f b = some r ∧ c = [v] ∧ d = [u] ∧ sizeOf P t = 1 ∧ tk P t ≠ .bad ∧ (∀ fs, tk P t ≠ .struct fs) ∧ ∀ (w : World) (k : Nat), (Op.equalIn (k + 1) t v u).run P w = .ok b w := by
  unfold eqSc at h
  split at h
  · rename_i ht
    split at h
    case isFalse => cases h
    rename_i hkk
    subst hkk
    obtain ⟨rfl, hz⟩ : c = [_] ∧ sizeOf P t = 1 := svc_sc hx
    obtain ⟨rfl, _⟩ : d = [_] ∧ sizeOf P t = 1 := svc_sc hy
    exact ⟨_, _, _, h, rfl, rfl, hz, by rw [ht]; simp, fun fs => by rw [ht]; simp, fun w k => by
      rw [run_equalIn_int w k t _ _ _ _ (tk_int ht)]; simp [Bool.beq_eq_decide_eq]⟩
  · rename_i ht
    obtain ⟨rfl, hz⟩ : c = [_] ∧ sizeOf P t = 1 := svc_sc hx
    obtain ⟨rfl, _⟩ : d = [_] ∧ sizeOf P t = 1 := svc_sc hy
    exact ⟨_, _, _, h, rfl, rfl, hz, by rw [ht]; simp, fun fs => by rw [ht]; simp, fun w k => by
      rw [run_equalIn_string w k t _ _ (tk_str ht)]; simp [Bool.beq_eq_decide_eq]⟩
  · rename_i ht
    obtain ⟨rfl, hz⟩ : c = [_] ∧ sizeOf P t = 1 := svc_sc hx
    obtain ⟨rfl, _⟩ : d = [_] ∧ sizeOf P t = 1 := svc_sc hy
    exact ⟨_, _, _, h, rfl, rfl, hz, by rw [ht]; simp, fun fs => by rw [ht]; simp, fun w k => run_equalIn_bool' w k t _ _ (tk_bool ht)⟩
  · cases h
theorem eqFl_spec {α : Type} : ∀ {gs : List Field} {xs ys : List SV} {f : Bool → Option α} {r : α} {A B c d : List Value} {X Y : Array Value} {n : Nat}, eqFl P (gs.map (·.type)) xs ys f = some r → (gs.all fun g => g.name != "_") = true → laid P A.length gs n = true →
    SVcL P M (gs.map (·.type)) xs c → SVcL P M (gs.map (·.type)) ys d → X.toList = A ++ c → Y.toList = B ++ d → B.length = A.length → ∃ b, f b = some r ∧ ∀ w, (Op.eqFields 9999 X Y gs).run P w = .ok b w
  | [], xs, ys, f, r, A, B, c, d, X, Y, n, h, _, _, hx, hy, _, _, _ => by
    cases hx; cases hy
    exact ⟨true, h, fun w => by simp [Op.eqFields]⟩
  | g :: gs, xs, ys, f, r, A, B, c, d, X, Y, n, h, hn, hl, hx, hy, hX, hY, hAB => by
    simp only [List.map_cons] at hx hy h
    cases hx with
    | cons _ _ x xs' c1 c2 hx1 hx2 =>
      cases hy with
      | cons _ _ y ys' d1 d2 hy1 hy2 =>
        rw [eqFl] at h
        obtain ⟨p, v, u, h1, rfl, rfl, hz, hbad, hns, heq⟩ := eqSc_spec h hx1 hy1
        simp only [List.all_cons, Bool.and_eq_true] at hn
        simp only [laid, Bool.and_eq_true, Nat.beq_eq] at hl
        obtain ⟨q, h2, h3⟩ := eqFl_spec (A := A ++ [v]) (B := B ++ [u]) (X := X) (Y := Y) h1 hn.2 (by have e : (A ++ [v]).length = A.length + sizeOf P g.type := (by rw [hz]; simp); rw [e]; exact hl.2) hx2 hy2 (by rw [hX]; simp) (by rw [hY]; simp) (by simp [hAB])
        refine ⟨p && q, h2, fun w => ?_⟩
        have hp1 := run_part (w := w) hbad (A := A) (c := [v]) (B := c2) (arr := X) (by rw [hX]; simp) (by rw [hz]; rfl)
        have hp2 := run_part (w := w) hbad (A := B) (c := [u]) (B := d2) (arr := Y) (by rw [hY]; simp) (by rw [hz]; rfl)
        rw [valOf_one' hns] at hp1 hp2
        have hnm : g.name ≠ "_" := by simpa using hn.1
        have ho : g.offset = A.length := hl.1
        rw [Op.eqFields, if_pos hnm]
        simp only [Sem.run_bind, ho, hp1, Result.andThen_ok]
        rw [← hAB]
        simp only [hp2, Result.andThen_ok, heq w 9998]
        cases p with
        | false => simp
        | true => simp only [Bool.not_true, Bool.false_eq_true, if_false, Bool.true_and]; exact h3 w
theorem agg_inv {u : TypeId} {xs : List SV} {v : Value} (h : Slot P M (.agg u xs) v) {fs : List TypeId} (ht : tk P t = .struct fs) (hl : alike P t u = true) : ∃ cs : Array Value, v = .agg cs ∧ SVcL P M fs xs cs.toList := by
  cases h with
  | leaf _ _ hl => exact hl.elim
  | agg _ _ arr hs =>
    refine ⟨arr, rfl, ?_⟩
    generalize hal : arr.toList = al at hs
    cases hs with
    | leaf _ _ _ hl => exact hl.elim
    | agg _ _ fs' _ _ h1 h2 h3 =>
      have : fs' = fs := by rw [← alike_tk hl, ht] at h1; injection h1 with h1; exact h1.symm
      subst this
      exact h3
theorem ok_bin (hm : At P C M) {op : BinOp} {t ty : TypeId} {y z : Operand} (ho : o.op = .binOp op t y z ty) {sy sz : SV} (hy : Slot P M sy (a.eval y)) (hz : Slot P M sz (a.eval z)) (h : eBin P op t sy sz (fun v => some (⟨.sc v, [], [], []⟩ : Eff)) = some e) : OpOk P C M o a e := by
  unfold eBin at h
  split at h
  · rename_i u xs u' ys
    unfold eqS at h
    split at h
    case h_2 => cases h
    rename_i fs ht
    cases hb : (eqOk P t && (alike P t u && alike P t u')) <;> simp only [hb, cond_true, cond_false] at h
    · cases h
    simp only [Bool.and_eq_true] at hb
    obtain ⟨hq, hu1, hu2⟩ := hb
    obtain ⟨X, hX, hXc⟩ := agg_inv hy ht hu1
    obtain ⟨Y, hY, hYc⟩ := agg_inv hz ht hu2
    have hna : isArr P t = false := by
      rcases arr_or ht with h9 | ⟨n, el, h9⟩
      · exact h9
      · exfalso
        unfold eqOk at hq
        rw [arrOf_some h9] at hq
        simp at hq
    obtain ⟨gs, hu, hla, hfs⟩ := tk_struct ht hna
    unfold eqOk at hq
    simp only [hu, Bool.and_eq_true, Bool.not_eq_true'] at hq
    have hfo : P.underlying t = some (.struct (P.fieldsOf t)) := by rw [hu]; simp [Program.fieldsOf, hu]
    have hfo' : P.fieldsOf t = gs := by simp [Program.fieldsOf, hu]
    subst hfs
    have key : ∀ {F : Bool → Option Eff}, eqFl P (gs.toList.map (·.type)) xs ys F = some e → ∃ b, F b = some e ∧ ∀ w, (Op.equalIn 10000 t (.agg X) (.agg Y)).run P w = .ok b w := by
      intro F hF
      obtain ⟨b, h1, h2⟩ := eqFl_spec (P := P) (M := M) (A := []) (B := []) (X := X) (Y := Y) hF hq.2.2 hla hXc hYc rfl rfl rfl
      refine ⟨b, h1, fun w => ?_⟩
      rw [run_equalIn_struct w 9999 t X Y hfo hq.1, hfo']
      exact h2 w
    have hg : (eqGuard op t y z (.agg X) (.agg Y)).run P M.w = .ok () M.w := run_eqGuard_agg M.w op t y z X Y hq.2.1
    split at h
    · obtain ⟨b, h1, h2⟩ := key h
      injection h1 with h1; subst h1
      refine opOk_val ?_ (hm.pure (slot_sc rfl))
      have hr : (Go.binOp .eql t (.agg X) (.agg Y)).run P M.w = .ok (.bool b) M.w := by rw [run_eql_struct, h2]; rfl
      simp [execOp, ho, hX, hY, hg, hr]
    · obtain ⟨b, h1, h2⟩ := key h
      injection h1 with h1; subst h1
      refine opOk_val ?_ (hm.pure (slot_sc rfl))
      have hr : (Go.binOp .neq t (.agg X) (.agg Y)).run P M.w = .ok (.bool (!b)) M.w := by rw [run_neq_struct, h2]; rfl
      simp [execOp, ho, hX, hY, hg, hr]
    · cases h
  · exact ok_binOp hm ho hy hz h
theorem run_equal_iface {t te : TypeId} {ms : Array (String × TypeId)} (h : P.underlying t = some (.interface ms)) (pe : Value) (w : World) : (Op.equal t (.iface te pe) .nilIface).run P w = .ok false w := by
  have : ∀ d, (Op.equalIn (d + 1) t (.iface te pe) .nilIface).run P w = .ok false w := fun d => by
    rw [Op.equalIn]; simp [run_underlying h]
  exact this 9999
theorem run_equal_nilIface {t : TypeId} {ms : Array (String × TypeId)} (h : P.underlying t = some (.interface ms)) (w : World) : (Op.equal t .nilIface .nilIface).run P w = .ok true w := by
  have : ∀ d, (Op.equalIn (d + 1) t .nilIface .nilIface).run P w = .ok true w := fun d => by
    rw [Op.equalIn]; simp [run_underlying h]
  exact this 9999
theorem run_equal_nilSl {t el : TypeId} (ht : tk P t = .slice el) (w : World) : (Op.equal t (.slice none 0 0) (.slice none 0 0)).run P w = .ok true w := by
  have : ∀ d, (Op.equalIn (d + 1) t (.slice none 0 0) (.slice none 0 0)).run P w = .ok true w := fun d => by
    rw [Op.equalIn]; simp [run_underlying (tk_slice ht).1]
  exact this 9999
theorem run_equal_someSl {t el : TypeId} (ht : tk P t = .slice el) (A : Addr) (n c : Nat) (w : World) : (Op.equal t (.slice (some A) n c) (.slice none 0 0)).run P w = .ok false w := by
  have : ∀ d, (Op.equalIn (d + 1) t (.slice (some A) n c) (.slice none 0 0)).run P w = .ok false w := fun d => by
    rw [Op.equalIn]; simp [run_underlying (tk_slice ht).1]
  exact this 9999
theorem ok_rowNil (hm : At P C M) {op : BinOp} {t ty el : TypeId} {y : Operand} {h' : Nat → Own} {id : Nat} (ho : o.op = .binOp op t y (.const (.slice none 0 0)) ty) (hy : Slot P M (.ref id []) (a.eval y)) (hh : h' id = M.oh id) (ht : tk P t = .slice el) {b : Bool} (hb : (op = .eql ∧ b = false) ∨ (op = .neq ∧ b = true))
    (h : eRowNil h' id b (fun v => some (⟨.sc v, [], [], []⟩ : Eff)) = some e) : OpOk P C M o a e := by
  unfold eRowNil at h
  split at h
  case h_2 => cases h
  rename_i u pv hrow
  cases hi : pv.items with
  | nil => rw [hi] at h; cases h
  | cons p ps =>
    rw [hi] at h
    injection h with h; subst h
    have hz' : a.eval (.const (.slice none 0 0)) = .slice none 0 0 := rfl
    have hl : Leaf P M (.ref id []) (a.eval y) := by
      cases hy with
      | leaf _ _ h1 _ => exact h1
    rw [hh] at hrow
    simp only [Leaf, hrow] at hl
    have hv : a.eval y = M.G.hnd id := by
      rcases hl with ⟨_, h⟩ | ⟨a', t', e', h, _⟩
      · exact h
      · exact h.elim
    obtain ⟨n, how⟩ := hm.mem.row id u pv hrow
    have hs : ∃ A n c, M.G.hnd id = .slice (some A) n c := by
      cases n with
      | zero => exact how.elim
      | succ n =>
        unfold Ow at how
        split at how
        all_goals first
          | (obtain ⟨⟨_, h1, _⟩, _⟩ := how; rw [h1] at hi; cases hi)
          | (exact how.elim)
          | skip
        · obtain ⟨v, xs, ps', F', h1, h2, h3, _⟩ := how
          injection h1 with h1 _
          subst h2
          have hne : ps'.length ≠ 0 := by
            have : ps' = p :: ps := hi
            rw [this]; simp
          rcases h3.2 with ⟨_, h0⟩ | ⟨g, cap, cur, fz, hv', _⟩
          · exact absurd h0 hne
          · exact ⟨_, _, _, h1.trans hv'⟩
        · obtain ⟨ps', h1, _⟩ := how
          rw [h1] at hi; cases hi
    obtain ⟨A, n', c, hs⟩ := hs
    rw [hs] at hv
    refine opOk_val ?_ (hm.pure (slot_sc rfl))
    rcases hb with ⟨rfl, rfl⟩ | ⟨rfl, rfl⟩
    · have hg : (eqGuard .eql t y (.const (.slice none 0 0)) (.slice (some A) n' c) (.slice none 0 0)).run P M.w = .ok () M.w := by simp [eqGuard]
      simp [execOp, ho, hv, hz', hg, Go.binOp, run_equal_someSl ht]
    · have hg : (eqGuard .neq t y (.const (.slice none 0 0)) (.slice (some A) n' c) (.slice none 0 0)).run P M.w = .ok () M.w := by simp [eqGuard]
      simp [execOp, ho, hv, hz', hg, Go.binOp, run_equal_someSl ht]
theorem ok_binO (hm : At P C M) {op : BinOp} {t ty : TypeId} {y z : Operand} {h' : Nat → Own} (ho : o.op = .binOp op t y z ty) {sy sz : SV} (hy : Slot P M sy (a.eval y)) (hz : Slot P M sz (a.eval z)) (hh : ∀ id ∈ idsOf sy, h' id = M.oh id) (h : eBinO P h' op t z sy sz (fun v => some (⟨.sc v, [], [], []⟩ : Eff)) = some e) : OpOk P C M o a e := by
  unfold eBinO at h
  split at h
  · rename_i b
    have hz' : a.eval (.const .nilIface) = .nilIface := rfl
    have hl : Leaf P M (.err b) (a.eval y) := by
      cases hy with
      | leaf _ _ h1 _ => exact h1
    split at h
    · rename_i ms hu
      injection h with h; subst h
      refine opOk_val ?_ (hm.pure (slot_sc rfl))
      rcases hl with ⟨rfl, hv⟩ | ⟨rfl, te, pe, hv⟩
      · have hg : (eqGuard .eql t y (.const .nilIface) .nilIface .nilIface).run P M.w = .ok () M.w := by simp [eqGuard]
        simp [execOp, ho, hv, hz', hg, Go.binOp, run_equal_nilIface hu]
      · have hg : (eqGuard .eql t y (.const .nilIface) (.iface te pe) .nilIface).run P M.w = .ok () M.w := by simp [eqGuard]
        simp [execOp, ho, hv, hz', hg, Go.binOp, run_equal_iface hu]
    · rename_i ms hu
      injection h with h; subst h
      refine opOk_val ?_ (hm.pure (slot_sc rfl))
      rcases hl with ⟨rfl, hv⟩ | ⟨rfl, te, pe, hv⟩
      · have hg : (eqGuard .neq t y (.const .nilIface) .nilIface .nilIface).run P M.w = .ok () M.w := by simp [eqGuard]
        simp [execOp, ho, hv, hz', hg, Go.binOp, run_equal_nilIface hu]
      · have hg : (eqGuard .neq t y (.const .nilIface) (.iface te pe) .nilIface).run P M.w = .ok () M.w := by simp [eqGuard]
        simp [execOp, ho, hv, hz', hg, Go.binOp, run_equal_iface hu]
    · cases h
  · have hz' : a.eval (.const (.slice none 0 0)) = .slice none 0 0 := rfl
    have hv : a.eval y = .slice none 0 0 := by
      cases hy with
      | leaf _ _ h1 _ => exact h1
    split at h
    · rename_i el ht
      injection h with h; subst h
      refine opOk_val ?_ (hm.pure (slot_sc rfl))
      have hg : (eqGuard .eql t y (.const (.slice none 0 0)) (.slice none 0 0) (.slice none 0 0)).run P M.w = .ok () M.w := by simp [eqGuard]
      simp [execOp, ho, hv, hz', hg, Go.binOp, run_equal_nilSl ht]
    · rename_i el ht
      injection h with h; subst h
      refine opOk_val ?_ (hm.pure (slot_sc rfl))
      have hg : (eqGuard .neq t y (.const (.slice none 0 0)) (.slice none 0 0) (.slice none 0 0)).run P M.w = .ok () M.w := by simp [eqGuard]
      simp [execOp, ho, hv, hz', hg, Go.binOp, run_equal_nilSl ht]
    · cases h
  · split at h
    · rename_i el ht
      exact ok_rowNil hm ho hy (hh _ (by simp [idsOf])) ht (.inl ⟨rfl, rfl⟩) h
    · rename_i el ht
      exact ok_rowNil hm ho hy (hh _ (by simp [idsOf])) ht (.inr ⟨rfl, rfl⟩) h
    · cases h
  · exact ok_bin hm ho hy hz h
theorem ok_extract (hm : At P C M) {y : Operand} {i : Nat} (ho : o.op = .extract y i) {sy : SV} (hy : Slot P M sy (a.eval y)) (h : eExtract some i sy = some e) : OpOk P C M o a e := by
  unfold eExtract at h
  split at h
  · rename_i ys
    cases hb : Nat.blt i ys.length <;> simp only [hb, cond_true, cond_false] at h
    · cases h
    · simp only [Nat.blt_eq] at hb
      injection h with h; subst h
      generalize hvv : a.eval y = vv at hy
      cases hy with
      | leaf _ _ hl => exact hl.elim
      | tup _ vs h1 h2 =>
        have hi : i < vs.size := by omega
        have h3 : vs[i]? = some vs[i] := by simp
        have h4 : ys[i]? = some (ys.getD i .junk) := by simp [List.getD_eq_getElem?_getD, hb]
        refine opOk_val ?_ (hm.pure (h2 i _ _ h4 h3))
        simp [execOp, ho, hvv, Instr.extract, h3]
  · cases h
/-- A slice type's slot, read: the value is a slice of that many. -/
theorem cont_slice {el : TypeId} (hm : Mem P C M) (hs : Slot P M x v) (hh : ∀ id ∈ idsOf x, h' id = M.oh id) (ht : tk P t = .slice el) {p : PV} (hc : contT P h' t x = some p) :
    ∃ A cap ps n, v = .slice A ps.length cap ∧ p = .list ps ∧ ps.length ≤ cap ∧ Rd P (okOf M (idsOf x)) M.w (n + 1) t p [v] := by
  have hx : Leaf P M x v ∧ one v = true := by
    apply hs.leaf_inv
    · intro u xs he; subst he; simp [contT, ht] at hc
    · intro xs he; subst he; simp [contT] at hc
    · intro he; subst he; simp [contT] at hc
    · intro he; subst he; simp [contT] at hc
    · intro u k q he; subst he; simp [contT, ht] at hc
  have hsz : sizeOf P t = 1 := by rw [tk_size (by rw [ht]; simp), ht]; rfl
  obtain ⟨n, hr⟩ := cont_leaf hm hx.1 hx.2 hh (fun _ _ => hsz) hc
  cases n with
  | zero => exact hr.elim
  | succ n =>
    have hr0 := hr
    unfold Rd at hr
    simp only [ht] at hr
    obtain ⟨A, cap, ps, h1, h2, h3, _⟩ := hr
    simp at h1
    exact ⟨A, cap, ps, n, h1, h2, h3, hr0⟩
theorem run_len (ht : tk P t = .slice u) {A : Option Addr} {l c : Nat} {ats : Array TypeId} (hat : ats[0]? = some t) (ty : TypeId) : (Builtin.len_ ats ty #[.slice A l c]).run P w = .ok (.int .i64 l) w := by
  simp [Builtin.len_, hat, run_underlying (tk_slice ht).1, goInt]
theorem ok_len (hm : At P C M) {c : Call} {y : Operand} (ho : o.op = .call c) (hcal : c.callee = .builtin .len) (hargs : c.args = #[y]) (hat : c.argTypes[0]? = some t) {sy : SV} (hy : Slot P M sy (a.eval y)) (hh : ∀ id ∈ idsOf sy, h' id = M.oh id) (h : eLen P h' some t sy = some e) : OpOk P C M o a e := by
  unfold eLen at h
  split at h
  · rename_i ht
    split at h
    case h_2 => cases h
    rename_i s
    injection h with h; subst h
    have hv := hy.sc_inv.1
    refine opOk_val ?_ (hm.pure (slot_sc rfl))
    have hrun : (Builtin.len_ c.argTypes o.type #[.string s]).run P M.w = .ok (.int .i64 s.size) M.w := by
      simp [Builtin.len_, hat, run_underlying (tk_str ht), goInt]
    simp [execOp, ho, resolve, hcal, hargs, hv, invoke, builtin, hrun]
  · rename_i el ht
    cases hc : contT P h' t sy with
    | none => rw [hc] at h; cases h
    | some p =>
      rw [hc] at h; injection h with h; subst h
      obtain ⟨A, cap, ps, n, h1, h2, h3, h4⟩ := cont_slice hm.mem hy hh ht hc
      subst h2
      refine opOk_val ?_ (hm.pure (slot_sc rfl))
      have hrun := run_len (P := P) (w := M.w) ht (A := A) (l := ps.length) (c := cap) hat o.type
      simp [execOp, ho, resolve, hcal, hargs, h1, invoke, builtin, hrun, PV.items]
  · cases h
end
end Go.Proofs.YtfbkfhdlingedaaAm

/-! Slices of strings and of slices. -/
namespace Go.Proofs.YtfbkfhdlingedaaAm
open Go RowKit
section
variable {P : Program} {C : Cx} {M : Mm} {x : SV} {v : Value} {o : Oper} {a : Act} {e : Eff} {n : Nat} {t t' u : TypeId} {pv : PV} {cs : List Value} {ok : Nat → Prop} {w : World} {F : List Nat} {h' : Nat → Own}
variable [Glb P]
/-- Slots and values, one by one. -/
def Slots (P : Program) (M : Mm) : List SV → List Value → Prop
  | [], [] => True
  | x :: xs, v :: vs => Slot P M x v ∧ Slots P M xs vs
  | _, _ => False
theorem bound_run {i : Int} {k : IntKind} {m : Nat} (code : BoundsCode) (h0 : 0 ≤ i) (h1 : i ≤ m) : (Instr.sliceBound (.int k i) m code).run P w = .ok i.toNat w := by
  simp [Instr.sliceBound, asIntOf, h0, h1]
theorem boundsK_spec {lo hi : Option Operand} {r : List SV} {m cap : Nat} {f : Nat → Nat → Option Eff} (hcap : m ≤ cap) (hr : Slots P M r ((lo.toList ++ hi.toList).map a.eval)) (h : boundsK lo hi r m f = some e) (b : Bool) :
    ∃ l u, l ≤ u ∧ u ≤ m ∧ f l u = some e ∧ (Instr.sliceBounds b m cap (lo.map a.eval) (hi.map a.eval) none).run P w = .ok (l, u, cap) w := by
  unfold boundsK at h
  split at h
  · refine ⟨0, m, Nat.zero_le _, Nat.le_refl _, by simpa using h, ?_⟩
    simp [Instr.sliceBounds]
  · rename_i ol k i
    split at h
    · rename_i h0
      split at h
      · rename_i h1
        have hv : a.eval ol = .int k i := hr.1.sc_inv.1
        refine ⟨i.toNat, m, by omega, Nat.le_refl _, by simpa using h, ?_⟩
        simp [Instr.sliceBounds, hv, bound_run _ h0 h1]
      · cases h
    · cases h
  · rename_i oh k i
    split at h
    · rename_i h0
      split at h
      · rename_i h1
        have hv : a.eval oh = .int k i := hr.1.sc_inv.1
        refine ⟨0, i.toNat, Nat.zero_le _, by omega, by simpa using h, ?_⟩
        simp [Instr.sliceBounds, hv, bound_run _ h0 (show i ≤ (cap : Int) by omega)]
      · cases h
    · cases h
  · rename_i ol oh k i k' j
    split at h
    · rename_i h0
      split at h
      · rename_i h1
        split at h
        · rename_i h2
          have hv : a.eval ol = .int k i := hr.1.sc_inv.1
          have hv' : a.eval oh = .int k' j := hr.2.1.sc_inv.1
          refine ⟨i.toNat, j.toNat, by omega, by omega, h, ?_⟩
          have e2 := bound_run (P := P) (w := w) (k := k') (if b = true then .sliceAcap else .sliceAlen) (show 0 ≤ j by omega) (show j ≤ (cap : Int) by omega)
          have e1 := bound_run (P := P) (w := w) (k := k) (m := j.toNat) .sliceB h0 (by omega)
          simp [Instr.sliceBounds, hv, hv', e1, e2]
        · cases h
      · cases h
    · cases h
  · cases h
theorem ok_slice (hm : At P C M) {y : Operand} {lo hi : Option Operand} (ho : o.op = .slice t y lo hi none) {sy : SV} {r : List SV} (hy : Slot P M sy (a.eval y)) (hr : Slots P M r ((lo.toList ++ hi.toList).map a.eval)) (hh : ∀ id ∈ idsOf sy, h' id = M.oh id) (h : eSlice P h' some t lo hi sy r = some e) : OpOk P C M o a e := by
  unfold eSlice at h
  split at h
  · rename_i s
    split at h
    · rename_i ht
      obtain ⟨l, u, h1, h2, h3, h4⟩ := boundsK_spec (P := P) (w := M.w) (Nat.le_refl _) hr h false
      injection h3 with h3; subst h3
      have hv := hy.sc_inv.1
      have hu := tk_str ht
      refine opOk_val ?_ (hm.pure (slot_sc rfl))
      have hrun : (Instr.slice t (.string s) (lo.map a.eval) (hi.map a.eval) none).run P M.w = .ok (.string (s.extract l u)) M.w := by
        simp [Instr.slice, run_underlying hu, h4]
      have hrun2 : (Instr.sliceAt t (.string s) (lo.map a.eval) (hi.map a.eval) none).run P M.w = .ok (.string (s.extract l u)) M.w := by
        simp only [Instr.sliceAt, Sem.run_bind, run_underlying hu, Result.andThen_ok]
        exact hrun
      simp [execOp, ho, hv, hrun2]
    · cases h
  · rename_i id p
    have hid := hh id (by simp [idsOf])
    obtain ⟨hl, _⟩ := hy.leaf_inv (by simp) (by simp) (by simp) (by simp) (by simp)
    split at h
    · rename_i el u pv ht ho1
      rw [hid] at ho1
      cases hal : alike P t (tyAt P u p) <;> simp only [hal, cond_true, cond_false] at h
      · cases h
      · · have hsl : tk P (tyAt P u p) = .slice el := by rw [← alike_tk hal]; exact ht
          obtain ⟨n, how⟩ := hm.mem.row id u pv ho1
          have hrf := hl.ref_row ho1
          generalize hvv : a.eval y = vv at hrf
          obtain ⟨m, xs, ps, F', c1, c2, c3, c4⟩ := hrf.val how hsl
          obtain ⟨A, cap, hvs, hcap⟩ := ownsRow_slice c4
          rw [c3] at h
          simp only [PV.items] at h
          obtain ⟨l, q, h1, h2, h3, h4⟩ := boundsK_spec (P := P) (w := M.w) hcap hr h true
          injection h3 with h3; subst h3
          obtain ⟨hu, hel⟩ := tk_slice ht
          obtain ⟨i, z, hi', _, _, _, _, hs⟩ := elemOk_info hel
          have hrun : (Instr.sliceAt t (.slice A ps.length cap) (lo.map a.eval) (hi.map a.eval) none).run P M.w = .ok (.slice (if cap = l then A else A.map (·.add (l * sizeOf P el))) (q - l) (cap - l)) M.w := by
            simp only [Instr.sliceAt, Sem.run_bind, run_underlying hu, Result.andThen_ok]
            simp [Instr.slice, run_underlying hu, h4, run_sizeOf' hi', hs]
          refine opOk_val (v := .slice (if cap = l then A else A.map (·.add (l * sizeOf P el))) (q - l) (cap - l)) ?_ (hm.pure (.leaf _ _ ?_ rfl))
          · simp [execOp, ho, hvv, hvs, hrun]
          · simp only [Leaf, ho1]
            refine ⟨el, A, ps.length, cap, _, _, hsl, hvs ▸ hrf, h1, h2, rfl, by omega, fun hlt => ?_, fun hl0 => ?_⟩
            rotate_left
            · subst hl0
              refine ⟨?_, by omega⟩
              split
              · rfl
              · cases A <;> simp [add_zero]
            obtain ⟨_, _, g, hA, _⟩ := ownsRow_cell c4 hvs (by omega)
            subst hA
            exact ⟨_, rfl, by rw [if_neg (by omega)]; rfl⟩
    · rename_i el u ps ht ho1
      rw [hid] at ho1
      split at h
      case h_2 => cases h
      cases hal : alike P t u <;> simp only [hal, cond_true, cond_false] at h
      · cases h
      have hsl : tk P u = .slice el := by rw [← alike_tk hal]; exact ht
      simp only [Leaf, ho1] at hl
      obtain ⟨el', n, xs, s1, c4, s3, s4⟩ := hm.mem.shl id u ps ho1
      have hee : el' = el := by rw [hsl] at s1; injection s1 with s1; exact s1.symm
      subst hee
      obtain ⟨A, cap, hvs, hcap⟩ := ownsRow_slice c4
      have hve := hl.2.trans hvs
      obtain ⟨l, q, h1, h2, h3, h4⟩ := boundsK_spec (P := P) (w := M.w) hcap hr h true
      injection h3 with h3; subst h3
      obtain ⟨hu, hel⟩ := tk_slice ht
      obtain ⟨i, z, hi', _, _, _, _, hs⟩ := elemOk_info hel
      have hrun : (Instr.sliceAt t (.slice A ps.length cap) (lo.map a.eval) (hi.map a.eval) none).run P M.w = .ok (.slice (if cap = l then A else A.map (·.add (l * sizeOf P el'))) (q - l) (cap - l)) M.w := by
        simp only [Instr.sliceAt, Sem.run_bind, run_underlying hu, Result.andThen_ok]
        simp [Instr.slice, run_underlying hu, h4, run_sizeOf' hi', hs]
      refine opOk_val (v := .slice (if cap = l then A else A.map (·.add (l * sizeOf P el'))) (q - l) (cap - l)) ?_ (hm.pure (.leaf _ _ ?_ rfl))
      · simp [execOp, ho, hve, hrun]
      · simp only [Leaf, ho1]
        refine ⟨trivial, el', A, ps.length, cap, _, _, hsl, hvs.symm, h1, h2, rfl, by omega, fun hlt => ?_, fun hl0 => ?_⟩
        rotate_left
        · subst hl0
          refine ⟨?_, by omega⟩
          split
          · rfl
          · cases A <;> simp [add_zero]
        obtain ⟨_, _, g, hA, _⟩ := ownsRow_cell c4 hvs (by omega)
        subst hA
        exact ⟨_, rfl, by rw [if_neg (by omega)]; rfl⟩
    · cases h
  · rename_i u pv
    cases hal : alike P t u <;> simp only [hal, cond_true, cond_false] at h
    · cases h
    · obtain ⟨⟨n, el, hsl, hrd⟩, _⟩ := hy.leaf_inv (by simp) (by simp) (by simp) (by simp) (by simp)
      cases n with
      | zero => exact hrd.elim
      | succ n =>
        unfold Rd at hrd
        simp only [hsl] at hrd
        obtain ⟨A, cap, ps, c1, rfl, c3, c4⟩ := hrd
        simp at c1
        simp only [PV.items] at h
        obtain ⟨l, q, h1, h2, h3, h4⟩ := boundsK_spec (P := P) (w := M.w) c3 hr h true
        injection h3 with h3; subst h3
        have ht : tk P t = .slice el := by rw [alike_tk hal]; exact hsl
        obtain ⟨hu, hel⟩ := tk_slice ht
        obtain ⟨i, z, hi', _, _, _, _, hs⟩ := elemOk_info hel
        have hrun : (Instr.sliceAt t (.slice A ps.length cap) (lo.map a.eval) (hi.map a.eval) none).run P M.w = .ok (.slice (if cap = l then A else A.map (·.add (l * sizeOf P el))) (q - l) (cap - l)) M.w := by
          simp only [Instr.sliceAt, Sem.run_bind, run_underlying hu, Result.andThen_ok]
          simp [Instr.slice, run_underlying hu, h4, run_sizeOf' hi', hs]
        have hll : ((ps.drop l).take (q - l)).length = q - l := by simp; omega
        refine opOk_val (v := .slice (if cap = l then A else A.map (·.add (l * sizeOf P el))) (q - l) (cap - l)) ?_ (hm.pure (.leaf _ _ ⟨n + 1, el, hsl, ?_⟩ rfl))
        · simp [execOp, ho, c1, hrun]
        · unfold Rd
          simp only [hsl]
          refine ⟨_, _, (ps.drop l).take (q - l), by rw [hll], rfl, by omega, fun h0 => ?_⟩
          obtain ⟨ad, rfl, e2, e3⟩ := c4 (by omega)
          refine ⟨ad.add (l * sizeOf P el), by rw [if_neg (by omega)]; rfl, by rw [add_block]; exact e2, fun j z hj => ?_⟩
          have hj' : ps[l + j]? = some z := by
            rw [List.getElem?_take] at hj
            split at hj
            · rwa [List.getElem?_drop] at hj
            · cases hj
          obtain ⟨c, f1, f2, f3⟩ := e3 _ _ hj'
          refine ⟨c, f1, fun q u hq => ?_, f3⟩
          rw [add_add, ← Nat.add_assoc, ← Nat.add_mul]
          exact f2 q u hq
  · cases h
end
end Go.Proofs.YtfbkfhdlingedaaAm

/-! New rows and boxes. -/
namespace Go.Proofs.YtfbkfhdlingedaaAm
open Go RowKit
section
variable {P : Program} {C : Cx} {M : Mm} {x : SV} {v : Value} {o : Oper} {a : Act} {e : Eff} {n : Nat} {t t' u : TypeId} {pv : PV} {cs : List Value} {ok : Nat → Prop} {w w' : World} {F : List Nat} {h' : Nat → Own} {fr : Nat} {l : List Nat} {ob : Own}
variable [Glb P]
theorem foldl_upd_dead : ∀ (l : List Nat) (oh : Nat → Own) (i : Nat), (l.map (fun i => (i, Own.dead))).foldl (fun h x => upd h x.1 x.2) oh i = if i ∈ l then .dead else oh i
  | [], oh, i => by simp
  | j :: l, oh, i => by
    simp only [List.map_cons, List.foldl_cons]
    rw [foldl_upd_dead l]
    by_cases h : i ∈ l
    · simp [h]
    · by_cases hij : i = j
      · subst hij; simp [upd]
      · have : Nat.beq i j = false := by
          cases hb : Nat.beq i j
          · rfl
          · exact absurd (Nat.eq_of_beq_eq_true hb) hij
        simp [h, hij, upd, this]
theorem newOh_new (oh : Nat → Own) (val : SV) (wi : List Nat) (i : Nat) : newOh oh ⟨val, l.map (fun i => (i, .dead)) ++ [(fr, ob)], wi, []⟩ i = if i = fr then ob else if i ∈ l then .dead else oh i := by
  simp only [newOh, freshenOwn_nil, List.foldl_append, List.foldl_cons, List.foldl_nil]
  by_cases h : i = fr
  · subst h; simp [upd]
  · have : Nat.beq i fr = false := by
      cases hb : Nat.beq i fr
      · rfl
      · exact absurd (Nat.eq_of_beq_eq_true hb) h
    simp only [upd, this, cond_false, h, if_false]
    exact foldl_upd_dead l oh i
theorem Mem.lt (hm : Mem P C M) {id k : Nat} (h : k ∈ M.G.ft id) : k < M.w.heap.size := by
  cases ho : M.oh id with
  | row t pv => obtain ⟨n, hn⟩ := hm.row id t pv ho; exact hn.lt k h
  | box t sv =>
    obtain ⟨g, cs, _, h2, h3, _⟩ := hm.box id t sv ho
    rw [h2] at h; simp at h; subst h
    exact (Array.getElem?_eq_some_iff.1 h3).1
  | shl t ps =>
    obtain ⟨e, m, xs, _, h2, h3, _⟩ := hm.shl id t ps ho
    rw [h3] at h
    exact ownsR_lt h2 k (by simpa using h)
  | hole t pv p =>
    obtain ⟨_, _, _, _, _, _, _, _, _, h7, _⟩ := hm.hol id t pv p ho
    exact h7 k h
  | free => rw [hm.none_ id (by rw [ho]; simp) (by rw [ho]; simp) (by rw [ho]; simp) (by rw [ho]; simp)] at h; cases h
  | dead => rw [hm.none_ id (by rw [ho]; simp) (by rw [ho]; simp) (by rw [ho]; simp) (by rw [ho]; simp)] at h; cases h
/-- The ghosts behind a new object. -/
def Gh.new (G : Gh) (fr : Nat) (v : Value) (FR : List Nat) (l : List Nat) : Gh := ⟨fun i => if i = fr then v else G.hnd i, fun i => if i = fr then FR else if i ∈ l then [] else G.ft i, G.cv, G.rok⟩
/-- A world behind a step that turned no blocks but some of those given away. -/
structure Step (w w' : World) (ch : Nat → Prop) : Prop where
  os : w'.os = w.os
  tape : w'.tape = w.tape
  output : w'.output = w.output
  size : w.heap.size ≤ w'.heap.size
  block : ∀ k, k < w.heap.size → ¬ ch k → w'.heap[k]? = w.heap[k]?
theorem trans_new (hm : At P C M) {FR : List Nat} (hfr : M.oh fr = .free) (hl : ∀ i ∈ l, ∃ u q, M.oh i = .row u q) (hs : Step M.w w' (fun k => k ∈ l.flatMap M.G.ft)) (hF : FR.Nodup) (hFR : ∀ k ∈ FR, M.w.heap.size ≤ k ∨ k ∈ l.flatMap M.G.ft) (val : SV) (wi : List Nat)
    (hnew : IdStep P M ⟨w', newOh M.oh ⟨val, l.map (fun i => (i, .dead)) ++ [(fr, ob)], wi, []⟩, M.G.new fr v FR l⟩ [] fr) :
    Trans P C M ⟨w', newOh M.oh ⟨val, l.map (fun i => (i, .dead)) ++ [(fr, ob)], wi, []⟩, M.G.new fr v FR l⟩ [] := by
  have hfl : fr ∉ l := fun h => by obtain ⟨u, q, h1⟩ := hl fr h; rw [hfr] at h1; cases h1
  have hft : M.G.ft fr = [] := hm.mem.none_ fr (by rw [hfr]; simp) (by rw [hfr]; simp) (by rw [hfr]; simp) (by rw [hfr]; simp)
  have hout : ∀ id, id ∉ l → ∀ k ∈ M.G.ft id, k ∉ l.flatMap M.G.ft := fun id hid k hk hk' => by
    obtain ⟨j, hj, hk2⟩ := List.mem_flatMap.1 hk'
    exact hm.mem.dj id j (fun he => hid (he ▸ hj)) k hk hk2
  have hFout : ∀ id, id ∉ l → ∀ k ∈ FR, k ∉ M.G.ft id := fun id hid k hk hk' => by
    rcases hFR k hk with h | h
    · have := hm.mem.lt hk'; omega
    · exact hout id hid k hk' h
  refine ⟨⟨hs.os.trans hm.mem.kept.os, hs.tape.trans hm.mem.kept.tape, hs.output.trans hm.mem.kept.output, Nat.le_trans hm.mem.kept.size hs.size, fun k hk hn => ?_⟩, hs.size, fun id => ?_, fun id => ?_, fun i j hij k hk => ?_, fun id k hk => ?_, hm.pins, fun k hk hok => ?_, ⟨rfl, rfl⟩⟩
  · refine (hs.block k (Nat.lt_of_lt_of_le hk hm.mem.kept.size) (fun hc => ?_)).trans (hm.mem.kept.block k hk hn)
    obtain ⟨j, _, hj⟩ := List.mem_flatMap.1 hc
    exact hn (hm.mem.own j k hj)
  · by_cases h1 : id = fr
    · subst h1; exact hnew
    · by_cases h2 : id ∈ l
      · refine .dead ?_ ?_ ?_
        · simp only [newOh_new, h1, if_false, h2, if_true]
        · simp [Gh.new, h1, h2]
        · obtain ⟨u, q, h3⟩ := hl id h2; rw [h3]; simp
      · refine .same ?_ ?_ ?_ (fun k hk => ?_)
        · simp only [newOh_new, h1, if_false, h2, freshenOwn_nil]
        · simp [Gh.new, h1]
        · simp [Gh.new, h1, h2]
        · exact hs.block k (hm.mem.lt hk) (hout id h2 k hk)
  · simp only [Gh.new]
    split
    · exact hF
    · split
      · simp
      · exact hm.mem.nd id
  · simp only [Gh.new] at hk ⊢
    by_cases h1 : i = fr
    · simp only [h1, if_true] at hk
      by_cases h2 : j = fr
      · exact absurd (h1.trans h2.symm) hij
      · simp only [h2, if_false]
        split
        · simp
        · rename_i h3; exact hFout j h3 k hk
    · simp only [h1, if_false] at hk
      split at hk
      · cases hk
      · rename_i h3
        split
        · intro hk'; exact hFout i h3 k hk' hk
        · split
          · simp
          · exact hm.mem.dj i j hij k hk
  · simp only [Gh.new] at hk
    split at hk
    · rcases hFR k hk with h | h
      · exact hm.mem.new k (Nat.le_trans hm.mem.kept.size h)
      · obtain ⟨j, _, hj⟩ := List.mem_flatMap.1 h
        exact hm.mem.own j k hj
    · split at hk
      · cases hk
      · exact hm.mem.own id k hk
  · have hnl : k ∉ l.flatMap M.G.ft := fun hc => by
      obtain ⟨j, _, hj⟩ := List.mem_flatMap.1 hc
      exact hok.2 j hj
    refine ⟨⟨hok.1, fun id hk' => ?_⟩, hs.block k hk hnl⟩
    simp only [Gh.new] at hk'
    split at hk'
    · rcases hFR k hk' with h | h
      · omega
      · exact hnl h
    · split at hk'
      · cases hk'
      · exact hok.2 id hk'
/-- A new row: what comes of it. -/
theorem goes_row (hm : At P C M) {FR : List Nat} (hfr : M.oh fr = .free) (hl : ∀ i ∈ l, ∃ u q, M.oh i = .row u q) (hs : Step M.w w' (fun k => k ∈ l.flatMap M.G.ft)) (hF : FR.Nodup) (hFR : ∀ k ∈ FR, M.w.heap.size ≤ k ∨ k ∈ l.flatMap M.G.ft) (wi : List Nat)
    (ho : ∃ n, Ow P w' n t pv [v] FR) (h1 : one v = true) : Goes P C M ⟨.ref fr [], l.map (fun i => (i, .dead)) ++ [(fr, .row t pv)], wi, []⟩ v w' := by
  refine ⟨M.G.new fr v FR l, trans_new hm hfr hl hs hF hFR _ _ (.row t pv ?_ ?_ (.inl hfr)), ?_⟩
  · simp only [newOh_new, if_true]
  · simpa [Gh.new] using ho
  · refine .leaf _ _ ?_ h1
    simp only [freshen, Leaf, newOh_new, if_true]
    exact .inl ⟨rfl, by simp [Gh.new]⟩
theorem step_push (w : World) (ob : Obj) {ch : Nat → Prop} : Step w { w with heap := w.heap.push ob } ch :=
  ⟨rfl, rfl, rfl, by simp, fun k hk _ => by simp [Array.getElem?_push]; omega⟩
/-- A new box: what comes of it. -/
theorem goes_box (hm : At P C M) (hfr : M.oh fr = .free) {cs : Array Value} (hv : SVc P M t x cs.toList) : Goes P C M ⟨.ptr fr [], [(fr, .box t x)], [fr], []⟩ (.pointer (some ⟨M.w.heap.size, 0, none⟩)) { M.w with heap := M.w.heap.push (.cells cs t (0, 0)) } := by
  have hs := step_push M.w (.cells cs t (0, 0)) (ch := fun k => k ∈ ([] : List Nat).flatMap M.G.ft)
  have key : ∀ (b : SV), b = x → IdStep P M ⟨{ M.w with heap := M.w.heap.push (.cells cs t (0, 0)) }, newOh M.oh ⟨.ptr fr [], ([] : List Nat).map (fun i => (i, .dead)) ++ [(fr, .box t x)], [fr], []⟩, M.G.new fr (.pointer (some ⟨M.w.heap.size, 0, none⟩)) [M.w.heap.size] []⟩ [] fr → Goes P C M ⟨.ptr fr [], [(fr, .box t x)], [fr], []⟩ (.pointer (some ⟨M.w.heap.size, 0, none⟩)) { M.w with heap := M.w.heap.push (.cells cs t (0, 0)) } := fun b _ hid => by
    refine ⟨M.G.new fr (.pointer (some ⟨M.w.heap.size, 0, none⟩)) [M.w.heap.size] [], trans_new (l := []) (ob := .box t x) hm hfr (by simp) hs (by simp) (by simp) _ _ hid, ?_⟩
    refine .leaf _ _ ?_ rfl
    have : newOh M.oh ⟨.ptr fr [], [(fr, .box t x)], [fr], []⟩ fr = .box t x := by
      have := newOh_new (l := []) (fr := fr) (ob := .box t x) M.oh (.ptr fr []) [fr] fr
      simpa using this
    simp only [freshen, memB, List.any_nil, Bool.false_and, cond_false, Leaf, this]
    exact ⟨M.w.heap.size, 0, t, by simp [Gh.new], rfl, rfl, rfl⟩
  exact key x rfl (.box t x M.w.heap.size cs (by simp only [newOh_new, if_true, freshen_nil]) (by simp [Gh.new]) (by simp [Gh.new]) (by simp) hv (.inl hfr))
end
end Go.Proofs.YtfbkfhdlingedaaAm

/-! Variables of one's own. -/
namespace Go.Proofs.YtfbkfhdlingedaaAm
open Go RowKit
section
variable {P : Program} {C : Cx} {M : Mm} {x : SV} {v : Value} {o : Oper} {a : Act} {e : Eff} {n : Nat} {t t' u : TypeId} {pv : PV} {cs : List Value} {ok : Nat → Prop} {w w' : World} {F : List Nat} {h' : Nat → Own} {fr : Nat} {l : List Nat} {ob : Own}
variable [Glb P]
theorem parse_ok : ∀ {n : Nat} {t : TypeId} {cs : List Value} {x : SV}, (∀ u ∈ cs, one u = true) → parse P n t cs = some x → SVc P M t x cs
  | 0, t, cs, x, _, h => by simp [parse] at h
  | n + 1, t, cs, x, h1, h => by
    have one1 : ∀ {c : Value}, tk P t ≠ .bad → (∀ fs, tk P t ≠ .struct fs) → Leaf P M x c → one c = true → SVc P M t x [c] := fun hb hs hl ho => .leaf _ _ _ hl ho (by
      rw [tk_size hb]; cases hk : tk P t <;> simp [TK.sz]; exact absurd hk (hs _)) hs
    unfold parse at h
    split at h
    · rename_i hk
      split at h
      · rename_i he; injection h with h; subst h he
        exact one1 (by rw [hk]; simp) (by rw [hk]; simp) rfl rfl
      · cases h
    · rename_i hk; injection h with h; subst h
      exact one1 (by rw [hk]; simp) (by rw [hk]; simp) rfl rfl
    · rename_i hk; injection h with h; subst h
      exact one1 (by rw [hk]; simp) (by rw [hk]; simp) rfl rfl
    · rename_i hk; injection h with h; subst h
      exact one1 (by rw [hk]; simp) (by rw [hk]; simp) rfl rfl
    · rename_i fs _ hk
      split at h
      · rename_i xs hx
        injection h with h; subst h
        refine .agg _ _ _ _ _ hk (alike_refl hk) ?_
        have key : ∀ (fs : List TypeId) (cs : List Value) (xs : List SV), (∀ u ∈ cs, one u = true) → parseL P (parse P n) fs cs = some xs → SVcL P M fs xs cs := by
          intro fs
          induction fs with
          | nil =>
            intro cs xs hc hp
            cases cs with
            | nil => simp [parseL] at hp; subst hp; exact .nil
            | cons => simp [parseL] at hp
          | cons f fs ih =>
            intro cs xs hc hp
            simp only [parseL] at hp
            split at hp
            · rename_i y ys e1 e2
              injection hp with hp; subst hp
              have := SVcL.cons f fs y ys _ _ (parse_ok (fun u hu => hc u (List.mem_of_mem_take hu)) e1) (ih _ _ (fun u hu => hc u (List.mem_of_mem_drop hu)) e2)
              rwa [List.take_append_drop] at this
            · cases hp
        exact key _ _ _ h1 hx
      · cases h
    · rename_i hk; injection h with h; subst h
      exact one1 (by rw [hk]; simp) (by rw [hk]; simp) rfl (h1 _ (by simp))
    · cases h
theorem cells_one (h : one v = true) : v.cells = #[v] := by cases v <;> first | rfl | simp [one, Value.oneCell'] at h
theorem slot_svc (h : Slot P M x v) (hf : fits P t x = true) : SVc P M t x v.cells.toList := by
  cases h with
  | junk => simp [fits] at hf
  | undef => simp [fits] at hf
  | tup => simp [fits] at hf
  | leaf _ _ h1 h2 =>
    rw [cells_one h2]
    have hg := fits_good hf (fun u xs he => by subst he; exact h1.elim) (fun u k q he => by subst he; exact h1.elim)
    exact .leaf _ _ _ h1 h2 (by rw [tk_size hg.1]; cases hk : tk P t <;> simp [TK.sz]; exact absurd hk (hg.2 _)) hg.2
  | agg u xs arr h1 =>
    simp only [fits] at hf
    refine svc_alike hf ?_ h1
    generalize arr.toList = al at h1
    cases h1 with
    | leaf _ _ _ hl => exact hl.elim
    | agg _ _ fs _ _ b1 _ _ => rw [alike_tk hf, b1]; simp
  | arr u k pv arr h1 => exact .arr _ u k pv _ hf h1
/-- An array of whole numbers as one tree says the same. -/
theorem toArr_svc (hm : Mem P C M) {z : SV} (h : SVc P M t z cs) : SVc P M t (toArr P t z) cs := by
  unfold toArr
  split
  · rename_i n e hao
    split
    · rename_i k pv hk hids hc
      obtain ⟨m, hr⟩ := cont_svc (h' := noRef) hm h (fun id hid => by rw [hids] at hid; cases hid) hc
      have hb := hr.good
      obtain ⟨fs, hfs⟩ := isArr_struct (w := M.w) (pv := default) (m := 0) (F := []) hb (by unfold isArr; rw [hao])
      obtain ⟨c1, c2, c3, k', c4, c5⟩ := tk_arr hao hfs
      have hkk : k' = k := by unfold intTy at hk; rw [c4] at hk; injection hk
      subst hkk
      subst c1
      have ha := rd_arr (arrOf_some hao) hfs c5 hr
      exact .arr _ _ _ _ _ (alike_refl hfs) ha
    · exact h
  · exact h
theorem run_zero {i : TypeInfo} {z : Value} (h1 : P.info? t = some i) (h2 : i.zero = some z) (w : World) : (zeroValue t).run P w = .ok z w := by
  simp [zeroValue, typeInfo, h1, h2]
theorem zero_one {z : Value} {n : Nat} {x : SV} (h : parse P n t z.cells.toList = some x) (hz : z.cells.toList.all (·.oneCell') = true) : SVc P M t x z.cells.toList :=
  parse_ok (fun u hu => List.all_eq_true.1 hz u hu) h
theorem ok_alloc (hm : At P C M) (ho : o.op = .alloc t) (hh : ∀ id ∈ [fr], h' id = M.oh id) (h : eAlloc P h' some fr t = some e) : OpOk P C M o a e := by
  unfold eAlloc at h
  split at h
  · rename_i z hfr hzs
    rw [hh fr (by simp)] at hfr
    injection h with h; subst h
    unfold zeroSV at hzs
    split at hzs
    · rename_i i hi
      split at hzs
      · rename_i zv hzv
        cases hone : zv.cells.toList.all (·.oneCell') <;> simp only [hone, cond_true, cond_false] at hzs
        · cases hzs
        have hsv := zero_one (M := M) hzs hone
        refine opOk_val ?_ (goes_box hm hfr (cs := zv.cells) (toArr_svc hm.mem hsv))
        simp [execOp, ho, Instr.alloc, run_zero hi hzv, newVar, newRow]
      · cases hzs
    · cases hzs
  · cases h
theorem ok_box (hm : At P C M) {y : Operand} (ho : o.op = .box t y) {sy : SV} (hy : Slot P M sy (a.eval y)) (hh : ∀ id ∈ [fr], h' id = M.oh id) (h : eBox P h' some fr t sy = some e) : OpOk P C M o a e := by
  unfold eBox at h
  split at h
  · rename_i hfr
    rw [hh fr (by simp)] at hfr
    cases hf : fits P t sy <;> simp only [hf, cond_true, cond_false] at h
    · cases h
    · injection h with h; subst h
      refine opOk_val ?_ (goes_box hm hfr (slot_svc hy hf))
      simp [execOp, ho, Instr.box, newVar, newRow]
  · cases h
end
end Go.Proofs.YtfbkfhdlingedaaAm

/-! Literals of slices, made rows. -/
namespace Go.Proofs.YtfbkfhdlingedaaAm
open Go RowKit
section
variable {P : Program} {C : Cx} {M : Mm} {x : SV} {v : Value} {o : Oper} {a : Act} {e : Eff} {n : Nat} {t t' u : TypeId} {pv : PV} {cs : List Value} {ok : Nat → Prop} {w w' : World} {F : List Nat} {h' : Nat → Own} {fr : Nat} {l : List Nat} {ob : Own}
variable [Glb P]
theorem takeT_bad (hb : tk P t = .bad) : ∀ x, takeT P h' t x = none
  | .junk | .undef | .nil | .sc _ | .err _ | .ro _ _ | .con _ _ _ | .rop _ _ | .ptr _ _ | .tup _ => by simp [takeT, hb]
  | .view id [] _ _ => by simp [takeT, hb]
  | .view id (s :: r) _ _ => by simp [takeT]
  | .ref id [] => by simp [takeT, hb]
  | .ref id (s :: r) => by simp [takeT]
  | .agg u xs => by simp [takeT, hb]
  | .arr u k pv => by simp [takeT, hb]
theorem map_range0 {α : Type} (f : Nat → α) : Array.map f (Array.range 0) = #[] := Array.eq_empty_of_size_eq_zero (by simp)
theorem heap_new (w : World) (ob : Obj) : (w.alloc ob).heap[w.heap.size]? = some ob := by show (w.heap.push ob)[w.heap.size]? = _; simp
theorem nodupB_nodup : ∀ {l : List Nat}, nodupB l = true → l.Nodup
  | [], _ => List.nodup_nil
  | a :: r, h => by
    simp only [nodupB, Bool.and_eq_true, Bool.not_eq_true'] at h
    refine List.nodup_cons.2 ⟨fun hm => ?_, nodupB_nodup h.2⟩
    have : r.any (Nat.beq a) = true := List.any_eq_true.2 ⟨a, hm, by simp⟩
    rw [h.1] at this; cases this
theorem ft_nodup (hm : Mem P C M) : ∀ {l : List Nat}, l.Nodup → (l.flatMap M.G.ft).Nodup
  | [], _ => by simp
  | i :: r, h => by
    obtain ⟨h1, h2⟩ := List.nodup_cons.1 h
    rw [List.flatMap_cons, List.nodup_append]
    refine ⟨hm.nd i, ft_nodup hm h2, fun k hk k' hk' he => ?_⟩
    subst he
    obtain ⟨j, hj, hk2⟩ := List.mem_flatMap.1 hk'
    exact hm.dj i j (fun he => h1 (he ▸ hj)) k hk hk2
/-- A value's own cells, typed by a slot taken over. -/
theorem take_one (hm : Mem P C M) (hs : Slot P M x v) (hh : ∀ id ∈ idsOf x, h' id = M.oh id) (hb : tk P t ≠ .bad) {p : PV} {l : List Nat} (hc : takeT P h' t x = some (p, l)) :
    (∃ n, Ow P M.w n t p v.cells.toList (l.flatMap M.G.ft)) ∧ (∀ i ∈ l, i ∈ idsOf x ∧ ∃ u q, M.oh i = .row u q) := by
  cases hs with
  | junk => simp [takeT] at hc
  | undef => simp [takeT] at hc
  | tup => simp [takeT] at hc
  | leaf _ _ h1 h2 => rw [cells_one h2]; exact take_leaf hm h1 h2 hh hc
  | agg u xs arr h1 =>
    have hal : alike P t u = true := by
      simp only [takeT] at hc
      split at hc
      · cases hal : alike P t u <;> simp only [hal, cond_true, cond_false] at hc
        · cases hc
        · rfl
      · cases hc
    exact take_svc hm (svc_alike hal hb h1) hh hc
  | arr u k pv arr h1 =>
    have hal : alike P t u = true := by
      simp only [takeT] at hc
      split at hc
      · cases hal : alike P t u <;> simp only [hal, cond_true, cond_false] at hc
        · cases hc
        · rfl
      · cases hc
    exact take_svc hm (.arr _ u k pv _ hal h1) hh hc
theorem take_all (hm : Mem P C M) (hb : tk P t ≠ .bad) : ∀ {xs : List SV} {vs : List Value} {ps : List PV} {l : List Nat} {m : Nat}, Slots P M xs vs → (∀ id ∈ idsOfL xs, h' id = M.oh id) → takeTL P h' (List.replicate m t) xs = some (ps, l) →
    m = vs.length ∧ ps.length = m ∧ (∀ v ∈ vs, v.cells.size = sizeOf P t) ∧ (∃ n, OwSeq (Ow P M.w n t) (sizeOf P t) ps (vs.flatMap fun v => v.cells.toList) (l.flatMap M.G.ft)) ∧ (∀ i ∈ l, i ∈ idsOfL xs ∧ ∃ u q, M.oh i = .row u q)
  | [], [], ps, l, m, _, _, hc => by
    cases m with
    | zero => simp [takeTL] at hc; obtain ⟨rfl, rfl⟩ := hc; exact ⟨rfl, rfl, by simp, ⟨0, rfl, rfl⟩, by simp⟩
    | succ m => simp [takeTL, List.replicate_succ] at hc
  | x :: xs, v :: vs, ps, l, m, ⟨hs1, hs2⟩, hh, hc => by
    cases m with
    | zero => simp [takeTL] at hc
    | succ m =>
      simp only [takeTL, List.replicate_succ] at hc
      cases hx : takeT P h' t x with
      | none => rw [hx] at hc; cases hc
      | some r1 =>
        obtain ⟨p, l1⟩ := r1
        cases hl : takeTL P h' (List.replicate m t) xs with
        | none => rw [hx, hl] at hc; cases hc
        | some r2 =>
          obtain ⟨qs, l2⟩ := r2
          rw [hx, hl] at hc; simp at hc
          obtain ⟨rfl, rfl⟩ := hc
          obtain ⟨⟨n1, h1⟩, hi1⟩ := take_one hm hs1 (fun id hi => hh id (by simp [idsOfL, hi])) hb hx
          obtain ⟨e1, e2, e3, ⟨n2, h2⟩, hi2⟩ := take_all hm hb hs2 (fun id hi => hh id (by simp [idsOfL, hi])) hl
          refine ⟨by simp [e1], by simp [e2], fun y hy => ?_, ⟨max n1 n2, v.cells.toList, _, _, _, rfl, h1.len, by simp, h1.le (Nat.le_max_left _ _), h2.imp (fun _ _ _ _ hp => hp.le (Nat.le_max_right _ _))⟩, fun i hi => ?_⟩
          · rcases List.mem_cons.1 hy with rfl | hy
            · have := h1.len; simpa using this
            · exact e3 y hy
          · rcases List.mem_append.1 hi with h | h
            · exact ⟨by simp [idsOfL, (hi1 i h).1], (hi1 i h).2⟩
            · exact ⟨by simp [idsOfL, (hi2 i h).1], (hi2 i h).2⟩
  | [], _ :: _, _, _, _, h, _, _ => h.elim
  | _ :: _, [], _, _, _, h, _, _ => h.elim
theorem parts_order : ∀ {ps : List (Nat × Operand)} {i : Nat}, partsInOrder i ps = true → (ps.map fun (p : Nat × Operand) => (p.1, a.eval p.2)) = ((ps.map fun p => a.eval p.2).zipIdx i).map fun x => (x.2, x.1)
  | [], _, _ => rfl
  | (j, y) :: r, i, h => by
    simp only [partsInOrder, Bool.and_eq_true, Nat.beq_eq] at h
    obtain ⟨rfl, h2⟩ := h
    simp only [List.map_cons, List.zipIdx_cons]
    rw [parts_order h2]
theorem ok_buildSlice0 (hm : At P C M) {m : Nat} {ps : Array (Nat × Operand)} (ho : o.op = .buildSlice t m ps) {xs : List SV} (hy : Slots P M xs (ps.toList.map fun p => a.eval p.2)) (hh : ∀ id ∈ fr :: idsOfL xs, h' id = M.oh id) (h : eBuildSlice0 P h' some fr t m ps.toList xs = some e) : OpOk P C M o a e := by
  unfold eBuildSlice0 at h
  split at h
  · rename_i el ht hfr
    rw [hh fr (by simp)] at hfr
    cases hb : (partsInOrder 0 ps.toList && Nat.beq m ps.toList.length && Nat.ble (m * sizeOf P el) 16777216) <;> simp only [hb, cond_true, cond_false] at h
    · cases h
    · simp only [Bool.and_eq_true, Nat.beq_eq, Nat.ble_eq] at hb
      obtain ⟨⟨hb1, hb2⟩, hb3⟩ := hb
      split at h
      · rename_i qs l hc
        cases hn : nodupB (fr :: l) <;> simp only [hn, cond_true, cond_false] at h
        · cases h
        · injection h with h; subst h
          obtain ⟨hu, hel⟩ := tk_slice ht
          obtain ⟨i, z, hi, hz, hzs, hpos, hby, hs⟩ := elemOk_info hel
          have hnd := nodupB_nodup hn
          by_cases hbad : tk P el = .bad
          · -- nothing of a bad type is taken over
            have hq : m = 0 := by
              cases m with
              | zero => rfl
              | succ m =>
                exfalso
                cases xs with
                | nil => simp [takeTL, List.replicate_succ] at hc
                | cons x xs =>
                  simp only [takeTL, List.replicate_succ] at hc
                  cases hx : takeT P h' el x with
                  | none => rw [hx] at hc; cases hc
                  | some r => rw [takeT_bad hbad x] at hx; cases hx
            subst hq
            have hps : ps.toList = [] := List.length_eq_zero_iff.1 hb2.symm
            rw [hps] at hy
            cases xs with
            | cons => exact hy.elim
            | nil =>
              simp [takeTL] at hc
              obtain ⟨rfl, rfl⟩ := hc
              refine opOk_val (v := .slice (some ⟨M.w.heap.size, 0, none⟩) 0 0) (w' := M.w.alloc (.cells #[] el)) ?_ (goes_row (l := []) (FR := [M.w.heap.size]) hm hfr (by simp) (step_push _ _) (by simp) (by simp) _ ⟨1, ?_⟩ rfl)
              · have : ps = #[] := by apply Array.toList_inj.1; simpa using hps
                subst this
                simp [execOp, ho, Instr.buildSlice, run_underlying hu, run_sizeOf' hi, Instr.fill, newRow]
                rw [map_range0]
              · unfold Ow
                simp only [ht]
                exact ⟨_, [], [], [], rfl, rfl, ⟨by simp, .inr ⟨M.w.heap.size, 0, #[], (0, 0), rfl, .inl rfl, heap_new _ _, Nat.le_refl _, by simp, by simp, by simp⟩⟩, rfl, rfl, rfl⟩
          · obtain ⟨e1, e2, e3, ⟨n, e4⟩, e5⟩ := take_all hm.mem hbad hy (fun id hid => hh id (by simp [hid])) hc
            have hvl : (ps.toList.map fun p => a.eval p.2).length = m := e1.symm
            have hfl : ((ps.toList.map fun p => a.eval p.2).flatMap fun v => v.cells.toList).length = m * sizeOf P el := by
              rw [← hvl]
              generalize (ps.toList.map fun p => a.eval p.2) = vs at e3
              induction vs with
              | nil => simp
              | cons y r ih => rw [List.flatMap_cons, List.length_append, ih (fun v hv => e3 v (List.mem_cons_of_mem _ hv)), List.length_cons, Nat.add_mul]; have := e3 y List.mem_cons_self; simp [this]; omega
            have hrun : (Instr.buildSlice t m (ps.map fun (i, x) => (i, a.eval x))).run P M.w = .ok (.slice (some ⟨M.w.heap.size, 0, none⟩) m m) (M.w.alloc (.cells ((ps.toList.map fun p => a.eval p.2).flatMap fun v => v.cells.toList).toArray el)) := by
              by_cases hm0 : m = 0
              · subst hm0
                have hps : ps.toList = [] := List.length_eq_zero_iff.1 hb2.symm
                have : ps = #[] := by apply Array.toList_inj.1; simpa using hps
                subst this
                simp [Instr.buildSlice, run_underlying hu, run_sizeOf' hi, Instr.fill, newRow]
                rw [map_range0]
              · have hpl : (ps.map fun (i, x) => (i, a.eval x)).toList = ((ps.toList.map fun p => a.eval p.2).zipIdx 0).map fun x => (x.2, x.1) := by
                  rw [Array.toList_map]; exact parts_order hb1
                refine run_buildSlice M.w t el m _ _ i z hu hi hz (by rw [hs]; omega) (by rw [hs]; exact Nat.mul_ne_zero hm0 (by omega)) ?_
                rw [hpl, hs]
                exact Great.fill_whole hpos _ _ e3 (by simp [hvl])
            refine opOk_val (v := .slice (some ⟨M.w.heap.size, 0, none⟩) m m) (w' := M.w.alloc (.cells ((ps.toList.map fun p => a.eval p.2).flatMap fun v => v.cells.toList).toArray el)) ?_ (goes_row (l := l) (FR := M.w.heap.size :: l.flatMap M.G.ft) hm hfr (fun i hi => (e5 i hi).2) (step_push _ _) ?_ ?_ _ ⟨n + 1, ?_⟩ rfl)
            · simp [execOp, ho, hrun]
            · refine List.nodup_cons.2 ⟨fun hk => ?_, ft_nodup hm.mem (List.nodup_cons.1 hnd).2⟩
              obtain ⟨j, _, hj⟩ := List.mem_flatMap.1 hk
              have := hm.mem.lt hj; omega
            · intro k hk
              rcases List.mem_cons.1 hk with rfl | hk
              · exact .inl (Nat.le_refl _)
              · exact .inr hk
            · unfold Ow
              simp only [ht]
              refine ⟨_, _, qs, l.flatMap M.G.ft, rfl, rfl, ?_, rfl, e4.imp (fun p c f hf hp => hp.frame (fun k hk => ?_))⟩
              · rw [e2]
                refine ⟨hfl, .inr ⟨M.w.heap.size, m, _, (0, 0), rfl, .inl rfl, heap_new _ _, Nat.le_refl _, ?_, by simpa using hfl, ?_⟩⟩
                · have : m ≤ m * sizeOf P el := Nat.le_mul_of_pos_right _ hpos
                  simp only [maxLen]; omega
                · exact List.take_of_length_le (by simpa using Nat.le_of_eq hfl)
              · have := hp.lt k hk
                exact (step_push M.w _ (ch := fun _ => False)).block k this (fun h => h)
      · cases h
  · cases h
/-- Cells stored into a block whose mark lies behind them. -/
theorem run_storeCells_fz (g o : Nat) (t : TypeId) {fz : Nat × Nat} : ∀ (vs : List Value) (i : Nat) (cur : Array Value) (w : World), FzOk cur.size fz → w.heap[g]? = some (.cells cur t fz) → o + i + vs.length ≤ cur.size → (∀ v ∈ vs, one v = true) →
    (storeCells ⟨g, o, none⟩ vs i).run P w = .ok () (w.setRow g (cur.toList.take (o + i) ++ vs ++ cur.toList.drop (o + i + vs.length)).toArray)
  | [], i, cur, w, _, hg, _, _ => by
    simp only [storeCells, List.append_nil, List.length_nil, Nat.add_zero, List.take_append_drop, Array.toArray_toList]
    rw [setRow_self w g cur t fz hg]
    rfl
  | v :: rest, i, cur, w, hf, hg, hl, h1 => by
    have hi : o + i < cur.size := by simp at hl; omega
    have hcell : w.cell? ⟨g, o + i, none⟩ = some cur[o + i] := by simp [World.cell?, hg, hi]
    have hfro : w.frozen? ⟨g, o + i, none⟩ = false := by
      rcases hf with hf | hf
      · simp [World.frozen?, hg, hf]
      · simp [World.frozen?, hg]; omega
    have hst : (store ((⟨g, o, none⟩ : Addr).add i) v).run P w = .ok () (w.setRow g (cur.setIfInBounds (o + i) v)) := by
      rw [add_none, run_store P w _ v _ (h1 v (by simp)), hcell]
      simp [hfro, setCell_eq_setRow w g (o + i) cur t fz v hg]
    have ih := run_storeCells_fz g o t rest (i + 1) (cur.setIfInBounds (o + i) v) (w.setRow g (cur.setIfInBounds (o + i) v)) (by simpa using hf) (setRow_heap w g cur _ t _ hg) (by simp at hl ⊢; omega) (fun x hx => h1 x (by simp [hx]))
    simp only [storeCells, Sem.run_bind, hst, Result.andThen_ok, ih, setRow_setRow]
    congr 3
    have e := list_seg_step cur.toList (o + i) v rest (by simp at hl ⊢; omega)
    simpa [Array.toList_setIfInBounds, Nat.add_assoc] using e
end
end Go.Proofs.YtfbkfhdlingedaaAm

/-! Append. -/
namespace Go.Proofs.YtfbkfhdlingedaaAm
open Go RowKit
section
variable {P : Program} {C : Cx} {M : Mm} {x : SV} {v : Value} {o : Oper} {a : Act} {e : Eff} {n : Nat} {t t' u : TypeId} {pv : PV} {cs : List Value} {ok : Nat → Prop} {w w' : World} {F : List Nat} {h' : Nat → Own} {fr : Nat} {l : List Nat} {ob : Own}
variable [Glb P]
theorem append_run {el : TypeId} (ht : tk P t = .slice el) (ty : TypeId) {xs : List Value} (hown : ownsR w el (sizeOf P el) v n xs) {ad : Addr} {m c : Nat} {news : List Value} (hl : news.length = m * sizeOf P el) (hnews : Loc w ad news) (h1 : ∀ u ∈ news, one u = true) (hlim : n + m ≤ lim P el) :
    ∃ v' w', (Builtin.append_ #[t, t] ty #[v, .slice (some ad) m c]).run P w = .ok v' w' ∧ ownsR w' el (sizeOf P el) v' (n + m) (xs ++ news) ∧ w.grownBy w' v.ownBlock ∧ (v'.ownBlock = v.ownBlock ∨ ∃ b, v'.ownBlock = some b ∧ w.heap.size ≤ b) := by
  obtain ⟨hu, hel⟩ := tk_slice ht
  obtain ⟨i, z, hi, hz, hzs, hpos, hby, hs⟩ := elemOk_info hel
  have hb : (n + m) * i.bytes ≤ 140737488355328 := by
    simp only [lim, hi] at hlim
    exact (Nat.le_div_iff_mul_le hby).1 hlim
  have h63 : n + m ≤ maxLen := by
    have : n + m ≤ (n + m) * i.bytes := Nat.le_mul_of_pos_right _ hby
    simp only [maxLen]; omega
  rcases hown.2 with ⟨rfl, rfl⟩ | ⟨g, cap, cur, fz, rfl, hfz, hg, hnc, hcm, hcs, htk⟩
  · have hown' : w.ownsRow w.heap.size el (sizeOf P el) (.slice none 0 0) 0 xs := ⟨hown.1, .inl ⟨rfl, rfl⟩⟩
    obtain ⟨v', w', a1, a2, a3, _⟩ := run_append_own (w := w) w.heap.size t ty el i z (sizeOf P el) i.bytes hu hi hz hs rfl hzs hpos _ 0 xs hown' ad m c news hl hnews h1 h63 hb (Nat.le_refl _)
    refine ⟨v', w', a1, ownsR_of a2, a3, ?_⟩
    rcases a2.2 with ⟨rfl, _⟩ | ⟨g, cap, cur, rfl, b2, _⟩
    · exact .inl rfl
    · exact .inr ⟨g, rfl, b2⟩
  · have hxn : xs.length = n * sizeOf P el := hown.1
    have hlen : (xs ++ news).length = (n + m) * sizeOf P el := by rw [List.length_append, hxn, hl, Nat.add_mul]
    by_cases hroom : n + m ≤ cap
    · have hfit : n * sizeOf P el + news.length ≤ cur.size := by rw [hl, hcs, ← Nat.add_mul]; exact Nat.mul_le_mul_right _ hroom
      have hf := run_firstCells_some (P := P) w (sizeOf P el) m ad m c news hl hnews
      have hst := run_storeCells_fz (P := P) g (n * sizeOf P el) el news 0 cur w hfz hg (by simpa using hfit) h1
      simp only [Nat.add_zero] at hst
      refine ⟨.slice (some ⟨g, 0, none⟩) (n + m) cap, w.setRow g (cur.toList.take (n * sizeOf P el) ++ news ++ cur.toList.drop (n * sizeOf P el + news.length)).toArray, ?_, ⟨hlen, .inr ⟨g, cap, _, fz, rfl, ?_, setRow_heap w g cur _ el _ hg, hroom, hcm, ?_, ?_⟩⟩, ⟨rfl, rfl, rfl, by simp, fun k _ hk => setRow_other w g k _ (fun e => hk (by simp [Value.ownBlock, e]))⟩, .inl rfl⟩
      · rw [← hs] at hf hst ⊢
        simp [Builtin.append_, run_underlying hu, Go.sizeOf, typeInfo, hi, Builtin.lenOf, hroom, hf, Addr.add_lit, hst]
      · have : (cur.toList.take (n * sizeOf P el) ++ news ++ cur.toList.drop (n * sizeOf P el + news.length)).toArray.size = cur.size := by
          simp only [List.size_toArray, List.length_append, List.length_take, List.length_drop, Array.length_toList]
          omega
        rw [this]; exact hfz
      · simp only [List.size_toArray, List.length_append, List.length_take, List.length_drop, Array.length_toList]
        omega
      · rw [htk, ← hlen]
        exact List.take_left
    · have holds : ∀ j u, xs[j]? = some u → w.cell? ((⟨g, 0, none⟩ : Addr).add j) = some u := ownsR_cells (g := g) hown rfl
      have hr := run_append_grow (P := P) w t ty el i z hu hi hz ⟨g, 0, none⟩ n cap xs (by rw [hs]; exact hown.1) holds ad m c news (by rw [hs]; exact hl) hnews (by omega) (by simp only [maxLen] at h63; omega) (growslice_fits (by omega) hb)
      have hge := grownCap_ge w (n + m) cap el
      have hcm' : grownCap w (n + m) cap el ≤ maxLen := grownCap_le_maxLen w (n + m) cap el h63
      refine ⟨_, _, hr, ⟨hlen, .inr ⟨w.heap.size, _, _, (0, 0), rfl, .inl rfl, heap_alloc_new w.drew _, hge, hcm', ?_, ?_⟩⟩, ⟨rfl, rfl, rfl, by simp, fun k hk _ => heap_alloc_old w.drew _ hk⟩, .inr ⟨w.heap.size, rfl, Nat.le_refl _⟩⟩
      · simp only [Array.size_append, List.size_toArray, size_zeroCells, hzs, hxn, hl, ← Nat.add_mul]
        congr 1
        omega
      · simp only [Array.toList_append, List.append_assoc]
        rw [← List.append_assoc, ← hlen]
        exact List.take_left
theorem append_nil_run {el : TypeId} (ht : tk P t = .slice el) (ty : TypeId) {xs : List Value} (hown : ownsR w el (sizeOf P el) v n xs) (c : Nat) : (Builtin.append_ #[t, t] ty #[v, .slice none 0 c]).run P w = .ok v w := by
  obtain ⟨hu, hel⟩ := tk_slice ht
  obtain ⟨i, z, hi, hz, hzs, hpos, hby, hs⟩ := elemOk_info hel
  rcases hown.2 with ⟨rfl, rfl⟩ | ⟨g, cap, cur, fz, rfl, _, _, hnc, _⟩
  · simp [Builtin.append_, run_underlying hu, Go.sizeOf, typeInfo, hi, Builtin.lenOf, Builtin.firstCells]
  · simp [Builtin.append_, run_underlying hu, Go.sizeOf, typeInfo, hi, Builtin.lenOf, Builtin.firstCells, hnc, storeCells]
theorem flat_ow : ∀ {m n : Nat} {t : TypeId} {p : PV} {c : List Value}, flat P m t = true → Rd P ok w n t p c → Ow P w' n t p c []
  | 0, n, t, p, c, h, _ => by simp [flat] at h
  | m + 1, 0, t, p, c, h, hr => hr.elim
  | m + 1, n + 1, t, p, c, h, hr => by
    unfold Rd at hr
    unfold Ow
    split <;> rename_i hk <;> simp only [hk] at hr
    · exact ⟨hr, rfl⟩
    · exact ⟨hr, rfl⟩
    · exact ⟨hr, rfl⟩
    · exact absurd hk (flat_noSlice h)
    · rename_i fs
      obtain ⟨ps, rfl, h2⟩ := hr
      refine ⟨ps, rfl, ?_⟩
      have key : ∀ (ts : List TypeId) (qs : List PV) (cs : List Value), (∀ f ∈ ts, flat P m f = true) → Flds (Rd P ok w n) ts qs cs → OwFlds (Ow P w' n) ts qs cs [] := by
        intro ts
        induction ts with
        | nil => intro qs cs _ h; cases qs with
          | nil => exact ⟨h, rfl⟩
          | cons => exact h.elim
        | cons f ts ih => intro qs cs hf h; cases qs with
          | nil => exact h.elim
          | cons q qs =>
            obtain ⟨c, cs', h1, h2, h3⟩ := h
            exact ⟨c, cs', [], [], h1, rfl, flat_ow (hf f List.mem_cons_self) h2, ih _ _ (fun g hg => hf g (List.mem_cons_of_mem _ hg)) h3⟩
      refine key _ _ _ (fun f hf => ?_) h2
      simp only [flat, hk] at h
      exact List.all_eq_true.1 h f hf
    · simp [flat, hk] at h
theorem rowAt_cells {R : PV → List Value → Prop} {R' : PV → List Value → List Nat → Prop} {sz : Nat} (hR : ∀ p c, R p c → R' p c []) : ∀ {ps : List PV} {ad : Addr}, RowAt R w sz ad ps → ∃ news, news.length = ps.length * sz ∧ Loc w ad news ∧ OwSeq R' sz ps news []
  | [], ad, _ => ⟨[], by simp, fun q u hq => by simp at hq, rfl, rfl⟩
  | p :: ps, ad, h => by
    obtain ⟨c, h1, h2, h3⟩ := h 0 p rfl
    have hrest : RowAt R w sz (ad.add sz) ps := fun j q hj => by
      obtain ⟨d, b1, b2, b3⟩ := h (j + 1) q (by simpa using hj)
      refine ⟨d, b1, fun k u hk => ?_, b3⟩
      rw [add_add, show sz + (j * sz + k) = (j + 1) * sz + k by rw [Nat.add_mul]; omega]
      exact b2 k u hk
    obtain ⟨news, e1, e2, e3⟩ := rowAt_cells hR hrest
    refine ⟨c ++ news, by simp [h1, e1, Nat.add_mul]; omega, fun q u hq => ?_, c, news, [], [], rfl, h1, rfl, hR _ _ h3, e3⟩
    by_cases hlt : q < c.length
    · rw [List.getElem?_append_left hlt] at hq
      have := h2 q u hq
      simpa using this
    · rw [List.getElem?_append_right (by omega)] at hq
      have := e2 _ u hq
      rw [add_add] at this
      rwa [show sz + (q - c.length) = q by omega] at this
theorem OwSeq.append {R : PV → List Value → List Nat → Prop} {sz : Nat} : ∀ {ps qs : List PV} {xs ys : List Value} {F G : List Nat}, OwSeq R sz ps xs F → OwSeq R sz qs ys G → OwSeq R sz (ps ++ qs) (xs ++ ys) (F ++ G)
  | [], qs, xs, ys, F, G, h, h' => by obtain ⟨rfl, rfl⟩ := h; simpa using h'
  | p :: ps, qs, xs, ys, F, G, ⟨c, cs', f, F', h1, h2, h3, h4, h5⟩, h' => ⟨c, cs' ++ ys, f, F' ++ G, by rw [h1]; simp, h2, by rw [h3]; simp, h4, OwSeq.append h5 h'⟩
theorem OwSeq.ones {R : PV → List Value → List Nat → Prop} {sz : Nat} (hR : ∀ p c f, R p c f → ∀ u ∈ c, one u = true) : ∀ {ps : List PV} {xs : List Value} {F : List Nat}, OwSeq R sz ps xs F → ∀ u ∈ xs, one u = true
  | [], xs, F, h, u, hu => by rw [h.1] at hu; cases hu
  | p :: ps, xs, F, ⟨c, cs', f, F', h1, h2, h3, h4, h5⟩, u, hu => by
    subst h1
    rcases List.mem_append.1 hu with h | h
    · exact hR _ _ _ h4 u h
    · exact OwSeq.ones hR h5 u h
/-- The elements handed to an append: what they are, where they lie. G: the blocks they bring with them. -/
structure News (P : Program) (M : Mm) (el : TypeId) (v : Value) (qs : List PV) (G : List Nat) : Prop where
  out : ((∃ c, v = .slice none 0 c) ∧ qs = [] ∧ G = []) ∨ ∃ ad c news n, v = .slice (some ad) qs.length c ∧ news.length = qs.length * sizeOf P el ∧ Loc M.w ad news ∧ OwSeq (Ow P M.w n el) (sizeOf P el) qs news G
theorem goes_append (hm : At P C M) {el : TypeId} (ht : tk P t = .slice el) (ty : TypeId) {vx vy : Value} {ps qs : List PV} {l m : List Nat} {G : List Nat} (hfr : M.oh fr = .free) (hx : ∃ n, Ow P M.w n t (.list ps) [vx] (l.flatMap M.G.ft)) (hy : News P M el vy qs G)
    (hG : G.Nodup) (hGm : ∀ k ∈ G, k ∈ m.flatMap M.G.ft) (hl : ∀ i ∈ l ++ m, ∃ u q, M.oh i = .row u q) (hnd : (l ++ m).Nodup) (wi : List Nat) (hlim : ps.length + qs.length ≤ lim P el) :
    ∃ v' w', (Builtin.append_ #[t, t] ty #[vx, vy]).run P M.w = .ok v' w' ∧ Goes P C M ⟨.ref fr [], (l ++ m).map (fun i => (i, .dead)) ++ [(fr, .row t (.list (ps ++ qs)))], wi, []⟩ v' w' := by
  obtain ⟨n, hx⟩ := hx
  cases n with
  | zero => exact hx.elim
  | succ n =>
    have hx0 := hx
    unfold Ow at hx
    simp only [ht] at hx
    obtain ⟨v0, xs, ps0, F0, e1, e2, hown, hF, hseq⟩ := hx
    simp at e1; subst e1
    injection e2 with e2; subst e2
    have hall : ((l ++ m).flatMap M.G.ft).Nodup := ft_nodup hm.mem hnd
    rw [List.flatMap_append, List.nodup_append] at hall
    obtain ⟨n1, n2, n3⟩ := hall
    have hF0 : ∀ k ∈ F0, k ∈ l.flatMap M.G.ft := fun k hk => by rw [hF]; simp [hk]
    have hlt : ∀ {k : Nat} {j : List Nat}, k ∈ j.flatMap M.G.ft → k < M.w.heap.size := fun hk => by
      obtain ⟨i, _, h2⟩ := List.mem_flatMap.1 hk
      exact hm.mem.lt h2
    rcases hy.out with ⟨⟨c0, rfl⟩, rfl, rfl⟩ | ⟨ad, c, news, nG, rfl, hnl, hloc, hns⟩
    · refine ⟨vx, M.w, append_nil_run ht ty hown c0, goes_row (FR := l.flatMap M.G.ft) hm hfr hl ⟨rfl, rfl, rfl, Nat.le_refl _, fun _ _ _ => rfl⟩ n1 (fun k hk => .inr (by rw [List.flatMap_append]; exact List.mem_append_left _ hk)) _ ⟨n + 1, by simpa using hx0⟩ ?_⟩
      obtain ⟨A, cap, hv, _⟩ := ownsRow_slice hown
      rw [hv]; rfl
    · have hones : ∀ u ∈ news, one u = true := hns.ones (fun p c f hp => hp.ones)
      obtain ⟨v', w', a1, a2, a3, a4⟩ := append_run (P := P) (w := M.w) (c := c) ht ty hown hnl hloc hones hlim
      obtain ⟨A, cap, hv', _⟩ := ownsRow_slice a2
      have hbl : ∀ k, vx.ownBlock = some k → k ∈ l.flatMap M.G.ft := fun k hk => by rw [hF, hk]; simp
      have hbF0 : ∀ k, vx.ownBlock = some k → k ∉ F0 := fun k hk hk' => by
        rw [hF, hk] at n1
        exact (List.nodup_append.1 n1).2.2 k (by simp) k hk' rfl
      have hbG : ∀ k, k ∈ l.flatMap M.G.ft → k ∉ G := fun k hk hk' => n3 k hk k (hGm k hk') rfl
      have hstep : Step M.w w' (fun k => k ∈ (l ++ m).flatMap M.G.ft) := ⟨a3.os, a3.tape, a3.output, a3.size, fun k hk hn => a3.block k hk (fun he => hn (by rw [List.flatMap_append]; exact List.mem_append_left _ (hbl k he.symm)))⟩
      refine ⟨v', w', a1, goes_row (FR := v'.ownBlock.toList ++ (F0 ++ G)) hm hfr hl hstep ?_ (fun k hk => ?_) _ ⟨max n nG + 1, ?_⟩ (by rw [hv']; rfl)⟩
      · have hFG : (F0 ++ G).Nodup := List.nodup_append.2 ⟨by rw [hF] at n1; exact (List.nodup_append.1 n1).2.1, hG, fun a ha b hb he => hbG a (hF0 a ha) (he ▸ hb)⟩
        refine List.nodup_append.2 ⟨by cases v'.ownBlock <;> simp, hFG, fun a ha b hb he => ?_⟩
        subst he
        have ha' : v'.ownBlock = some a := by cases h : v'.ownBlock <;> simp [h] at ha ⊢; exact ha.symm
        rcases a4 with h | ⟨b', h1, h2⟩
        · rw [ha'] at h
          rcases List.mem_append.1 hb with hb | hb
          · exact hbF0 a h.symm hb
          · exact hbG a (hbl a h.symm) hb
        · rw [ha'] at h1; injection h1 with h1; subst h1
          rcases List.mem_append.1 hb with hb | hb
          · have := hlt (hF0 a hb); omega
          · have := hlt (hGm a hb); omega
      · rcases List.mem_append.1 hk with hk | hk
        · have ha' : v'.ownBlock = some k := by cases h : v'.ownBlock <;> simp [h] at hk ⊢; exact hk.symm
          rcases a4 with h | ⟨b', h1, h2⟩
          · rw [ha'] at h
            exact .inr (by rw [List.flatMap_append]; exact List.mem_append_left _ (hbl k h.symm))
          · rw [ha'] at h1; injection h1 with h1; subst h1; exact .inl h2
        · right
          rw [List.flatMap_append]
          rcases List.mem_append.1 hk with hk | hk
          · exact List.mem_append_left _ (hF0 k hk)
          · exact List.mem_append_right _ (hGm k hk)
      · unfold Ow
        simp only [ht]
        refine ⟨v', xs ++ news, ps ++ qs, F0 ++ G, rfl, rfl, by simpa using a2, rfl, OwSeq.append (hseq.imp (fun p c f hf hp => (hp.frame (fun k hk => ?_)).le (Nat.le_max_left _ _))) (hns.imp (fun p c f hf hp => (hp.frame (fun k hk => ?_)).le (Nat.le_max_right _ _)))⟩
        · exact a3.block k (hp.lt k hk) (fun he => hbF0 k he.symm (hf k hk))
        · exact a3.block k (hp.lt k hk) (fun he => hbG k (hbl k he.symm) (hf k hk))
end
end Go.Proofs.YtfbkfhdlingedaaAm

/-! The operation append. -/
namespace Go.Proofs.YtfbkfhdlingedaaAm
open Go RowKit
section
variable {P : Program} {C : Cx} {M : Mm} {x : SV} {v : Value} {o : Oper} {a : Act} {e : Eff} {n : Nat} {t t' u : TypeId} {pv : PV} {cs : List Value} {ok : Nat → Prop} {w w' : World} {F : List Nat} {h' : Nat → Own} {fr : Nat} {l : List Nat} {ob : Own}
variable [Glb P]
/-- A slice type's slot, taken over. -/
theorem take_slice {el : TypeId} (hm : Mem P C M) (hs : Slot P M x v) (hh : ∀ id ∈ idsOf x, h' id = M.oh id) (ht : tk P t = .slice el) {p : PV} {l : List Nat} (hc : takeT P h' t x = some (p, l)) :
    ∃ ps, p = .list ps ∧ (∃ n, Ow P M.w n t (.list ps) [v] (l.flatMap M.G.ft)) ∧ (∀ i ∈ l, i ∈ idsOf x ∧ ∃ u q, M.oh i = .row u q) := by
  have hx : Leaf P M x v ∧ one v = true := by
    apply hs.leaf_inv
    · intro u xs he; subst he; simp [takeT, ht] at hc
    · intro xs he; subst he; simp [takeT] at hc
    · intro he; subst he; simp [takeT] at hc
    · intro he; subst he; simp [takeT] at hc
    · intro u k q he; subst he; simp [takeT, ht] at hc
  obtain ⟨⟨n, h1⟩, h2⟩ := take_leaf hm hx.1 hx.2 hh hc
  have h0 := h1
  cases n with
  | zero => exact h1.elim
  | succ n =>
    unfold Ow at h1
    simp only [ht] at h1
    obtain ⟨v0, xs, ps, F0, e1, e2, _⟩ := h1
    subst e2
    exact ⟨ps, rfl, ⟨n + 1, h0⟩, h2⟩
theorem news_of_ow {el : TypeId} {qs : List PV} {G : List Nat} (ht : tk P t = .slice el) (h : ∃ n, Ow P M.w n t (.list qs) [v] G) : ∃ G', (∀ k ∈ G', k ∈ G) ∧ (G.Nodup → G'.Nodup) ∧ News P M el v qs G' := by
  obtain ⟨n, h⟩ := h
  cases n with
  | zero => exact h.elim
  | succ n =>
    unfold Ow at h
    simp only [ht] at h
    obtain ⟨v0, xs, ps, F0, e1, e2, hown, rfl, hseq⟩ := h
    simp at e1; subst e1
    injection e2 with e2; subst e2
    refine ⟨F0, fun k hk => by simp [hk], fun hn => (List.nodup_append.1 hn).2.1, ⟨?_⟩⟩
    rcases hown.2 with ⟨rfl, h0⟩ | ⟨g, cap, cur, fz, rfl, _, hg, hnc, _⟩
    · have : qs = [] := List.length_eq_zero_iff.1 h0
      subst this
      exact .inl ⟨⟨0, rfl⟩, rfl, hseq.2⟩
    · exact .inr ⟨⟨g, 0, none⟩, cap, xs, n, rfl, hown.1, fun q u hq => ownsR_cells (g := g) hown rfl q u hq, hseq⟩
theorem news_of_rd {el : TypeId} {qs : List PV} {m : Nat} (ht : tk P t = .slice el) (hf : flat P m el = true) {A : Option Addr} {cap : Nat} (hv : v = .slice A qs.length cap) (h : Rd P ok M.w (n + 1) t (.list qs) [v]) : News P M el v qs [] := by
  unfold Rd at h
  simp only [ht] at h
  obtain ⟨A', cap', ps, h1, h2, h3, h4⟩ := h
  injection h2 with h2; subst h2
  simp at h1
  rw [hv] at h1
  injection h1 with e1 e2 e3
  subst e1 e3
  refine ⟨?_⟩
  by_cases h0 : 0 < qs.length
  · obtain ⟨ad, rfl, _, hrow⟩ := h4 h0
    obtain ⟨news, b1, b2, b3⟩ := rowAt_cells (R' := Ow P M.w n el) (fun p c hp => flat_ow hf hp) hrow
    exact .inr ⟨ad, cap, news, n, hv, b1, b2, b3⟩
  · have hnil : qs = [] := List.length_eq_zero_iff.1 (by omega)
    subst hnil
    cases A with
    | none => exact .inl ⟨⟨cap, hv⟩, rfl, rfl⟩
    | some ad => exact .inr ⟨ad, cap, [], 1, hv, by simp, fun q u hq => by simp at hq, rfl, rfl⟩
theorem ok_append0 (hm : At P C M) {c : Call} {y z : Operand} (ho : o.op = .call c) (hcal : c.callee = .builtin .append) (hargs : c.args = #[y, z]) (hat : c.argTypes = #[t, t']) {sx sy : SV} (hx : Slot P M sx (a.eval y)) (hy : Slot P M sy (a.eval z)) (hh : ∀ id ∈ fr :: (idsOf sx ++ idsOf sy), h' id = M.oh id) (h : eAppend0 P h' some fr t t' sx sy = some e) : OpOk P C M o a e := by
  unfold eAppend0 at h
  split at h
  case h_2 => cases h
  rename_i el ht hfr
  rw [hh fr (by simp)] at hfr
  have hhx : ∀ id ∈ idsOf sx, h' id = M.oh id := fun id hid => hh id (by simp [hid])
  have hhy : ∀ id ∈ idsOf sy, h' id = M.oh id := fun id hid => hh id (by simp [hid])
  cases htx : takeT P h' t sx with
  | none => rw [htx] at h; cases h
  | some r1 =>
    obtain ⟨p, l⟩ := r1
    obtain ⟨ps, rfl, hxo, hxl⟩ := take_slice hm.mem hx hhx ht htx
    have fin : ∀ {qs : List PV} {m G : List Nat}, News P M el (a.eval z) qs G → G.Nodup → (∀ k ∈ G, k ∈ m.flatMap M.G.ft) → (∀ i ∈ m, ∃ u q, M.oh i = .row u q) → (bif Nat.beq t t' && nodupB (fr :: l ++ m) && disj (idsOf sy) l then (if (PV.list ps).items.length + (PV.list qs).items.length ≤ lim P el then some (⟨.ref fr [], (l ++ m).map (fun i => (i, .dead)) ++ [(fr, .row t (.list ((PV.list ps).items ++ (PV.list qs).items)))], l ++ m ++ [fr], []⟩ : Eff) else none) else none) = some e → OpOk P C M o a e := by
      intro qs m G hn hG hGm hml hc
      cases hb : (Nat.beq t t' && nodupB (fr :: l ++ m) && disj (idsOf sy) l) <;> simp only [hb, cond_true, cond_false] at hc
      · cases hc
      · simp only [Bool.and_eq_true, Nat.beq_eq] at hb
        obtain ⟨⟨rfl, hnd⟩, _⟩ := hb
        split at hc
        · rename_i hlim
          injection hc with hc; subst hc
          have hnd' := (List.nodup_cons.1 (nodupB_nodup hnd)).2
          obtain ⟨v', w', a1, a2⟩ := goes_append hm ht o.type hfr hxo hn hG hGm (fun i hi => by
            rcases List.mem_append.1 hi with h | h
            · exact (hxl i h).2
            · exact hml i h) hnd' (l ++ m ++ [fr]) hlim
          refine opOk_val ?_ a2
          simp [execOp, ho, resolve, hcal, hargs, hat, invoke, builtin, a1]
        · cases hc
    rw [htx] at h
    cases hfl : flat P 8 el
    · simp only [hfl, cond_false] at h
      cases hty : takeT P h' t' sy with
      | none => rw [hty] at h; cases h
      | some r2 =>
        obtain ⟨q, m⟩ := r2
        rw [hty] at h
        simp only at h
        by_cases htt : t = t'
        · subst htt
          obtain ⟨qs, rfl, hyo, hyl⟩ := take_slice hm.mem hy hhy ht hty
          obtain ⟨G, g1, g2, g3⟩ := news_of_ow ht hyo
          cases hb : nodupB (fr :: l ++ m)
          · simp only [hb, Bool.and_false, Bool.false_and, cond_false] at h; cases h
          · have hmn : m.Nodup := (List.nodup_append.1 (List.nodup_cons.1 (nodupB_nodup hb)).2).2.1
            exact fin g3 (g2 (ft_nodup hm.mem hmn)) g1 (fun i hi => (hyl i hi).2) h
        · have : Nat.beq t t' = false := by
            cases hb : Nat.beq t t'
            · rfl
            · exact absurd (Nat.eq_of_beq_eq_true hb) htt
          simp [this] at h
    · simp only [hfl, cond_true] at h
      cases hty : contT P h' t' sy with
      | none => rw [hty] at h; cases h
      | some q =>
        rw [hty] at h
        simp only at h
        by_cases htt : t = t'
        · subst htt
          obtain ⟨A, cap, qs, n, hv, rfl, _, hr⟩ := cont_slice hm.mem hy hhy ht hty
          exact fin (m := []) (G := []) (news_of_rd ht hfl hv hr) (by simp) (by simp) (by simp) h
        · have : Nat.beq t t' = false := by
            cases hb : Nat.beq t t'
            · rfl
            · exact absurd (Nat.eq_of_beq_eq_true hb) htt
          simp [this] at h
end
end Go.Proofs.YtfbkfhdlingedaaAm

/-! Made rows. -/
namespace Go.Proofs.YtfbkfhdlingedaaAm
open Go RowKit
section
variable {P : Program} {C : Cx} {M : Mm} {x : SV} {v : Value} {o : Oper} {a : Act} {e : Eff} {n : Nat} {t t' u : TypeId} {pv : PV} {cs : List Value} {ok : Nat → Prop} {w w' : World} {F : List Nat} {h' : Nat → Own} {fr : Nat} {l : List Nat} {ob : Own}
variable [Glb P]
theorem zeroPV_ok (hm : Mem P C M) {i : TypeInfo} {z : Value} (hi : P.info? t = some i) (hz : i.zero = some z) {p : PV} (h : zeroPV P t = some p) : ∃ n, Ow P M.w n t p z.cells.toList [] := by
  unfold zeroPV zeroSV at h
  rw [hi] at h
  simp only [hz] at h
  cases hone : z.cells.toList.all (·.oneCell') <;> simp only [hone, cond_true, cond_false] at h
  · cases h
  · cases hp : parse P 8 t z.cells.toList with
    | none => rw [hp] at h; cases h
    | some x =>
      rw [hp] at h
      simp only at h
      split at h
      · rename_i p' hids htk
        injection h with h; subst h
        have hsv := zero_one (M := M) hp hone
        obtain ⟨⟨n, hn⟩, _⟩ := take_svc (h' := noRef) hm hsv (fun id hid => by rw [hids] at hid; cases hid) htk
        exact ⟨n, by simpa using hn⟩
      · cases h
theorem made_flat {z : Value} {s : Nat} (hs : 0 < s) (hz : z.cells.size = s) (n : Nat) : (madeCells z.cells (n * s)).toList = (List.replicate n z).flatMap fun v => v.cells.toList := by
  apply List.ext_getElem?
  intro k
  rw [Great.flat_get hs _ (fun v hv => by rw [List.eq_of_mem_replicate hv]; exact hz)]
  by_cases hk : k < n * s
  · have hd : k / s < n := (Nat.div_lt_iff_lt_mul hs).2 hk
    have hm : k % s < z.cells.size := by rw [hz]; exact Nat.mod_lt _ hs
    simp [madeCells, hk, hd, hz]
    rw [getElem!_pos z.cells (k % s) hm]; simp [hm]
  · have hd : ¬ k / s < n := fun h => hk ((Nat.div_lt_iff_lt_mul hs).1 h)
    simp [madeCells, hk, hd]
theorem seq_replicate {R : PV → List Value → List Nat → Prop} {p : PV} {c : List Value} {sz : Nat} (hc : c.length = sz) (h : R p c []) : ∀ n, OwSeq R sz (List.replicate n p) ((List.replicate n c).flatten) []
  | 0 => ⟨rfl, rfl⟩
  | n + 1 => ⟨c, _, [], [], by simp [List.replicate_succ], hc, rfl, h, seq_replicate hc h n⟩
theorem flat_replicate (z : Value) : ∀ n, (List.replicate n z).flatMap (fun v => v.cells.toList) = (List.replicate n z.cells.toList).flatten
  | 0 => rfl
  | n + 1 => by simp [List.replicate_succ, flat_replicate z n]
theorem ok_makeSlice (hm : At P C M) {y z : Operand} (ho : o.op = .makeSlice t y z) {sy sz : SV} (hy : Slot P M sy (a.eval y)) (hz : Slot P M sz (a.eval z)) (hh : ∀ id ∈ [fr], h' id = M.oh id) (h : eMakeSlice P h' some fr t sy sz = some e) : OpOk P C M o a e := by
  unfold eMakeSlice at h
  split at h
  case h_2 => cases h
  rename_i n c
  split at h
  case h_2 => cases h
  rename_i el ht hfr
  rw [hh fr (by simp)] at hfr
  split at h
  case h_2 => cases h
  rename_i p hzp
  split at h
  case isFalse => cases h
  rename_i h0
  split at h
  case isFalse => cases h
  rename_i hnc
  split at h
  case isFalse => cases h
  rename_i hlim
  injection h with h; subst h
  obtain ⟨hu, hel⟩ := tk_slice ht
  obtain ⟨i, zv, hi, hzv, hzs, hpos, hby, hs⟩ := elemOk_info hel
  have hb : i.bytes * c.toNat ≤ 281474976710656 := by
    simp only [limMake, hi] at hlim
    rw [Nat.mul_comm]
    exact (Nat.le_div_iff_mul_le hby).1 hlim
  have hc0 : ((c.toNat : Nat) : Int) = c := Int.toNat_of_nonneg (by omega)
  have h63 : c.toNat ≤ maxLen := by
    have : c.toNat ≤ i.bytes * c.toNat := Nat.le_mul_of_pos_left _ hby
    simp only [maxLen]; omega
  have hb' : (i.bytes : Int) * c ≤ 281474976710656 := by
    have h : ((i.bytes * c.toNat : Nat) : Int) ≤ 281474976710656 := by omega
    rwa [Int.natCast_mul, hc0] at h
  have a1 := run_make (P := P) M.w t el i zv hu hi hzv .i64 .i64 n c h0 hnc hb' (by simp only [maxLen] at h63; omega)
  have a2 : (M.w.alloc (.cells (madeCells zv.cells (c.toNat * i.size)) el)).ownsRow 0 el (sizeOf P el) (.slice (some ⟨M.w.heap.size, 0, none⟩) n.toNat c.toNat) n.toNat (madeCells zv.cells (n.toNat * sizeOf P el)).toList := by
    rw [hs]
    refine ⟨by simp [madeCells], .inr ⟨M.w.heap.size, c.toNat, _, rfl, Nat.zero_le _, heap_alloc_new M.w _, by omega, h63, size_madeCells _ _, ?_⟩⟩
    have hmin : min (n.toNat * sizeOf P el) (c.toNat * sizeOf P el) = n.toNat * sizeOf P el := Nat.min_eq_left (Nat.mul_le_mul_right _ (by omega))
    simp [madeCells, ← List.map_take, List.take_range, hmin]
  have a3 := World.grownBy_alloc M.w (.cells (madeCells zv.cells (c.toNat * i.size)) el) none
  have hn : ((n.toNat : Nat) : Int) = n := Int.toNat_of_nonneg h0
  obtain ⟨m, hw⟩ := zeroPV_ok hm.mem hi hzv hzp
  generalize hW : M.w.alloc (.cells (madeCells zv.cells (c.toNat * i.size)) el) = w' at a1 a2 a3
  have hw' : Ow P w' m el p zv.cells.toList [] := hw.frame (fun k hk => by cases hk)
  have hs' : Step M.w w' (fun k => k ∈ ([] : List Nat).flatMap M.G.ft) := ⟨a3.os, a3.tape, a3.output, a3.size, fun k hk _ => a3.block k hk (by simp)⟩
  refine opOk_val ?_ (goes_row (l := []) (FR := [M.w.heap.size]) (v := .slice (some ⟨M.w.heap.size, 0, none⟩) n.toNat c.toNat) hm hfr (by simp) hs' (by simp) (by simp) [fr] ⟨m + 1, ?_⟩ rfl)
  · simp [execOp, ho, hy.sc_inv.1, hz.sc_inv.1, a1]
  · unfold Ow
    simp only [ht]
    refine ⟨_, _, List.replicate n.toNat p, [], rfl, rfl, ownsR_of (b := 0) (by simpa using a2), rfl, ?_⟩
    rw [made_flat hpos hzs, flat_replicate]
    exact seq_replicate hw'.len hw' _
end
end Go.Proofs.YtfbkfhdlingedaaAm

/-! Writing into what is one's own. -/
namespace Go.Proofs.YtfbkfhdlingedaaAm
open Go RowKit
section
variable {P : Program} {C : Cx} {M : Mm} {x : SV} {v : Value} {o : Oper} {a : Act} {e : Eff} {n : Nat} {t t' u : TypeId} {pv : PV} {cs : List Value} {ok : Nat → Prop} {w w' : World} {F : List Nat} {h' : Nat → Own} {fr id : Nat} {l : List Nat} {ob : Own} {stale : List Nat}
variable [Glb P]
theorem newOh_upd (oh : Nat → Own) (val : SV) (wi stale : List Nat) (i : Nat) : newOh oh ⟨val, l.map (fun i => (i, .dead)) ++ [(id, ob)], wi, stale⟩ i = freshenOwn stale (if i = id then ob else if i ∈ l then .dead else oh i) := by
  have := newOh_new (l := l) (fr := id) (ob := ob) oh val wi i
  simp only [newOh, freshenOwn_nil] at this ⊢
  rw [this]
/-- The ghosts behind a write. -/
def Gh.upd (G : Gh) (id : Nat) (FR : List Nat) (l : List Nat) : Gh := ⟨G.hnd, fun i => if i = id then FR else if i ∈ l then [] else G.ft i, G.cv, G.rok⟩
theorem trans_upd (hm : At P C M) {FR : List Nat} (hid : id ∉ l) (hl : ∀ i ∈ l, ∃ u q, M.oh i = .row u q) (hs : Step M.w w' (fun k => k ∈ (id :: l).flatMap M.G.ft)) (hF : FR.Nodup) (hFR : ∀ k ∈ FR, M.w.heap.size ≤ k ∨ k ∈ (id :: l).flatMap M.G.ft) (val : SV) (wi : List Nat)
    (hnew : IdStep P M ⟨w', newOh M.oh ⟨val, l.map (fun i => (i, .dead)) ++ [(id, ob)], wi, stale⟩, M.G.upd id FR l⟩ stale id) :
    Trans P C M ⟨w', newOh M.oh ⟨val, l.map (fun i => (i, .dead)) ++ [(id, ob)], wi, stale⟩, M.G.upd id FR l⟩ stale := by
  have hout : ∀ j, j ≠ id → j ∉ l → ∀ k ∈ M.G.ft j, k ∉ (id :: l).flatMap M.G.ft := fun j h1 h2 k hk hk' => by
    obtain ⟨j', hj, hk2⟩ := List.mem_flatMap.1 hk'
    refine hm.mem.dj j j' (fun he => ?_) k hk hk2
    subst he
    rcases List.mem_cons.1 hj with h | h
    · exact h1 h
    · exact h2 h
  have hFout : ∀ j, j ≠ id → j ∉ l → ∀ k ∈ FR, k ∉ M.G.ft j := fun j h1 h2 k hk hk' => by
    rcases hFR k hk with h | h
    · have := hm.mem.lt hk'; omega
    · exact hout j h1 h2 k hk' h
  refine ⟨⟨hs.os.trans hm.mem.kept.os, hs.tape.trans hm.mem.kept.tape, hs.output.trans hm.mem.kept.output, Nat.le_trans hm.mem.kept.size hs.size, fun k hk hn => ?_⟩, hs.size, fun j => ?_, fun j => ?_, fun i j hij k hk => ?_, fun j k hk => ?_, hm.pins, fun k hk hok => ?_, ⟨rfl, rfl⟩⟩
  · refine (hs.block k (Nat.lt_of_lt_of_le hk hm.mem.kept.size) (fun hc => ?_)).trans (hm.mem.kept.block k hk hn)
    obtain ⟨j, _, hj⟩ := List.mem_flatMap.1 hc
    exact hn (hm.mem.own j k hj)
  · by_cases h1 : j = id
    · subst h1; exact hnew
    · by_cases h2 : j ∈ l
      · refine .dead ?_ ?_ ?_
        · simp only [newOh_upd, h1, if_false, h2, if_true]; rfl
        · simp [Gh.upd, h1, h2]
        · obtain ⟨u, q, h3⟩ := hl j h2; rw [h3]; simp
      · refine .same ?_ rfl ?_ (fun k hk => ?_)
        · simp only [newOh_upd, h1, if_false, h2]
        · simp [Gh.upd, h1, h2]
        · exact hs.block k (hm.mem.lt hk) (hout j h1 h2 k hk)
  · simp only [Gh.upd]
    split
    · exact hF
    · split
      · simp
      · exact hm.mem.nd j
  · simp only [Gh.upd] at hk ⊢
    by_cases h1 : i = id
    · simp only [h1, if_true] at hk
      by_cases h2 : j = id
      · exact absurd (h1.trans h2.symm) hij
      · simp only [h2, if_false]
        split
        · simp
        · rename_i h3; exact hFout j h2 h3 k hk
    · simp only [h1, if_false] at hk
      split at hk
      · cases hk
      · rename_i h3
        split
        · intro hk'; exact hFout i h1 h3 k hk' hk
        · split
          · simp
          · exact hm.mem.dj i j hij k hk
  · simp only [Gh.upd] at hk
    split at hk
    · rcases hFR k hk with h | h
      · exact hm.mem.new k (Nat.le_trans hm.mem.kept.size h)
      · obtain ⟨j', _, hj⟩ := List.mem_flatMap.1 h
        exact hm.mem.own j' k hj
    · split at hk
      · cases hk
      · exact hm.mem.own j k hk
  · have hnl : k ∉ (id :: l).flatMap M.G.ft := fun hc => by
      obtain ⟨j, _, hj⟩ := List.mem_flatMap.1 hc
      exact hok.2 j hj
    refine ⟨⟨hok.1, fun j hk' => ?_⟩, hs.block k hk hnl⟩
    simp only [Gh.upd] at hk'
    split at hk'
    · rcases hFR k hk' with h | h
      · omega
      · exact hnl h
    · split at hk'
      · cases hk'
      · exact hok.2 j hk'
/-- A store: what turns. -/
theorem run_store_var {g off : Nat} {cur : Array Value} {el : TypeId} {fz : Nat × Nat} (hb : tk P t ≠ .bad) (hfz : FzOk cur.size fz) (hg : w.heap[g]? = some (.cells cur el fz)) (hv : v.cells.size = sizeOf P t) (hin : off + v.cells.size ≤ cur.size) (h1 : ∀ u ∈ v.cells.toList, one u = true) :
    ∃ w', (storeVar t ⟨g, off, none⟩ v).run P w = .ok () w' ∧ Patched w w' ⟨g, off, none⟩ v.cells.toList ∧ Step w w' (fun k => k = g) := by
  obtain ⟨i, hi, hs⟩ := info_of hb
  have hlen : v.cells.toList.length = v.cells.size := by simp
  have hr := run_storeCells_fz (P := P) g off el v.cells.toList 0 cur w hfz hg (by simp; omega) h1
  refine ⟨w.setRow g (patch cur.toList off v.cells.toList).toArray, ?_, ⟨rfl, fun cur0 e0 fz0 hc => ?_, fun k hk => setRow_other w g k _ hk⟩, ⟨rfl, rfl, rfl, ?_, fun k _ hk => setRow_other w g k _ hk⟩⟩
  · simp only [storeVar, Sem.run_bind, run_sizeOf' hi, Result.andThen_ok, hs, hv, ne_eq, not_true, if_false]
    simpa [patch] using hr
  · rw [hg] at hc
    injection hc with hc; injection hc with e1 e2 e3
    subst e1 e2 e3
    exact ⟨_, setRow_heap w g cur _ el _ hg, by simp⟩
  · simp [World.setRow]
theorem goes_store_box (hm : At P C M) {g off : Nat} {sv y : SV} {p : List Stp} (ho1 : M.oh id = .box u sv) (hd : M.G.hnd id = .pointer (some ⟨g, 0, none⟩)) (hpl : PlcF P u 0 p (tyAt P u p) off) (hal : alike P t (tyAt P u p) = true) (hf : fits P t y = true) (hf2 : fits P t (sv.at p) = true) (hso : setOk sv p y = true) (hy : Slot P M y v) :
    ∃ w', (storeVar t ⟨g, off, none⟩ v).run P M.w = .ok () w' ∧ Goes P C M ⟨.undef, [(id, .box u (sv.setAt p y))], [id], []⟩ Go.undef w' := by
  obtain ⟨g', bcs, b1, b2, b3, b4⟩ := hm.mem.box id u sv ho1
  rw [hd] at b1; injection b1 with b1; injection b1 with b1; injection b1 with b1
  subst b1
  obtain ⟨A, c, B, d1, d2, d3, d4⟩ := b4.at_ hpl (fits_notJunk hf2)
  have hyv := slot_svc hy hf
  have htk : tk P t ≠ .bad := by
    cases hs : sv.at p with
    | agg u' xs =>
      rw [hs] at d3
      cases d3 with
      | agg _ _ fs _ _ e1 _ _ => rw [alike_tk hal, e1]; simp
      | leaf _ _ _ hlf => exact hlf.elim
    | arr u' k pv =>
      rw [hs] at d3
      cases d3 with
      | arr _ _ _ _ _ e1 e2 =>
        obtain ⟨n, e, ps, _, q2, _⟩ := e2
        rw [alike_tk hal, alike_tk e1, q2]; simp
      | leaf _ _ _ hlf => exact hlf.elim
    | _ => exact (fits_good hf2 (by rw [hs]; simp) (by rw [hs]; simp)).1
  have hvl : v.cells.size = sizeOf P t := by simpa using hyv.len
  have hcl : c.length = sizeOf P t := d3.len.trans (alike_size hal htk).symm
  have hsz : bcs.size = A.length + c.length + B.length := by rw [← Array.length_toList, d1]; simp; omega
  obtain ⟨w', r1, r2, r3⟩ := run_store_var (P := P) (v := v) (off := off) htk (.inl rfl) b3 hvl (by omega) (fun x hx => hyv.ones x hx)
  refine ⟨w', r1, M.G.upd id [g] [], trans_upd (l := []) (ob := .box u (sv.setAt p y)) (stale := []) hm (by simp) (by simp) ⟨r3.os, r3.tape, r3.output, r3.size, fun k hk hn => r3.block k hk (fun he => hn (by simp [b2, he]))⟩ (by simp) (fun k hk => .inr (by simpa [b2] using hk)) _ _ ?_, .undef⟩
  obtain ⟨cur', q1, q2⟩ := r2.here bcs u (0, 0) b3
  refine .box u (sv.setAt p y) g cur' ?_ hd (by simp [Gh.upd]) q1 ?_ (.inr ⟨⟨sv, ho1⟩, rfl⟩)
  · simp only [newOh_upd, if_true, freshenOwn]
  · have hpt : cur'.toList = A ++ v.cells.toList ++ B := by
      rw [q2, d1]
      simp only [d2, Nat.zero_add]
      have := patch_mid (A := A) (c := c) (B := B) (d := v.cells.toList) (o := 0) (by simp; omega)
      rw [Nat.add_zero] at this
      rw [this]
      simp [patch, hcl, hvl]
    rw [hpt]
    exact d4 (svc_alike (alike_symm hal) (by rw [← alike_tk hal]; exact htk) hyv) hso
end
end Go.Proofs.YtfbkfhdlingedaaAm

/-! A write inside a row of one's own, and the operation store. -/
namespace Go.Proofs.YtfbkfhdlingedaaAm
open Go RowKit
section
variable {P : Program} {w w' : World} {t' : TypeId} {a' : Addr}
theorem Ow.putH {v' : PV} {c' : List Value} {F' : List Nat} {m : Nat} (hw : Patched w w' a' c') (hlen : c'.length = sizeOf P t') (hnew : Ow P w' m t' v' c' F') {p : List Stp} {n : Nat} {t : TypeId} {pv : PV} {v : Value} {F : List Nat}
    (h : Ow P w n t pv [v] F) (hnd : F.Nodup) (hp : PlcH P w t v p t' a') :
    ∃ N F1, Ow P w' N t (pv.setAt p v') [v] F1 ∧ (∀ x ∈ F1, x ∈ F ∨ x ∈ F') ∧ (F'.Nodup → (∀ x ∈ F', x ∉ F) → F1.Nodup) := by
  cases n with
  | zero => exact h.elim
  | succ n =>
  cases p with
  | nil => exact hp.elim
  | cons s r =>
  cases s with
  | fld i => exact hp.elim
  | idx j =>
    obtain ⟨e, A, len, cap, h1, hv, h3, h4⟩ := hp
    unfold Ow at h
    simp only [h1] at h
    obtain ⟨v0, xs, ps, F0, hvv0, rfl, h7, rfl, h9⟩ := h
    simp at hvv0; subst hvv0
    rcases h7.2 with ⟨rfl, h0⟩ | ⟨g, cap', cur, fz, hv', hfz, hh, hcap, hmax, hsz, htk⟩
    · cases hv
    · have hvv := hv.symm.trans hv'
      injection hvv with e1 e2 e3
      have hA : A = ⟨g, 0, none⟩ := Option.some.inj e1
      subst hA e2 e3
      have hob : v.ownBlock = some g := by rw [hv']; rfl
      have hcell := ownsR_cells h7 hob
      rw [hob] at hnd ⊢
      obtain ⟨q, hq⟩ : ∃ q, ps[j]? = some q := ⟨ps[j]'(by omega), by simp⟩
      obtain ⟨A1, c, B, F1, F2, F3, a2, a3, a4, a5, a6, a7⟩ := h9.get hq
      subst a5
      have hl0 : Loc w (⟨g, 0, none⟩ : Addr) (A1 ++ c ++ B) := fun q u hq => hcell q u (a2 ▸ hq)
      have hl' := hl0.app
      rw [add_none] at hl'
      rw [← a3, add_none] at h4
      have hnd' : (F1 ++ F2 ++ F3).Nodup := by simpa using (List.nodup_append.1 hnd).2.1
      have hgF : g ∉ F1 ++ F2 ++ F3 := fun hx => (List.nodup_append.1 hnd).2.2 g (by simp) g hx rfl
      have hnd2 : F2.Nodup := (List.nodup_append.1 (List.nodup_append.1 hnd').1).2.1
      obtain ⟨N, cs1, G1, b1, b2, b3, b4, b5, b6⟩ := Ow.put hw hlen hnew a6 hl' hnd2 (fun hx => hgF (by simp [hx])) h4
      have hblk : a'.block = g ∨ a'.block ∈ F2 := by
        obtain ⟨_, _, _, _, _, d3, d4⟩ := Ow.get a6 hl' h4
        exact d4
      have hrest : ∀ p c k, (∀ x ∈ k, x ∈ F1 ++ F3) → Ow P w n e p c k → Ow P w' (max n N) e p c k := fun p c k hk hp => by
        refine (Ow.frame (fun x hx => hw.rest x (fun he => ?_)) hp).le (Nat.le_max_left _ _)
        have hx1 := hk x hx
        subst he
        rcases hblk with d4 | d4
        · exact hgF (by rw [d4] at hx1; simp at hx1 ⊢; rcases hx1 with h | h <;> simp [h])
        · simp only [List.nodup_append, List.mem_append] at hnd' hx1
          rcases hx1 with h | h
          · exact hnd'.1.2.2 _ h _ d4 rfl
          · exact hnd'.2.2 _ (.inr d4) _ h rfl
      have hxl : xs.length = ps.length * sizeOf P e := h7.1
      have hrow : ownsR w' e (sizeOf P e) v ps.length (A1 ++ cs1 ++ B) := by
        refine ⟨by rw [a2] at hxl; simp at hxl ⊢; rw [b4]; exact hxl, .inr ?_⟩
        by_cases he : a'.block = g
        · obtain ⟨o, d1, d2, d3⟩ := b2 he
          obtain ⟨cur', e4, e5⟩ := hw.here cur e fz (he ▸ hh)
          have hoff : a'.off = A1.length + o := by rw [d1]; simp
          have hcl : cur.toList.length = cur.size := by simp
          have htl : xs.length ≤ cur.toList.length := by rw [← htk, List.length_take]; omega
          have hin : a'.off + c'.length ≤ xs.length := by rw [hoff, a2]; simp; omega
          have hcs : cur'.size = cur.size := by rw [← Array.length_toList, e5, patch_len (by omega), Array.length_toList]
          refine ⟨g, cap, cur', fz, hv', hcs ▸ hfz, he ▸ e4, hcap, hmax, ?_, ?_⟩
          · rw [hcs, hsz]
          · rw [e5, patch_take (by omega) (by omega), htk, a2, hoff, patch_mid d2, d3]
        · rw [b3 he]
          refine ⟨g, cap, cur, fz, hv', hfz, (hw.rest g (fun h => he h.symm)).trans hh, hcap, hmax, hsz, ?_⟩
          rw [htk, a2]
      refine ⟨max n N + 1, [g] ++ (F1 ++ G1 ++ F3), ?_, fun x hx => ?_, fun e1 e2 => ?_⟩
      · unfold Ow
        simp only [h1]
        refine ⟨v, A1 ++ cs1 ++ B, ps.set j (q.setAt r v'), F1 ++ G1 ++ F3, rfl, ?_, by simpa using hrow, by rw [hob]; rfl, ?_⟩
        · simp [PV.setAt, PV.items, PV.elem, List.getD_eq_getElem?_getD, hq]
        · exact a7 (by rw [b4, a4]) hrest (b1.le (Nat.le_max_right _ _))
      · simp only [List.mem_append, List.mem_singleton, Option.toList] at hx ⊢
        rcases hx with h | (h | h) | h
        · simp [h]
        · simp [h]
        · rcases b5 x h with h | h <;> simp [h]
        · simp [h]
      · have hG := b6 e1 (fun x hx hx' => e2 x hx (by simp [hx']))
        have hg1 : g ∉ G1 := fun hx => by
          rcases b5 g hx with h | h
          · exact hgF (by simp [h])
          · exact e2 g h (by simp)
        simp only [List.nodup_append, List.mem_append] at hnd' hgF ⊢
        refine ⟨by simp, ⟨⟨hnd'.1.1, hG, fun x hx y hy he => ?_⟩, hnd'.2.1, fun x hx y hy he => ?_⟩, fun x hx y hy he => ?_⟩
        · subst he
          rcases b5 x hy with h | h
          · exact hnd'.1.2.2 x hx x h rfl
          · exact e2 x h (by simp [hx])
        · subst he
          rcases hx with hx | hx
          · exact hnd'.2.2 x (.inl hx) x hy rfl
          · rcases b5 x hx with h | h
            · exact hnd'.2.2 x (.inr h) x hy rfl
            · exact e2 x h (by simp [hy])
        · simp at hx
          subst hx he
          rcases hy with (h | h) | h
          · exact hgF (.inl (.inl h))
          · exact hg1 h
          · exact hgF (.inr h)
/-- What lies at a place, and what may be put there in its stead while its cells stay: the blocks of the rest are as they were. -/
theorem Ow.zip {w : World} {t' : TypeId} {a' : Addr} : ∀ {p : List Stp} {n : Nat} {t : TypeId} {pv : PV} {cs : List Value} {F : List Nat} {a : Addr}, Ow P w n t pv cs F → Loc w a cs → F.Nodup → Plc P w t a p t' a' →
    ∃ m cs' Fi, Ow P w m t' (pv.at p) cs' Fi ∧ Loc w a' cs' ∧ (∀ k ∈ Fi, k ∈ F) ∧ Fi.Nodup ∧
      ∀ {w' : World} {v' : PV} {G : List Nat} {n' : Nat}, (∀ k ∈ F, k ∉ Fi → w'.heap[k]? = w.heap[k]?) → Ow P w' n' t' v' cs' G →
        ∃ N F1, Ow P w' N t (pv.setAt p v') cs F1 ∧ (∀ x ∈ F1, (x ∈ F ∧ x ∉ Fi) ∨ x ∈ G) ∧ (G.Nodup → (∀ x ∈ G, x ∈ F → x ∈ Fi) → F1.Nodup)
  | [], n, t, pv, cs, F, a, h, hl, hnd, hp => by
    obtain ⟨rfl, rfl⟩ := hp
    exact ⟨n, cs, F, h, hl, fun _ hk => hk, hnd, fun {w' v' G n'} _ hn => ⟨n', G, hn, fun x hx => .inr hx, fun h _ => h⟩⟩
  | .fld i :: r, 0, t, pv, cs, F, a, h, hl, hnd, hp => h.elim
  | .idx i :: r, 0, t, pv, cs, F, a, h, hl, hnd, hp => h.elim
  | .fld i :: r, n + 1, t, pv, cs, F, a, h, hl, hnd, hp => by
    obtain ⟨fs, f, h1, h2, h3⟩ := hp
    unfold Ow at h
    simp only [h1] at h
    obtain ⟨ps, rfl, h5⟩ := h
    obtain ⟨q, A, c, B, F1, F2, F3, a1, a2, a3, a4, a5, a6, a7⟩ := h5.get (P := P) (fun t p c f hp => hp.len) h2
    subst a2 a5
    have hnd2 : F2.Nodup := (List.nodup_append.1 (List.nodup_append.1 hnd).1).2.1
    obtain ⟨m, cs', Fi, b1, b2, b3, b4, b5⟩ := Ow.zip a6 (a3 ▸ hl.app) hnd2 h3
    refine ⟨m, cs', Fi, ?_, b2, fun k hk => by have := b3 k hk; simp [this], b4, fun {w' v' G n'} hw hn => ?_⟩
    · simpa [PV.at, PV.fld, PV.parts, List.getD_eq_getElem?_getD, a1] using b1
    · obtain ⟨N, G1, c1, c2, c3⟩ := b5 (fun k hk hn => hw k (by simp [hk]) hn) hn
      have hout : ∀ x, x ∈ F1 ++ F3 → x ∉ F2 := fun x hx h2 => by
        simp only [List.nodup_append, List.mem_append] at hnd hx
        rcases hx with h | h
        · exact hnd.1.2.2 _ h _ h2 rfl
        · exact hnd.2.2 _ (.inr h2) _ h rfl
      have hrest : ∀ t p c k, (∀ x ∈ k, x ∈ F1 ++ F3) → Ow P w n t p c k → Ow P w' (max n N) t p c k := fun t p c k hk hp =>
        (Ow.frame (fun x hx => hw x (by have := hk x hx; simp at this ⊢; rcases this with h | h <;> simp [h]) (fun hi => hout x (hk x hx) (b3 x hi))) hp).le (Nat.le_max_left _ _)
      refine ⟨max n N + 1, F1 ++ G1 ++ F3, ?_, fun x hx => ?_, fun e1 e2 => ?_⟩
      · unfold Ow
        simp only [h1]
        refine ⟨_, rfl, ?_⟩
        have := a7 hrest (c1.le (Nat.le_max_right _ _))
        simpa [PV.parts, PV.fld, List.getD_eq_getElem?_getD, a1] using this
      · simp only [List.mem_append] at hx ⊢
        rcases hx with (h | h) | h
        · exact .inl ⟨.inl (.inl h), fun hi => hout x (by simp [h]) (b3 x hi)⟩
        · rcases c2 x h with ⟨h, h'⟩ | h
          · exact .inl ⟨.inl (.inr h), h'⟩
          · exact .inr h
        · exact .inl ⟨.inr h, fun hi => hout x (by simp [h]) (b3 x hi)⟩
      · have hG := c3 e1 (fun x hx hx' => e2 x hx (by simp [hx']))
        have hx1 : ∀ x, x ∈ F1 ++ F3 → x ∉ G1 := fun x hx hg => by
          rcases c2 x hg with ⟨h, _⟩ | h
          · exact hout x hx h
          · exact hout x hx (b3 x (e2 x h (by simp at hx ⊢; rcases hx with h | h <;> simp [h])))
        simp only [List.nodup_append, List.mem_append] at hnd ⊢
        refine ⟨⟨hnd.1.1, hG, fun x hx y hy he => ?_⟩, hnd.2.1, fun x hx y hy he => ?_⟩
        · subst he; exact hx1 x (by simp [hx]) hy
        · subst he
          rcases hx with hx | hx
          · exact hnd.2.2 x (.inl hx) x hy rfl
          · exact hx1 x (by simp [hy]) hx
  | .idx j :: r, n + 1, t, pv, cs, F, a, h, hl, hnd, hp => by
    obtain ⟨e, A, len, cap, h1, h2, h3, h4⟩ := hp
    unfold Ow at h
    simp only [h1] at h
    obtain ⟨v, xs, ps, F0, rfl, rfl, h7, rfl, h9⟩ := h
    have hv : v = .slice (some A) len cap := by
      have := hl 0 v rfl
      rw [add_zero, h2] at this
      exact (Option.some.inj this).symm
    rcases h7.2 with ⟨rfl, h0⟩ | ⟨g, cap', cur, fz, hv', hfz, hh, hcap, hmax, hsz, htk⟩
    · cases hv
    · have hvv := hv.symm.trans hv'
      injection hvv with e1 e2 e3
      have hA : A = ⟨g, 0, none⟩ := Option.some.inj e1
      subst hA e2 e3
      have hob : v.ownBlock = some g := by rw [hv']; rfl
      have hcell := ownsR_cells h7 hob
      rw [hob] at hnd ⊢
      obtain ⟨q, hq⟩ : ∃ q, ps[j]? = some q := ⟨ps[j]'(by omega), by simp⟩
      obtain ⟨A1, c, B, F1, F2, F3, a2, a3, a4, a5, a6, a7⟩ := h9.get hq
      subst a5
      have hl0 : Loc w (⟨g, 0, none⟩ : Addr) (A1 ++ c ++ B) := fun q u hq => hcell q u (a2 ▸ hq)
      have hnd' : (F1 ++ F2 ++ F3).Nodup := by simpa using (List.nodup_append.1 hnd).2.1
      have hgF : g ∉ F1 ++ F2 ++ F3 := fun hx => (List.nodup_append.1 hnd).2.2 g (by simp) g hx rfl
      have hnd2 : F2.Nodup := (List.nodup_append.1 (List.nodup_append.1 hnd').1).2.1
      obtain ⟨m, cs', Fi, b1, b2, b3, b4, b5⟩ := Ow.zip a6 (a3 ▸ hl0.app) hnd2 h4
      refine ⟨m, cs', Fi, ?_, b2, fun k hk => by have := b3 k hk; simp [this], b4, fun {w' v' G n'} hw hn => ?_⟩
      · simpa [PV.at, PV.elem, PV.items, List.getD_eq_getElem?_getD, hq] using b1
      · obtain ⟨N, G1, c1, c2, c3⟩ := b5 (fun k hk hn => hw k (by simp [hk]) hn) hn
        have hout : ∀ x, x ∈ F1 ++ F3 → x ∉ F2 := fun x hx h2 => by
          simp only [List.nodup_append, List.mem_append] at hnd' hx
          rcases hx with h | h
          · exact hnd'.1.2.2 _ h _ h2 rfl
          · exact hnd'.2.2 _ (.inr h2) _ h rfl
        have hrest : ∀ p c k, (∀ x ∈ k, x ∈ F1 ++ F3) → Ow P w n e p c k → Ow P w' (max n N) e p c k := fun p c k hk hp =>
          (Ow.frame (fun x hx => hw x (by have := hk x hx; simp at this ⊢; rcases this with h | h <;> simp [h]) (fun hi => hout x (hk x hx) (b3 x hi))) hp).le (Nat.le_max_left _ _)
        have hgi : g ∉ Fi := fun hi => hgF (by have := b3 g hi; simp [this])
        have hxl : xs.length = ps.length * sizeOf P e := h7.1
        have hrow : ownsR w' e (sizeOf P e) v ps.length xs := ⟨hxl, .inr ⟨g, cap, cur, fz, hv', hfz, (hw g (by simp) hgi).trans hh, hcap, hmax, hsz, htk⟩⟩
        have hx1 : ∀ x, x ∈ F1 ++ F3 → (∀ x ∈ G, x ∈ (some g).toList ++ (F1 ++ F2 ++ F3) → x ∈ Fi) → x ∉ G1 := fun x hx e2 hg => by
          rcases c2 x hg with ⟨h, _⟩ | h
          · exact hout x hx h
          · exact hout x hx (b3 x (e2 x h (by simp at hx ⊢; rcases hx with h | h <;> simp [h])))
        refine ⟨max n N + 1, [g] ++ (F1 ++ G1 ++ F3), ?_, fun x hx => ?_, fun e1 e2 => ?_⟩
        · unfold Ow
          simp only [h1]
          refine ⟨v, xs, ps.set j (q.setAt r v'), F1 ++ G1 ++ F3, rfl, ?_, by simpa using hrow, by rw [hob]; rfl, ?_⟩
          · simp [PV.setAt, PV.items, PV.elem, List.getD_eq_getElem?_getD, hq]
          · rw [a2]; exact a7 a4 hrest (c1.le (Nat.le_max_right _ _))
        · simp only [List.mem_append, List.mem_singleton, Option.toList] at hx ⊢
          rcases hx with h | (h | h) | h
          · subst h; exact .inl ⟨.inl rfl, hgi⟩
          · exact .inl ⟨.inr (.inl (.inl h)), fun hi => hout x (by simp [h]) (b3 x hi)⟩
          · rcases c2 x h with ⟨h, h'⟩ | h
            · exact .inl ⟨.inr (.inl (.inr h)), h'⟩
            · exact .inr h
          · exact .inl ⟨.inr (.inr h), fun hi => hout x (by simp [h]) (b3 x hi)⟩
        · have hG := c3 e1 (fun x hx hx' => e2 x hx (by simp [hx']))
          have hg1 : g ∉ G1 := fun hx => by
            rcases c2 g hx with ⟨h, _⟩ | h
            · exact hgF (by simp [h])
            · exact hgi (e2 g h (by simp))
          have hx2 := fun x hx => hx1 x hx e2
          simp only [List.nodup_append, List.mem_append] at hnd' hgF ⊢
          refine ⟨by simp, ⟨⟨hnd'.1.1, hG, fun x hx y hy he => ?_⟩, hnd'.2.1, fun x hx y hy he => ?_⟩, fun x hx y hy he => ?_⟩
          · subst he; exact hx2 x (by simp [hx]) hy
          · subst he
            rcases hx with hx | hx
            · exact hnd'.2.2 x (.inl hx) x hy rfl
            · exact hx2 x (by simp [hy]) hx
          · simp at hx
            subst hx he
            rcases hy with (h | h) | h
            · exact hgF (.inl (.inl h))
            · exact hg1 h
            · exact hgF (.inr h)
theorem Ow.zipH {w : World} {t' : TypeId} {a' : Addr} {p : List Stp} {n : Nat} {t : TypeId} {pv : PV} {v : Value} {F : List Nat} (h : Ow P w n t pv [v] F) (hnd : F.Nodup) (hp : PlcH P w t v p t' a') :
    ∃ m cs' Fi, Ow P w m t' (pv.at p) cs' Fi ∧ Loc w a' cs' ∧ (∀ k ∈ Fi, k ∈ F) ∧ Fi.Nodup ∧
      ∀ {w' : World} {v' : PV} {G : List Nat} {n' : Nat}, (∀ k ∈ F, k ∉ Fi → w'.heap[k]? = w.heap[k]?) → Ow P w' n' t' v' cs' G →
        ∃ N F1, Ow P w' N t (pv.setAt p v') [v] F1 ∧ (∀ x ∈ F1, (x ∈ F ∧ x ∉ Fi) ∨ x ∈ G) ∧ (G.Nodup → (∀ x ∈ G, x ∈ F → x ∈ Fi) → F1.Nodup) := by
  cases p with
  | nil => exact hp.elim
  | cons s r =>
    cases s with
    | fld i => exact hp.elim
    | idx j =>
      cases n with
      | zero => exact h.elim
      | succ n =>
      obtain ⟨e, A, len, cap, h1, hv, h3, h4⟩ := hp
      unfold Ow at h
      simp only [h1] at h
      obtain ⟨v0, xs, ps, F0, hvv0, rfl, h7, rfl, h9⟩ := h
      simp at hvv0; subst hvv0
      rcases h7.2 with ⟨rfl, h0⟩ | ⟨g, cap', cur, fz, hv', hfz, hh, hcap, hmax, hsz, htk⟩
      · cases hv
      · have hvv := hv.symm.trans hv'
        injection hvv with e1 e2 e3
        have hA : A = ⟨g, 0, none⟩ := Option.some.inj e1
        subst hA e2 e3
        have hob : v.ownBlock = some g := by rw [hv']; rfl
        have hcell := ownsR_cells h7 hob
        rw [hob] at hnd ⊢
        obtain ⟨q, hq⟩ : ∃ q, ps[j]? = some q := ⟨ps[j]'(by omega), by simp⟩
        obtain ⟨A1, c, B, F1, F2, F3, a2, a3, a4, a5, a6, a7⟩ := h9.get hq
        subst a5
        have hl0 : Loc w (⟨g, 0, none⟩ : Addr) (A1 ++ c ++ B) := fun q u hq => hcell q u (a2 ▸ hq)
        have hnd' : (F1 ++ F2 ++ F3).Nodup := by simpa using (List.nodup_append.1 hnd).2.1
        have hgF : g ∉ F1 ++ F2 ++ F3 := fun hx => (List.nodup_append.1 hnd).2.2 g (by simp) g hx rfl
        have hnd2 : F2.Nodup := (List.nodup_append.1 (List.nodup_append.1 hnd').1).2.1
        obtain ⟨m, cs', Fi, b1, b2, b3, b4, b5⟩ := Ow.zip a6 (a3 ▸ hl0.app) hnd2 h4
        refine ⟨m, cs', Fi, ?_, b2, fun k hk => by have := b3 k hk; simp [this], b4, fun {w' v' G n'} hw hn => ?_⟩
        · simpa [PV.at, PV.elem, PV.items, List.getD_eq_getElem?_getD, hq] using b1
        · obtain ⟨N, G1, c1, c2, c3⟩ := b5 (fun k hk hn => hw k (by simp [hk]) hn) hn
          have hout : ∀ x, x ∈ F1 ++ F3 → x ∉ F2 := fun x hx h2 => by
            simp only [List.nodup_append, List.mem_append] at hnd' hx
            rcases hx with h | h
            · exact hnd'.1.2.2 _ h _ h2 rfl
            · exact hnd'.2.2 _ (.inr h2) _ h rfl
          have hrest : ∀ p c k, (∀ x ∈ k, x ∈ F1 ++ F3) → Ow P w n e p c k → Ow P w' (max n N) e p c k := fun p c k hk hp =>
            (Ow.frame (fun x hx => hw x (by have := hk x hx; simp at this ⊢; rcases this with h | h <;> simp [h]) (fun hi => hout x (hk x hx) (b3 x hi))) hp).le (Nat.le_max_left _ _)
          have hgi : g ∉ Fi := fun hi => hgF (by have := b3 g hi; simp [this])
          have hxl : xs.length = ps.length * sizeOf P e := h7.1
          have hrow : ownsR w' e (sizeOf P e) v ps.length xs := ⟨hxl, .inr ⟨g, cap, cur, fz, hv', hfz, (hw g (by simp) hgi).trans hh, hcap, hmax, hsz, htk⟩⟩
          have hx1 : ∀ x, x ∈ F1 ++ F3 → (∀ x ∈ G, x ∈ (some g).toList ++ (F1 ++ F2 ++ F3) → x ∈ Fi) → x ∉ G1 := fun x hx e2 hg => by
            rcases c2 x hg with ⟨h, _⟩ | h
            · exact hout x hx h
            · exact hout x hx (b3 x (e2 x h (by simp at hx ⊢; rcases hx with h | h <;> simp [h])))
          refine ⟨max n N + 1, [g] ++ (F1 ++ G1 ++ F3), ?_, fun x hx => ?_, fun e1 e2 => ?_⟩
          · unfold Ow
            simp only [h1]
            refine ⟨v, xs, ps.set j (q.setAt r v'), F1 ++ G1 ++ F3, rfl, ?_, by simpa using hrow, by rw [hob]; rfl, ?_⟩
            · simp [PV.setAt, PV.items, PV.elem, List.getD_eq_getElem?_getD, hq]
            · rw [a2]; exact a7 a4 hrest (c1.le (Nat.le_max_right _ _))
          · simp only [List.mem_append, List.mem_singleton, Option.toList] at hx ⊢
            rcases hx with h | (h | h) | h
            · subst h; exact .inl ⟨.inl rfl, hgi⟩
            · exact .inl ⟨.inr (.inl (.inl h)), fun hi => hout x (by simp [h]) (b3 x hi)⟩
            · rcases c2 x h with ⟨h, h'⟩ | h
              · exact .inl ⟨.inr (.inl (.inr h)), h'⟩
              · exact .inr h
            · exact .inl ⟨.inr (.inr h), fun hi => hout x (by simp [h]) (b3 x hi)⟩
          · have hG := c3 e1 (fun x hx hx' => e2 x hx (by simp [hx']))
            have hg1 : g ∉ G1 := fun hx => by
              rcases c2 g hx with ⟨h, _⟩ | h
              · exact hgF (by simp [h])
              · exact hgi (e2 g h (by simp))
            have hx2 := fun x hx => hx1 x hx e2
            simp only [List.nodup_append, List.mem_append] at hnd' hgF ⊢
            refine ⟨by simp, ⟨⟨hnd'.1.1, hG, fun x hx y hy he => ?_⟩, hnd'.2.1, fun x hx y hy he => ?_⟩, fun x hx y hy he => ?_⟩
            · subst he; exact hx2 x (by simp [hx]) hy
            · subst he
              rcases hx with hx | hx
              · exact hnd'.2.2 x (.inl hx) x hy rfl
              · exact hx2 x (by simp [hy]) hx
            · simp at hx
              subst hx he
              rcases hy with (h | h) | h
              · exact hgF (.inl (.inl h))
              · exact hg1 h
              · exact hgF (.inr h)
end
end Go.Proofs.YtfbkfhdlingedaaAm

namespace Go.Proofs.YtfbkfhdlingedaaAm
open Go RowKit
section
variable {P : Program} {w w' : World} {n : Nat} {t t' u : TypeId} {pv : PV} {v : Value} {cs : List Value} {F : List Nat} {a a' : Addr}
/-- An object that lies whole in a block of cells that nothing shares. -/
def InRow (w : World) (a : Addr) (m : Nat) : Prop := ∃ g k cur el fz, a = ⟨g, k, none⟩ ∧ FzOk cur.size fz ∧ w.heap[g]? = some (.cells cur el fz) ∧ k + m ≤ cur.size
theorem ownsRow_in {e : TypeId} {xs : List Value} (h : ownsR w e (sizeOf P e) v n xs) {A : Addr} {len cap j : Nat} (hv : v = .slice (some A) len cap) (hj : j < n) : InRow w (A.add (j * sizeOf P e)) (sizeOf P e) := by
  rcases h.2 with ⟨rfl, h0⟩ | ⟨g, cap', cur, fz, rfl, hfz, hg, hnc, hmax, hsz, _⟩
  · omega
  · injection hv with e1 e2 e3
    injection e1 with e1; subst e1
    refine ⟨g, j * sizeOf P e, cur, e, fz, by rw [add_none]; simp, hfz, hg, ?_⟩
    rw [hsz, ← Nat.succ_mul]
    exact Nat.mul_le_mul_right _ (by omega)
theorem InRow.part {m k j : Nat} (h : InRow w a m) (hj : j + k ≤ m) : InRow w (a.add j) k := by
  obtain ⟨g, o, cur, el, fz, rfl, h0, h1, h2⟩ := h
  exact ⟨g, o + j, cur, el, fz, add_none _ _ _, h0, h1, by omega⟩
theorem Plc.inRow : ∀ {p : List Stp} {n : Nat} {t : TypeId} {pv : PV} {cs : List Value} {F : List Nat} {a : Addr}, Ow P w n t pv cs F → Loc w a cs → InRow w a (sizeOf P t) → Plc P w t a p t' a' → InRow w a' (sizeOf P t')
  | [], n, t, pv, cs, F, a, h, hl, hi, hp => by obtain ⟨rfl, rfl⟩ := hp; exact hi
  | .fld i :: r, 0, t, pv, cs, F, a, h, hl, hi, hp => h.elim
  | .idx i :: r, 0, t, pv, cs, F, a, h, hl, hi, hp => h.elim
  | .fld i :: r, n + 1, t, pv, cs, F, a, h, hl, hi, hp => by
    have hlen := h.len
    obtain ⟨fs, f, h1, h2, h3⟩ := hp
    unfold Ow at h
    simp only [h1] at h
    obtain ⟨ps, rfl, h5⟩ := h
    obtain ⟨q, A, c, B, F1, F2, F3, a1, a2, a3, a4, a5, a6, _⟩ := h5.get (P := P) (fun t p c f hp => hp.len) h2
    subst a2
    exact Plc.inRow a6 (a3 ▸ hl.app) (a3 ▸ hi.part (by rw [← hlen]; simp; omega)) h3
  | .idx j :: r, n + 1, t, pv, cs, F, a, h, hl, hi, hp => by
    obtain ⟨e, A, len, cap, h1, h2, h3, h4⟩ := hp
    unfold Ow at h
    simp only [h1] at h
    obtain ⟨v, xs, ps, F', rfl, rfl, h7, rfl, h9⟩ := h
    have hv : v = .slice (some A) len cap := by
      have := hl 0 v rfl
      rw [add_zero, h2] at this
      exact (Option.some.inj this).symm
    obtain ⟨A', cap', hv', hcap⟩ := ownsRow_slice h7
    have hlen : len = ps.length := by rw [hv] at hv'; injection hv'
    obtain ⟨_, _, g, hA, hb, hcell⟩ := ownsRow_cell h7 hv (by omega)
    have hA : A = ⟨g, 0, none⟩ := Option.some.inj hA
    subst hA
    obtain ⟨q, hq⟩ : ∃ q, ps[j]? = some q := ⟨ps[j]'(by omega), by simp⟩
    obtain ⟨A1, c, B, F1, F2, F3, a2, a3, a4, a5, a6, _⟩ := h9.get hq
    have hl0 : Loc w (⟨g, 0, none⟩ : Addr) (A1 ++ c ++ B) := fun q u hq => hcell q u (a2 ▸ hq)
    exact Plc.inRow a6 (a3 ▸ hl0.app) (ownsRow_in h7 hv (by omega)) h4
theorem PlcH.inRow {p : List Stp} (h : Ow P w n t pv [v] F) (hp : PlcH P w t v p t' a') : InRow w a' (sizeOf P t') := by
  cases n with
  | zero => exact h.elim
  | succ n =>
  cases p with
  | nil => exact hp.elim
  | cons s r =>
  cases s with
  | fld i => exact hp.elim
  | idx j =>
    obtain ⟨e, A, len, cap, h1, hv, h3, h4⟩ := hp
    unfold Ow at h
    simp only [h1] at h
    obtain ⟨v0, xs, ps, F0, hv0, rfl, h7, rfl, h9⟩ := h
    simp at hv0; subst hv0
    obtain ⟨A', cap', hv', hcap⟩ := ownsRow_slice h7
    have hlen : len = ps.length := by rw [hv] at hv'; injection hv'
    obtain ⟨_, _, g, hA, hb, hcell⟩ := ownsRow_cell h7 hv (by omega)
    have hA : A = ⟨g, 0, none⟩ := Option.some.inj hA
    subst hA
    obtain ⟨q, hq⟩ : ∃ q, ps[j]? = some q := ⟨ps[j]'(by omega), by simp⟩
    obtain ⟨A1, c, B, F1, F2, F3, a2, a3, a4, a5, a6, _⟩ := h9.get hq
    have hl0 : Loc w (⟨g, 0, none⟩ : Addr) (A1 ++ c ++ B) := fun q u hq => hcell q u (a2 ▸ hq)
    exact Plc.inRow a6 (a3 ▸ hl0.app) (ownsRow_in h7 hv (by omega)) h4
end
end Go.Proofs.YtfbkfhdlingedaaAm

/-! The operation store. -/
namespace Go.Proofs.YtfbkfhdlingedaaAm
open Go RowKit
section
variable {P : Program} {C : Cx} {M : Mm} {x : SV} {v : Value} {o : Oper} {a : Act} {e : Eff} {n : Nat} {t t' u : TypeId} {pv : PV} {cs : List Value} {w w' : World} {F : List Nat} {h' : Nat → Own} {id : Nat} {l : List Nat}
variable [Glb P]
theorem goes_store_row (hm : At P C M) {y : SV} {p : List Stp} {ad : Addr} {q : PV} (ho1 : M.oh id = .row u pv) (hpl : PlcH P M.w u (M.G.hnd id) p (tyAt P u p) ad) (hal : alike P t (tyAt P u p) = true) (hy : Slot P M y v) (hh : ∀ i ∈ idsOf y, h' i = M.oh i) (hc : takeT P h' t y = some (q, l)) (hnd : (id :: l).Nodup) :
    ∃ w', (storeVar t ad v).run P M.w = .ok () w' ∧ Goes P C M ⟨.undef, l.map (fun i => (i, .dead)) ++ [(id, .row u (pv.setAt p q))], l ++ [id], (bif flat P 8 (etype P u) then [] else [id])⟩ Go.undef w' := by
  obtain ⟨n, how⟩ := hm.mem.row id u pv ho1
  obtain ⟨m0, cs', F', c1, c2, c3, c4⟩ := how.getH hpl
  have htk : tk P t ≠ .bad := by rw [alike_tk hal]; exact c1.good
  obtain ⟨⟨m, hq⟩, hl⟩ := take_one hm.mem hy hh htk hc
  obtain ⟨g, k, cur, el, fz, rfl, hfz, hg, hin⟩ := how |> fun h => PlcH.inRow h hpl
  have hvl : v.cells.size = sizeOf P t := by simpa using hq.len
  have hsz := alike_size hal htk
  obtain ⟨w', r1, r2, r3⟩ := run_store_var (P := P) (v := v) (off := k) htk hfz hg hvl (by omega) (fun x hx => hq.ones x hx)
  obtain ⟨hid, hln⟩ := List.nodup_cons.1 hnd
  have hdis : ∀ x ∈ l.flatMap M.G.ft, x ∉ M.G.ft id := fun x hx hx' => by
    obtain ⟨j, hj, hk⟩ := List.mem_flatMap.1 hx
    exact hm.mem.dj id j (fun he => hid (he ▸ hj)) x hx' hk
  have hq' : Ow P w' m (tyAt P u p) q v.cells.toList (l.flatMap M.G.ft) := (hq.frame (fun x hx => r2.rest x (fun he => hdis x hx (he ▸ c4)))).alike hal
  obtain ⟨N, F1, d1, d2, d3⟩ := Ow.putH r2 (by simp; omega) hq' how (hm.mem.nd id) hpl
  have hF1 := d3 (ft_nodup hm.mem hln) hdis
  refine ⟨w', r1, M.G.upd id F1 l, trans_upd hm hid (fun i hi => (hl i hi).2) ⟨r3.os, r3.tape, r3.output, r3.size, fun x hx hn => r3.block x hx (fun he => hn (by subst he; exact List.mem_flatMap.2 ⟨id, by simp, c4⟩))⟩ hF1 (fun x hx => .inr ?_) _ _ (.row u (pv.setAt p q) ?_ ⟨N, ?_⟩ (.inr ⟨⟨pv, ho1⟩, rfl, ?_⟩)), .undef⟩
  · rw [List.flatMap_cons]
    rcases d2 x hx with h | h
    · exact List.mem_append_left _ h
    · exact List.mem_append_right _ h
  · simp only [newOh_upd, if_true]; rfl
  · simpa [Gh.upd] using d1
  · cases hf : flat P 8 (etype P u)
    · right; simp [memB]
    · exact .inl rfl
theorem ok_store0 (hm : At P C M) {y z : Operand} (ho : o.op = .store t y z) {sy sz : SV} (hy : Slot P M sy (a.eval y)) (hz : Slot P M sz (a.eval z)) (hh : ∀ i ∈ idsOf sy ++ idsOf sz, h' i = M.oh i) (h : eStore0 P h' some t sy sz = some e) : OpOk P C M o a e := by
  unfold eStore0 at h
  split at h
  case h_2 => cases h
  rename_i id p
  have hid := hh id (by simp [idsOf])
  obtain ⟨hl, _⟩ := hy.leaf_inv (by simp) (by simp) (by simp) (by simp) (by simp)
  split at h
  · rename_i u pv ho1
    rw [hid] at ho1
    cases hal : alike P t (tyAt P u p) <;> simp only [hal, cond_true, cond_false] at h
    · cases h
    · split at h
      · rename_i q l hc
        cases hn : nodupB (id :: l) <;> simp only [hn, cond_true, cond_false] at h
        · cases h
        · injection h with h; subst h
          obtain ⟨ad, t', hv, hpl⟩ := hl.ptr_row ho1
          have := hpl.ty; subst this
          obtain ⟨w', a1, a2⟩ := goes_store_row hm ho1 hpl hal hz (fun i hi => hh i (by simp [hi])) hc (nodupB_nodup hn)
          exact opOk_skip (by simp [execOp, ho, hv, Instr.storeAt, Instr.sureAddr, a1]) a2
      · cases h
  · rename_i u sv ho1
    rw [hid] at ho1
    cases hb : (alike P t (tyAt P u p) && fits P t sz && fits P t (sv.at p) && setOk sv p sz) <;> simp only [hb, cond_true, cond_false] at h
    · cases h
    · simp only [Bool.and_eq_true] at hb
      obtain ⟨⟨⟨hal, hf⟩, hf2⟩, hso⟩ := hb
      injection h with h; subst h
      obtain ⟨g, off, t', hd, hv, hpl⟩ := hl.ptr_box ho1
      have := hpl.ty; subst this
      obtain ⟨w', a1, a2⟩ := goes_store_box hm ho1 hd hpl hal hf hf2 hso hz
      exact opOk_skip (by simp [execOp, ho, hv, Instr.storeAt, Instr.sureAddr, a1]) a2
  · cases h
end
end Go.Proofs.YtfbkfhdlingedaaAm

