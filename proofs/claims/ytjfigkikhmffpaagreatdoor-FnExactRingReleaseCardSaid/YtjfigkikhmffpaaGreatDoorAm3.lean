/- An abstract machine for the loaded code, proved sound, part 3 of 4: no conditions. -/
import Derived.Test.YtjfigkikhmffpaaGreatDoorAm2
import Derived.BigCall
import Derived.Laws.BytesString
import Derived.Lib.ConvBytes
import Derived.Laws.Small
import Derived.Orders
import Derived.LoopN
set_option linter.unusedVariables false
set_option linter.unusedSimpArgs false
set_option linter.unusedSectionVars false
/-! Calls. -/
namespace Go.Proofs.YtjfigkikhmffpaaGreatDoorAm
open Go RowKit
section
variable {P : Program} {C : Cx} {M : Mm} {x : SV} {v : Value} {n : Nat} {t t' u : TypeId} {w w' : World} {pv : PV} {cs : List Value} {F : List Nat} {ok ok' : Nat → Prop} {h' : Nat → Own} {stale : List Nat} {o : Oper} {a : Act} {e : Eff}
variable [Glb P]
/-- What a call gives back, by number: rows, boxes. -/
def GoodC (P : Program) (ok : Nat → Prop) (w : World) (c : Chg) : Prop :=
  (∃ u q, c.ob = .row u q ∧ ∃ n, Ow P w n u q [c.hd] c.ft) ∨ (∃ u p n cs, c.ob = .box u (reifyRo P 8 u p) ∧ BoxC w u c.hd c.ft cs ∧ Rd P ok w n u p cs)
structure ResL (P : Program) (ok : Nat → Prop) (w : World) (ws : List (Nat × Own)) (fr : Nat) (F : List Nat) (L : List (Nat × Chg)) : Prop where
  ws : L.map (fun x => (x.1, x.2.ob)) = ws
  sub : (L.flatMap (·.2.ft)).Sublist F
  rows : ∀ x ∈ L, GoodC P ok w x.2
  ids : L.map (·.1) = List.range' fr L.length
theorem ResL.nil (fr : Nat) : ResL P ok w [] fr F [] := ⟨rfl, by simp, by simp, rfl⟩
theorem ResL.len {ws : List (Nat × Own)} {fr : Nat} {L : List (Nat × Chg)} (h : ResL P ok w ws fr F L) : ws.length = L.length := by rw [← h.ws]; simp
theorem ResL.append {ws ws' : List (Nat × Own)} {fr : Nat} {F F' : List Nat} {L L' : List (Nat × Chg)} (h : ResL P ok w ws fr F L) (h' : ResL P ok w ws' (fr + ws.length) F' L') : ResL P ok w (ws ++ ws') fr (F ++ F') (L ++ L') where
  ws := by rw [List.map_append, h.ws, h'.ws]
  sub := by rw [List.flatMap_append]; exact h.sub.append h'.sub
  rows := fun x hx => (List.mem_append.1 hx).elim (h.rows x) (h'.rows x)
  ids := by
    rw [List.map_append, h.ids, h'.ids, h.len, List.length_append, ← List.range'_append]
    simp
theorem Adopted.res {ws : List (Nat × Own)} {fr : Nat} {L : List (Nat × Chg)} (h : Adopted P w ws fr F L) : ResL P ok w ws fr F L :=
  ⟨h.ws, h.sub, fun x hx => by obtain ⟨u, q, h1, h2, _⟩ := h.rows x hx; exact .inl ⟨u, q, h1, h2⟩, h.ids⟩
theorem res_ok : ∀ {res : List (TypeId × RMode)} {outs : List PV} {vs : List Value} {F : List Nat} (fr : Nat), ResAt P ok w res outs vs F →
    ∃ L, ResL P ok w (resultsOf P res outs fr).2 fr F L ∧ ∀ M : Mm, M.w = w → Holds M L → Slots P M (resultsOf P res outs fr).1 vs
  | [], outs, vs, F, fr, h => by
    obtain ⟨rfl, rfl⟩ := h
    exact ⟨[], .nil fr, fun _ _ _ => trivial⟩
  | (t, .val) :: res, outs, v :: vs, F, fr, ⟨⟨n, cs, h1, h2⟩, h3⟩ => by
    obtain ⟨L, a1, a2⟩ := res_ok fr h3
    refine ⟨L, a1, fun M hw hL => ⟨?_, a2 M hw hL⟩⟩
    cases hf : flat P 8 t
    · exact .junk _
    · rw [h2]
      have h4 : Rd P M.ok w n t (outs.headD default) cs := (flat_ow (w' := w) hf h1).rd (fun _ h => by cases h)
      subst hw
      exact svc_slot (reifyRo_ok h4)
  | (t, .own) :: res, outs, v :: vs, _, fr, ⟨F1, F2, rfl, ⟨n, cs, h1, h2⟩, h3⟩ => by
    obtain ⟨L1, a1, a2⟩ := adopt_ok (m := 8) fr h1
    obtain ⟨L2, b1, b2⟩ := res_ok (fr + (adopt P 8 t (outs.headD default) fr).2.length) h3
    refine ⟨L1 ++ L2, a1.res.append b1, fun M hw hL => ⟨?_, b2 M hw hL.right⟩⟩
    rw [h2]
    exact svc_slot (a2 M hw hL.left)
  | (t, .box) :: res, outs, v :: vs, _, fr, ⟨F1, F2, u, cs, n, rfl, hu, hbx, hrd, h3⟩ => by
    obtain ⟨L2, b1, b2⟩ := res_ok (fr + 1) h3
    have hone : ResL P ok w [(fr, .box u (reifyRo P 8 u (outs.headD default)))] fr F1 [(fr, ⟨.box u (reifyRo P 8 u (outs.headD default)), v, F1⟩)] :=
      ⟨rfl, by simp, fun x hx => by rw [List.mem_singleton.1 hx]; exact .inr ⟨u, _, n, cs, rfl, hbx, hrd⟩, rfl⟩
    have hr : resultsOf P ((t, .box) :: res) outs fr = (.ptr fr [] :: (resultsOf P res outs.tail (fr + 1)).1, (fr, .box u (reifyRo P 8 u (outs.headD default))) :: (resultsOf P res outs.tail (fr + 1)).2) := by
      simp only [resultsOf, hu, Option.getD_some]
    refine ⟨(fr, ⟨.box u (reifyRo P 8 u (outs.headD default)), v, F1⟩) :: L2, ?_, fun M hw hL => ?_⟩
    · rw [hr]; exact hone.append b1
    · rw [hr]
      refine ⟨?_, b2 M hw (fun x hx => hL x (List.mem_cons_of_mem _ hx))⟩
      obtain ⟨c1, c2, c3⟩ := hL _ (List.mem_cons_self)
      obtain ⟨g, arr, hv, _⟩ := hbx
      refine .leaf _ _ ?_ (by rw [hv]; rfl)
      simp only [Leaf, c1]
      exact ⟨g, 0, u, c2.trans hv, hv, rfl, rfl⟩
  | (t, .nown) :: res, outs, v :: vs, _, fr, ⟨F1, F2, rfl, ⟨n, cs, h1, h2⟩, hnil, h3⟩ => by
    cases hi : (outs.headD default).items with
    | nil =>
      obtain ⟨L, a1, a2⟩ := res_ok (res := res) fr h3
      have hr : resultsOf P ((t, .nown) :: res) outs fr = (.nil :: (resultsOf P res outs.tail fr).1, (resultsOf P res outs.tail fr).2) := by simp only [resultsOf, hi, nilC]
      refine ⟨L, ?_, fun M hw hL => ?_⟩
      · rw [hr]; exact ⟨a1.ws, a1.sub.trans (List.sublist_append_right _ _), a1.rows, a1.ids⟩
      · rw [hr]; exact ⟨.leaf _ _ (hnil hi) (by rw [hnil hi]; rfl), a2 M hw hL⟩
    | cons x xs =>
      rw [hi] at h1
      obtain ⟨L1, a1, a2⟩ := adopt_ok (m := 8) fr h1
      obtain ⟨L2, b1, b2⟩ := res_ok (fr + (adopt P 8 t (.list (x :: xs)) fr).2.length) h3
      have hr : resultsOf P ((t, .nown) :: res) outs fr = ((adopt P 8 t (.list (x :: xs)) fr).1 :: (resultsOf P res outs.tail (fr + (adopt P 8 t (.list (x :: xs)) fr).2.length)).1, (adopt P 8 t (.list (x :: xs)) fr).2 ++ (resultsOf P res outs.tail (fr + (adopt P 8 t (.list (x :: xs)) fr).2.length)).2) := by simp only [resultsOf, hi, nilC]
      refine ⟨L1 ++ L2, ?_, fun M hw hL => ?_⟩
      · rw [hr]; exact a1.res.append b1
      · rw [hr]
        refine ⟨?_, b2 M hw hL.right⟩
        rw [h2]
        exact svc_slot (a2 M hw hL.left)
  | (t, .any) :: res, outs, v :: vs, F, fr, h3 => by
    obtain ⟨L, a1, a2⟩ := res_ok (res := res) fr h3
    exact ⟨L, a1, fun M hw hL => ⟨.junk _, a2 M hw hL⟩⟩
  | (t, .err) :: res, outs, v :: vs, F, fr, ⟨h0, h3⟩ => by
    obtain ⟨L, a1, a2⟩ := res_ok (res := res) fr h3
    exact ⟨L, a1, fun M hw hL => ⟨.leaf _ _ h0 (by rcases h0 with ⟨_, rfl⟩ | ⟨_, te, pe, rfl⟩ <;> rfl), a2 M hw hL⟩⟩
  | (_, .err) :: _, _, [], _, _, h => h.elim
  | (_, .nown) :: _, _, [], _, _, h => h.elim
  | (_, .any) :: _, _, [], _, _, h => h.elim
  | (_, .val) :: _, _, [], _, _, h => h.elim
  | (_, .own) :: _, _, [], _, _, h => h.elim
  | (_, .box) :: _, _, [], _, _, h => h.elim
theorem Slots.length : ∀ {xs : List SV} {vs : List Value}, Slots P M xs vs → xs.length = vs.length
  | [], [], _ => rfl
  | x :: xs, v :: vs, ⟨_, h⟩ => by simp [Slots.length h]
  | [], _ :: _, h => h.elim
  | _ :: _, [], h => h.elim
theorem Slots.get : ∀ {xs : List SV} {vs : List Value}, Slots P M xs vs → ∀ (i : Nat) (x : SV) (v : Value), xs[i]? = some x → vs[i]? = some v → Slot P M x v
  | x :: xs, v :: vs, ⟨h1, h2⟩, 0, y, u, hy, hu => by simp at hy hu; subst hy hu; exact h1
  | x :: xs, v :: vs, ⟨h1, h2⟩, i + 1, y, u, hy, hu => Slots.get h2 i y u (by simpa using hy) (by simpa using hu)
  | [], [], _, i, y, u, hy, _ => by simp at hy
  | [], _ :: _, h, _, _, _, _, _ => h.elim
  | _ :: _, [], h, _, _, _, _, _ => h.elim
theorem slots_ret {xs : List SV} {vs : List Value} (h : Slots P M xs vs) : Slot P M (retSV xs) (retVal vs) := by
  have tup : ∀ {xs : List SV} {vs : List Value}, Slots P M xs vs → Slot P M (.tup xs) (.tuple vs.toArray) := fun h => .tup _ _ (by simpa using h.length) (fun i x v hx hv => h.get i x v hx (by simpa using hv))
  match xs, vs, h with
  | [], [], h => exact tup h
  | [x], [v], h => exact h.1
  | x :: y :: xs, v :: u :: vs, h => exact tup h
  | [], _ :: _, h => exact h.elim
  | _ :: _, [], h => exact h.elim
  | [x], v :: u :: vs, h => exact h.2.elim
  | x :: y :: xs, [v], h => exact h.2.elim
theorem Leaf.fresh (h : Leaf P M x v) : freshen stale x = .junk ∨ freshen stale x = x := by
  cases x with
  | junk => exact .inl rfl
  | undef => exact h.elim
  | agg => exact h.elim
  | arr => exact h.elim
  | tup => exact h.elim
  | nil => exact .inr rfl
  | sc => exact .inr rfl
  | ro => exact .inr rfl
  | con => exact .inr rfl
  | err => exact .inr rfl
  | rop => exact .inr rfl
  | ref id p => cases p with
    | nil => exact .inr rfl
    | cons s r => simp only [freshen]; cases memB stale id <;> simp
  | view id p lo hi => cases p with
    | nil => exact .inr rfl
    | cons s r => simp only [freshen]; cases memB stale id <;> simp
  | ptr id p => simp only [freshen]; cases memB stale id && twoIdx p <;> simp
mutual
theorem SVc.fresh : ∀ {t : TypeId} {x : SV} {cs : List Value}, SVc P M t x cs → SVc P M t (freshen stale x) cs
  | t, _, cs, .junk _ _ h1 h2 => .junk t cs h1 h2
  | t, x, _, .leaf _ _ v h1 h2 h3 h4 => by
    rcases h1.fresh (stale := stale) with h | h
    · rw [h]; exact .junk _ _ (by simp [h3]) (by simpa using h2)
    · rw [h]; exact .leaf t _ v h1 h2 h3 h4
  | t, _, cs, .agg _ u fs xs _ h1 h2 h3 => .agg t u fs _ cs h1 h2 (SVcL.fresh h3)
  | t, _, cs, .arr _ u k pv _ h1 h2 => .arr t u k pv cs h1 h2
theorem SVcL.fresh : ∀ {ts : List TypeId} {xs : List SV} {cs : List Value}, SVcL P M ts xs cs → SVcL P M ts (freshenL stale xs) cs
  | _, _, _, .nil => .nil
  | _, _, _, .cons t ts x xs c cs h1 h2 => .cons t ts _ _ c cs (SVc.fresh h1) (SVcL.fresh h2)
end
theorem Slot.fresh (h : Slot P M x v) : Slot P M (freshen stale x) v := by
  induction h with
  | junk v => exact .junk v
  | undef => exact .undef
  | leaf x v h1 h2 =>
    rcases h1.fresh (stale := stale) with h | h
    · rw [h]; exact .junk v
    · rw [h]; exact .leaf _ v h1 h2
  | agg u xs cs h1 => exact .agg u _ cs h1.fresh
  | arr u k pv cs h1 => exact .arr u k pv cs h1
  | tup xs vs h1 h2 ih =>
    refine .tup _ vs (by rw [freshenL_length]; exact h1) (fun i y v hy hv => ?_)
    obtain ⟨x, h3, h4⟩ := freshenL_get hy
    subst h4
    exact ih i x v h3 hv
mutual
theorem freshen_noids : ∀ (x : SV), idsOf x = [] → freshen stale x = x
  | .junk, _ | .undef, _ | .nil, _ | .sc _, _ | .err _, _ | .ro _ _, _ | .con _ _ _, _ | .rop _ _, _ | .arr _ _ _, _ => rfl
  | .ref _ _, h | .view _ _ _ _, h | .ptr _ _, h => by simp [idsOf] at h
  | .agg t xs, h => by rw [freshen, freshenL_noids xs (by simpa [idsOf] using h)]
  | .tup xs, h => by rw [freshen, freshenL_noids xs (by simpa [idsOf] using h)]
theorem freshenL_noids : ∀ (xs : List SV), idsOfL xs = [] → freshenL stale xs = xs
  | [], _ => rfl
  | x :: r, h => by
    simp only [idsOfL, List.append_eq_nil_iff] at h
    rw [freshenL, freshen_noids x h.1, freshenL_noids r h.2]
end
theorem idsOf_fieldsRo {f : TypeId → PV → SV} (hf : ∀ t p, idsOf (f t p) = []) : ∀ (fs : List TypeId) (pv : PV) (i : Nat), idsOfL (fieldsRo f fs pv i) = []
  | [], _, _ => rfl
  | t :: r, pv, i => by simp [fieldsRo, idsOfL, hf, idsOf_fieldsRo hf r pv (i + 1)]
theorem idsOf_reifyRo : ∀ (m : Nat) (t : TypeId) (pv : PV), idsOf (reifyRo P m t pv) = []
  | 0, _, _ => rfl
  | m + 1, t, pv => by
    unfold reifyRo
    cases tk P t <;> simp [idsOf]
    exact idsOf_fieldsRo (idsOf_reifyRo m) _ _ _
theorem idsOf_keepFs {f : TypeId → SV → PV → SV} (hf : ∀ t x p, idsOf x = [] → idsOf (f t x p) = []) : ∀ (fs : List TypeId) (xs : List SV) (pv : PV) (i : Nat), idsOfL xs = [] → idsOfL (keepFs f fs xs pv i) = []
  | [], _, _, _, _ => rfl
  | t :: r, [], pv, i, _ => by simp [keepFs, idsOfL, hf t .junk _ rfl, idsOf_keepFs hf r [] pv (i + 1) rfl]
  | t :: r, x :: xs, pv, i, h => by
    simp only [idsOfL, List.append_eq_nil_iff] at h
    simp [keepFs, idsOfL, hf t x _ h.1, idsOf_keepFs hf r xs pv (i + 1) h.2]
theorem idsOf_keepRo : ∀ (m : Nat) (t : TypeId) (x : SV) (pv : PV), idsOf x = [] → idsOf (keepRo P m t x pv) = []
  | 0, _, _, _, _ => rfl
  | m + 1, t, x, pv, h => by
    unfold keepRo
    cases tk P t with
    | slice e => exact h
    | struct fs =>
      simp only [idsOf]
      refine idsOf_keepFs (idsOf_keepRo m) _ _ _ _ ?_
      cases x <;> simp [SV.parts, idsOfL]
      simpa [idsOf] using h
    | _ => exact idsOf_reifyRo 1 t pv
theorem KeptSl.len : ∀ {n : Nat} {t : TypeId} {pv : PV} {co cn : List Value}, KeptSl P n t pv co cn → co.length = sizeOf P t → (∀ u ∈ co, one u = true) → cn.length = sizeOf P t ∧ ∀ u ∈ cn, one u = true
  | 0, _, _, _, _, h, _, _ => h.elim
  | n + 1, t, pv, co, cn, h, hl, h1 => by
    unfold KeptSl at h
    cases ht : tk P t <;> simp only [ht] at h
    case int k => obtain ⟨x, _, rfl⟩ := h; exact ⟨by rw [tk_size (by rw [ht]; simp), ht]; rfl, by simp [one, Value.oneCell']⟩
    case bool => obtain ⟨x, _, rfl⟩ := h; exact ⟨by rw [tk_size (by rw [ht]; simp), ht]; rfl, by simp [one, Value.oneCell']⟩
    case str => obtain ⟨x, _, rfl⟩ := h; exact ⟨by rw [tk_size (by rw [ht]; simp), ht]; rfl, by simp [one, Value.oneCell']⟩
    case other => obtain ⟨x, _, rfl, hx⟩ := h; exact ⟨by rw [tk_size (by rw [ht]; simp), ht]; rfl, by simpa using hx⟩
    case slice e => subst h; exact ⟨hl, h1⟩
    case struct fs =>
      obtain ⟨ps, rfl, h2⟩ := h
      have hsz : sizeOf P t = sumSz P fs := by rw [tk_size (by rw [ht]; simp), ht]; rfl
      rw [hsz] at hl ⊢
      have key : ∀ (fs : List TypeId) (ps : List PV) (co cn : List Value), KFlds P (KeptSl P n) fs ps co cn → (∀ u ∈ co, one u = true) → cn.length = sumSz P fs ∧ ∀ u ∈ cn, one u = true := by
        intro fs
        induction fs with
        | nil =>
          intro ps co cn h _
          cases ps with
          | nil => obtain ⟨_, rfl⟩ := h; exact ⟨rfl, by simp⟩
          | cons => exact h.elim
        | cons t ts ih =>
          intro ps co cn h h1
          cases ps with
          | nil => exact h.elim
          | cons p ps =>
            obtain ⟨a, a', b, b', rfl, rfl, e1, e2, e3⟩ := h
            have d1 := KeptSl.len e2 e1 (fun u hu => h1 u (by simp [hu]))
            have d2 := ih ps a' b' e3 (fun u hu => h1 u (by simp [hu]))
            refine ⟨?_, fun u hu => ?_⟩
            · simp only [List.length_append, d1.1, d2.1, sumSz, List.map_cons, List.sum_cons]
            · rcases List.mem_append.1 hu with hu | hu
              · exact d1.2 u hu
              · exact d2.2 u hu
      exact key fs ps co cn h2 h1
theorem kept_flat {m : Nat} {co cn : List Value} (h : KeptSl P (n + 1) t pv co cn) (hs : (∀ e, tk P t ≠ .slice e) ∧ ∀ fs, tk P t ≠ .struct fs) : SVc P M t (reifyRo P (m + 1) t pv) cn := by
  have : Rd P M.ok M.w 1 t pv cn := by
    unfold KeptSl at h; unfold Rd
    cases ht : tk P t <;> simp only [ht] at h ⊢
    · exact h
    · exact h
    · exact h
    · exact absurd ht (hs.1 _)
    · exact absurd ht (hs.2 _)
    · exact h
  exact reifyRo_ok this
theorem kept_arr {e : TypeId} {k0 : IntKind} (he : tk P e = .int k0) {m n : Nat} : ∀ (N : Nat) (xs : List SV) (qs : List PV) (co cn : List Value) (k : Nat) (pv : PV), KFlds P (KeptSl P n) (List.replicate N e) qs co cn → (∀ i, pv.fld (k + i) = qs.getD i default) → SVcL P M (List.replicate N e) (keepFs (keepRo P m) (List.replicate N e) xs pv k) cn
  | 0, xs, qs, co, cn, k, pv, hk, _ => by
    cases qs with
    | nil => obtain ⟨_, rfl⟩ := hk; exact .nil
    | cons => exact hk.elim
  | N + 1, xs, qs, co, cn, k, pv, hk, hq => by
    rw [List.replicate_succ] at hk ⊢
    cases qs with
    | nil => exact hk.elim
    | cons q qs =>
      obtain ⟨a, a', b, b', rfl, rfl, e2, e3, e4⟩ := hk
      have hq0 : pv.fld k = q := by simpa using hq 0
      have hsz : sizeOf P e = 1 := by rw [tk_size (by rw [he]; simp), he]; rfl
      simp only [keepFs, hq0]
      refine .cons _ _ _ _ _ _ ?_ (kept_arr he N _ qs a' b' (k + 1) pv e4 (fun i => by
        have := hq (i + 1)
        rw [show k + 1 + i = k + (i + 1) by omega, this]; simp))
      cases n with
      | zero => exact e3.elim
      | succ n =>
        cases m with
        | zero =>
          unfold KeptSl at e3
          simp only [he] at e3
          obtain ⟨x, _, rfl⟩ := e3
          exact .junk _ _ (by simp [hsz]) (by simp [one, Value.oneCell'])
        | succ m =>
          have : keepRo P (m + 1) e (xs.headD .junk) q = reifyRo P (0 + 1) e q := by unfold keepRo; simp only [he]
          rw [this]
          exact kept_flat e3 (by rw [he]; simp)
mutual
theorem kept_svc : ∀ {m n : Nat} {t : TypeId} {sv : SV} {pv p0 : PV} {co cn : List Value}, SVc P M t sv co → contT P h' t sv = some p0 → KeptSl P n t pv co cn → SVc P M t (keepRo P m t sv pv) cn
  | 0, n, t, sv, pv, p0, co, cn, h, _, hk => by
    have := hk.len h.len h.ones
    exact .junk _ _ this.1 this.2
  | m + 1, 0, t, sv, pv, p0, co, cn, h, _, hk => hk.elim
  | m + 1, n + 1, t, sv, pv, p0, co, cn, h, hc, hk => by
    unfold keepRo
    have hk0 := hk
    cases ht : tk P t with
    | slice e =>
      unfold KeptSl at hk
      simp only [ht] at hk
      subst hk; exact h
    | struct fs =>
      unfold KeptSl at hk
      simp only [ht] at hk
      obtain ⟨ps, rfl, hk⟩ := hk
      cases h with
      | junk => simp [contT] at hc
      | leaf _ _ _ _ _ _ h4 => exact absurd ht (h4 fs)
      | agg _ u fs' xs _ h1 h2 h3 =>
        rw [ht] at h1; injection h1 with h1; subst h1
        simp only [contT, ht, h2, cond_true] at hc
        cases hl : contTL P h' fs xs with
        | none => rw [hl] at hc; cases hc
        | some ps0 => exact .agg t t fs _ _ ht (alike_refl ht) (kept_svcL (k := 0) (qs := ps) h3 hl hk (fun i => by simp [PV.fld, PV.parts]))
      | arr _ u k q _ h1 h2 =>
        obtain ⟨N, e, ps', b1, b2, b3, _⟩ := h2
        have hfs : fs = List.replicate N e := by have := (alike_tk h1).symm.trans ht; rw [b2] at this; injection this with this; exact this.symm
        subst hfs
        exact .agg t t _ _ _ ht (alike_refl ht) (kept_arr b3 N _ ps _ _ 0 _ hk (fun i => by simp [PV.fld, PV.parts]))
    | int k => exact kept_flat (m := 0) hk0 (by rw [ht]; simp)
    | bool => exact kept_flat (m := 0) hk0 (by rw [ht]; simp)
    | str => exact kept_flat (m := 0) hk0 (by rw [ht]; simp)
    | other => exact kept_flat (m := 0) hk0 (by rw [ht]; simp)
    | bad => unfold KeptSl at hk; simp only [ht] at hk
theorem kept_svcL : ∀ {m n : Nat} {fs : List TypeId} {xs : List SV} {qs ps0 : List PV} {co cn : List Value} {k : Nat} {pv : PV}, SVcL P M fs xs co → contTL P h' fs xs = some ps0 → KFlds P (KeptSl P n) fs qs co cn → (∀ i, pv.fld (k + i) = qs.getD i default) → SVcL P M fs (keepFs (keepRo P m) fs xs pv k) cn
  | m, n, [], xs, qs, ps0, co, cn, k, pv, h, _, hk, _ => by
    cases qs with
    | nil => obtain ⟨_, rfl⟩ := hk; exact .nil
    | cons => exact hk.elim
  | m, n, t :: ts, xs, qs, ps0, co, cn, k, pv, h, hc, hk, hq => by
    cases h with
    | cons _ _ x xs c cs h1 h2 =>
      cases qs with
      | nil => exact hk.elim
      | cons q qs =>
        obtain ⟨a, a', b, b', e1, rfl, e2, e3, e4⟩ := hk
        have hcl := h1.len
        obtain ⟨rfl, rfl⟩ := List.append_inj e1 (by rw [hcl, e2])
        simp only [contTL] at hc
        cases hx : contT P h' t x with
        | none => rw [hx] at hc; cases hc
        | some p1 =>
          cases hl : contTL P h' ts xs with
          | none => rw [hx, hl] at hc; cases hc
          | some ps1 =>
            have hq0 : pv.fld k = q := by simpa using hq 0
            simp only [keepFs, hq0, List.headD_cons, List.tail_cons]
            exact .cons _ _ _ _ _ _ (kept_svc h1 hx e3) (kept_svcL h2 hl e4 (fun i => by
              have := hq (i + 1)
              rw [show k + 1 + i = k + (i + 1) by omega, this]; simp))
end
/-- What is lent, by number and place. -/
def LentId (P : Program) (M : Mm) (h' : Nat → Own) (x : Nat × List Stp) (r : Row) : Prop := match r.box with
  | false => ∃ u q, M.oh x.1 = .row u q ∧ ∀ {w' : World} {v' : PV} {G : List Nat} {n' : Nat}, (∀ k ∈ M.G.ft x.1, k ∉ r.ft → w'.heap[k]? = M.w.heap[k]?) → Ow P w' n' r.t v' [r.hd] G →
      ∃ N F1, Ow P w' N u (q.setAt x.2 v') [M.G.hnd x.1] F1 ∧ (∀ y ∈ F1, (y ∈ M.G.ft x.1 ∧ y ∉ r.ft) ∨ y ∈ G) ∧ (G.Nodup → (∀ y ∈ G, y ∈ M.G.ft x.1 → y ∈ r.ft) → F1.Nodup)
  | true => r.hd = M.G.hnd x.1 ∧ r.ft = M.G.ft x.1 ∧ ∃ sv p0, M.oh x.1 = .box r.t sv ∧ idsOf sv = [] ∧ contT P h' r.t sv = some p0 ∧ BoxC M.w r.t r.hd r.ft r.cs ∧ SVc P M r.t sv r.cs
def LentIds (P : Program) (M : Mm) (h' : Nat → Own) : List (Nat × List Stp) → List Row → Prop
  | [], [] => True
  | x :: l, r :: L => (∀ k ∈ r.ft, k ∈ M.G.ft x.1) ∧ r.ft.Nodup ∧ LentId P M h' x r ∧ LentIds P M h' l L
  | _, _ => False
theorem LentIds.sub : ∀ {l : List (Nat × List Stp)} {L : List Row}, LentIds P M h' l L → ∀ k ∈ L.flatMap (·.ft), ∃ x ∈ l, k ∈ M.G.ft x.1
  | [], [], _, k, hk => by simp at hk
  | x :: l, r :: L, ⟨h1, _, _, h4⟩, k, hk => by
    simp only [List.flatMap_cons, List.mem_append] at hk
    rcases hk with hk | hk
    · exact ⟨x, List.mem_cons_self, h1 k hk⟩
    · obtain ⟨y, hy, h⟩ := LentIds.sub h4 k hk
      exact ⟨y, List.mem_cons_of_mem _ hy, h⟩
  | [], _ :: _, h, _, _ => h.elim
  | _ :: _, [], h, _, _ => h.elim
theorem LentIds.nodup (hm : Mem P C M) : ∀ {l : List (Nat × List Stp)} {L : List Row}, LentIds P M h' l L → (l.map (·.1)).Nodup → (L.flatMap (·.ft)).Nodup
  | [], [], _, _ => by simp
  | x :: l, r :: L, ⟨h1, h2, _, h4⟩, hnd => by
    rw [List.map_cons, List.nodup_cons] at hnd
    rw [List.flatMap_cons, List.nodup_append]
    refine ⟨h2, LentIds.nodup hm h4 hnd.2, fun i hi j hj he => ?_⟩
    subst he
    obtain ⟨y, hy, hk⟩ := LentIds.sub h4 i hj
    exact hm.dj x.1 y.1 (fun he => hnd.1 (he ▸ List.mem_map.2 ⟨y, hy, rfl⟩)) i (h1 i hi) hk
  | [], _ :: _, h, _ => h.elim
  | _ :: _, [], h, _ => h.elim
theorem LentIds.there : ∀ {l : List (Nat × List Stp)} {L : List Row}, LentIds P M h' l L → ∀ i ∈ l.map (·.1), M.oh i ≠ .free
  | [], [], _, i, hi => by cases hi
  | x :: l, r :: L, ⟨_, _, h3, h4⟩, i, hi => by
    rcases List.mem_cons.1 hi with rfl | hi
    · unfold LentId at h3
      split at h3
      · obtain ⟨u, q, h, _⟩ := h3; rw [h]; simp
      · obtain ⟨_, _, sv, p0, h, _⟩ := h3; rw [h]; simp
    · exact LentIds.there h4 i hi
  | [], _ :: _, h, _, _ => h.elim
  | _ :: _, [], h, _, _ => h.elim
/-- A thing lent, behind the call. -/
def LentC (P : Program) (M : Mm) (w' : World) (h' : Nat → Own) (id : Nat) (c : Chg) : Prop :=
  c.hd = M.G.hnd id ∧ ((∃ u q q0, c.ob = .row u q ∧ M.oh id = .row u q0 ∧ ∃ n, Ow P w' n u q [c.hd] c.ft) ∨
    (∃ u sv sv0 cs, c.ob = .box u sv ∧ M.oh id = .box u sv0 ∧ idsOf sv = [] ∧ BoxC w' u c.hd c.ft cs ∧ SVc P M u sv cs))
theorem lent_ok (hm : Mem P C M) : ∀ {l : List (Nat × List Stp)} {L : List Row} {outs : List PV} {Gs : List (List Nat)}, LentIds P M h' l L → (l.map (·.1)).Nodup → (∀ i ∈ l.map (·.1), h' i = M.oh i) → LentAt P w L outs Gs → Gs.flatten.Nodup →
    (∀ y ∈ Gs.flatten, ∀ i ∈ l.map (·.1), y ∈ M.G.ft i → y ∈ L.flatMap (·.ft)) → (∀ i ∈ l.map (·.1), ∀ k ∈ M.G.ft i, k ∉ L.flatMap (·.ft) → w.heap[k]? = M.w.heap[k]?) →
    ∃ K : List (Nat × Chg), K.map (fun x => (x.1, x.2.ob)) = wrote P h' l outs ∧ K.map (·.1) = l.map (·.1) ∧ (K.flatMap (·.2.ft)).Nodup ∧ (∀ y ∈ K.flatMap (·.2.ft), y ∈ Gs.flatten ∨ ((∃ i ∈ l.map (·.1), y ∈ M.G.ft i) ∧ y ∉ L.flatMap (·.ft))) ∧ ∀ x ∈ K, LentC P M w h' x.1 x.2
  | [], [], outs, Gs, _, _, _, h, _, _, _ => by
    have : Gs = [] := h
    subst this
    exact ⟨[], rfl, rfl, by simp, by simp, by simp⟩
  | x :: l, r :: L, outs, _, ⟨h1, h2, h3, h5⟩, hnd, hh, ⟨G, Gs', rfl, h6, h7⟩, hGn, hsep, hkeep => by
    rw [List.map_cons, List.nodup_cons] at hnd
    rw [List.flatten_cons, List.nodup_append] at hGn
    have hother : ∀ y, y ∈ M.G.ft x.1 → y ∉ L.flatMap (·.ft) := fun y hy hL => by
      obtain ⟨z, hz, hk⟩ := LentIds.sub h5 y hL
      exact hm.dj x.1 z.1 (fun he => hnd.1 (he ▸ List.mem_map.2 ⟨z, hz, rfl⟩)) y hy hk
    have hhere : ∀ i ∈ l.map (·.1), ∀ y, y ∈ M.G.ft i → y ∉ r.ft := fun i hi y hy hr =>
      hm.dj x.1 i (fun he => hnd.1 (he ▸ hi)) y (h1 y hr) hy
    obtain ⟨K, k1, k2, k3, k5, k4⟩ := lent_ok hm h5 hnd.2 (fun i hi => hh i (List.mem_cons_of_mem _ hi)) h7 hGn.2.1
      (fun y hy i hi hk => by
        have := hsep y (by simp only [List.flatten_cons, List.mem_append]; exact .inr hy) i (List.mem_cons_of_mem _ hi) hk
        simp only [List.flatMap_cons, List.mem_append] at this
        exact this.resolve_left (hhere i hi y hk))
      (fun i hi k hk hn => hkeep i (List.mem_cons_of_mem _ hi) k hk (by
        simp only [List.flatMap_cons, List.mem_append]
        rintro (h | h)
        · exact hhere i hi k hk h
        · exact hn h))
    have hG : ∀ y ∈ G, y ∈ M.G.ft x.1 → y ∈ r.ft := fun y hy hk => by
      have := hsep y (by simp only [List.flatten_cons, List.mem_append]; exact .inl hy) x.1 (by simp) hk
      simp only [List.flatMap_cons, List.mem_append] at this
      exact this.resolve_right (hother y hk)
    have fin : ∀ (ob : Own) (F1 : List Nat), (∀ y ∈ F1, (y ∈ M.G.ft x.1 ∧ y ∉ r.ft) ∨ y ∈ G) → F1.Nodup → LentC P M w h' x.1 ⟨ob, M.G.hnd x.1, F1⟩ → (x.1, ob) :: wrote P h' l outs.tail = wrote P h' (x :: l) outs →
        ∃ K : List (Nat × Chg), K.map (fun x => (x.1, x.2.ob)) = wrote P h' (x :: l) outs ∧ K.map (·.1) = (x :: l).map (·.1) ∧ (K.flatMap (·.2.ft)).Nodup ∧ (∀ y ∈ K.flatMap (·.2.ft), y ∈ (G :: Gs').flatten ∨ ((∃ i ∈ (x :: l).map (·.1), y ∈ M.G.ft i) ∧ y ∉ (r :: L).flatMap (·.ft))) ∧ ∀ x ∈ K, LentC P M w h' x.1 x.2 := fun ob F1 f1 f2 f3 f4 => by
      refine ⟨(x.1, ⟨ob, M.G.hnd x.1, F1⟩) :: K, by rw [List.map_cons, k1]; exact f4, by simp [k2], ?_, fun y hy => ?_, fun z hz => ?_⟩
      · rw [List.flatMap_cons, List.nodup_append]
        refine ⟨f2, k3, fun a ha b hb he => ?_⟩
        subst he
        rcases f1 a ha with ⟨ha1, ha2⟩ | ha1
        · rcases k5 a hb with hb1 | ⟨⟨i, hi, hb1⟩, _⟩
          · have := hsep a (by simp only [List.flatten_cons, List.mem_append]; exact .inr hb1) x.1 (by simp) ha1
            simp only [List.flatMap_cons, List.mem_append] at this
            rcases this with h | h
            · exact ha2 h
            · exact hother a ha1 h
          · exact hm.dj x.1 i (fun he => hnd.1 (he ▸ hi)) a ha1 hb1
        · rcases k5 a hb with hb1 | ⟨⟨i, hi, hb1⟩, hb2⟩
          · exact hGn.2.2 a ha1 a hb1 rfl
          · have := hsep a (by simp only [List.flatten_cons, List.mem_append]; exact .inl ha1) i (List.mem_cons_of_mem _ hi) hb1
            simp only [List.flatMap_cons, List.mem_append] at this
            rcases this with h | h
            · exact hhere i hi a hb1 h
            · exact hb2 h
      · simp only [List.flatMap_cons, List.mem_append] at hy ⊢
        simp only [List.flatten_cons, List.mem_append, List.map_cons, List.mem_cons]
        rcases hy with hy | hy
        · rcases f1 y hy with ⟨h, h'⟩ | h
          · exact .inr ⟨⟨x.1, .inl rfl, h⟩, fun hc => hc.elim h' (hother y h)⟩
          · exact .inl (.inl h)
        · rcases k5 y hy with h | ⟨⟨i, hi, h⟩, h'⟩
          · exact .inl (.inr h)
          · exact .inr ⟨⟨i, .inr hi, h⟩, fun hc => hc.elim (hhere i hi y h) h'⟩
      · rcases List.mem_cons.1 hz with rfl | hz
        · exact f3
        · exact k4 z hz
    cases hb : r.box with
    | false =>
      simp only [LentId, hb] at h3
      simp only [LentAt1, hb] at h6
      obtain ⟨u, q, h3, hz⟩ := h3
      obtain ⟨n, h6⟩ := h6
      have hid : h' x.1 = .row u q := (hh x.1 (by simp)).trans h3
      obtain ⟨N, F1, z1, z2, z3⟩ := hz (fun k hk hn => hkeep x.1 (by simp) k hk (by
        simp only [List.flatMap_cons, List.mem_append]
        rintro (h | h)
        · exact hn h
        · exact hother k hk h)) h6
      refine fin (.row u (q.setAt x.2 (outs.headD default))) F1 z2 (z3 hGn.1 hG) ⟨rfl, .inl ⟨u, _, q, rfl, h3, N, z1⟩⟩ ?_
      obtain ⟨id, p⟩ := x
      simp only [wrote, hid]
    | true =>
      simp only [LentId, hb] at h3
      simp only [LentAt1, hb] at h6
      obtain ⟨hd1, hft1, sv, p0, h3, hno, hc, hbx, hsv⟩ := h3
      obtain ⟨cs, n, h6, hk⟩ := h6
      have hid : h' x.1 = .box r.t sv := (hh x.1 (by simp)).trans h3
      refine fin (.box r.t (keepRo P 8 r.t sv (outs.headD default))) G (fun y hy => .inr hy) hGn.1 ⟨rfl, .inr ⟨r.t, _, sv, cs, rfl, h3, idsOf_keepRo 8 _ _ _ hno, hd1 ▸ h6, kept_svc hsv hc hk⟩⟩ ?_
      obtain ⟨id, p⟩ := x
      simp only [wrote, hid]
  | [], _ :: _, _, _, h, _, _, _, _, _, _ => h.elim
  | _ :: _, [], _, _, h, _, _, _, _, _, _ => h.elim
theorem ArgsAt.mono (hok : ∀ k, ok k → ok' k) : ∀ {ms : List (TypeId × Mode)} {vs : List Value} {ps : List PV} {F : List Nat} {L : List Row}, ArgsAt P ok w ms vs ps F L → ArgsAt P ok' w ms vs ps F L
  | [], [], [], _, _, h => h
  | (t, .ro) :: ms, v :: vs, p :: ps, F, L, ⟨⟨n, cs, h1, h2⟩, h3⟩ => ⟨⟨n, cs, h1.mono hok, h2⟩, ArgsAt.mono hok h3⟩
  | (t, .own) :: ms, v :: vs, p :: ps, F, L, ⟨F1, F2, h1, h2, h3⟩ => ⟨F1, F2, h1, h2, ArgsAt.mono hok h3⟩
  | (t, .mut) :: ms, v :: vs, p :: ps, F, L, ⟨r, L', h1, h2, h3, h4, h5, h6⟩ => ⟨r, L', h1, h2, h3, h4, h5, ArgsAt.mono hok h6⟩
  | (t, .box) :: ms, v :: vs, p :: ps, F, L, ⟨r, L', h1, h2, h3, h4, ⟨n, h5⟩, h6⟩ => ⟨r, L', h1, h2, h3, h4, ⟨n, h5.mono hok⟩, ArgsAt.mono hok h6⟩
  | (t, .mut2) :: ms, v :: vs, p :: ps, F, L, ⟨r1, r2, L', t1, t2, a, b, p1, p2, h1, h2, h3, h4, h5, h6, h7, h8, h9⟩ => ⟨r1, r2, L', t1, t2, a, b, p1, p2, h1, h2, h3, h4, h5, h6, h7, h8, ArgsAt.mono hok h9⟩
  | (t, .muts) :: ms, v :: vs, p :: ps, F, L, ⟨M, L', cs, fs, h1, h2, h3, h4, h5⟩ => ⟨M, L', cs, fs, h1, h2, h3, h4, ArgsAt.mono hok h5⟩
  | (_, .muts) :: _, [], _, _, _, h => h.elim
  | (_, .muts) :: _, _ :: _, [], _, _, h => h.elim
  | (_, .mut2) :: _, [], _, _, _, h => h.elim
  | (_, .mut2) :: _, _ :: _, [], _, _, h => h.elim
  | [], _ :: _, _, _, _, h => h.elim
  | [], [], _ :: _, _, _, h => h.elim
  | (_, .ro) :: _, [], _, _, _, h => h.elim
  | (_, .own) :: _, [], _, _, _, h => h.elim
  | (_, .mut) :: _, [], _, _, _, h => h.elim
  | (_, .box) :: _, [], _, _, _, h => h.elim
  | (_, .box) :: _, _ :: _, [], _, _, h => h.elim
  | (_, .ro) :: _, _ :: _, [], _, _, h => h.elim
  | (_, .own) :: _, _ :: _, [], _, _, h => h.elim
  | (_, .mut) :: _, _ :: _, [], _, _, h => h.elim
theorem mut_one (hm : Mem P C M) {id : Nat} {p : List Stp} {u : TypeId} {q : PV} {e : TypeId} (hs : Leaf P M (.ref id p) v) (ho : M.oh id = .row u q) (ht : tk P t = .slice e) (hal : alike P t (tyAt P u p) = true) :
    ∃ r : Row, (r.box = false ∧ r.t = t) ∧ r.hd = v ∧ (∃ n, Ow P M.w n t (q.at p) [v] r.ft) ∧ (∀ k ∈ r.ft, k ∈ M.G.ft id) ∧ r.ft.Nodup ∧ LentId P M h' (id, p) r := by
  have hlf := hs
  simp only [Leaf, ho] at hlf
  obtain ⟨n, hn⟩ := hm.row id _ _ ho
  rcases hlf with ⟨rfl, hv⟩ | ⟨ad, t', e', hp, ht', hcell⟩
  · refine ⟨⟨false, t, v, M.G.ft id, []⟩, ⟨rfl, rfl⟩, rfl, ⟨n, ?_⟩, fun k hk => hk, hm.nd id, ⟨u, q, ho, fun {w' v' G n'} _ h6 => ?_⟩⟩
    · rw [hv]; exact hn.alike (alike_symm hal)
    · refine ⟨n', G, ?_, fun y hy => .inr hy, fun h _ => h⟩
      rw [← hv]; exact h6.alike hal
  · obtain ⟨m1, cs', Fi, z1, z2, z3, z4, z5⟩ := hn.zipH (hm.nd id) hp
    have htt := hp.ty
    subst htt
    have hcs : cs' = [v] := by
      have hlen := z1.len
      rw [tk_size (by rw [ht']; simp), ht'] at hlen
      simp only [TK.sz] at hlen
      obtain ⟨v0, rfl⟩ : ∃ v0, cs' = [v0] := by
        match cs', hlen with
        | [x], _ => exact ⟨x, rfl⟩
      have := z2 0 v0 rfl
      rw [add_zero, hcell] at this
      injection this with this
      rw [this]
    subst hcs
    exact ⟨⟨false, t, v, Fi, []⟩, ⟨rfl, rfl⟩, rfl, ⟨m1, z1.alike (alike_symm hal)⟩, z3, z4, ⟨u, q, ho, fun {w' v' G n'} hw h6 => z5 hw (h6.alike hal)⟩⟩
theorem LentIds.append : ∀ {l l' : List (Nat × List Stp)} {L L' : List Row}, LentIds P M h' l L → LentIds P M h' l' L' → LentIds P M h' (l ++ l') (L ++ L')
  | [], l', [], L', _, h => h
  | x :: l, l', r :: L, L', ⟨h1, h2, h3, h4⟩, h => ⟨h1, h2, h3, LentIds.append h4 h⟩
  | [], _, _ :: _, _, h, _ => h.elim
  | _ :: _, _, [], _, h, _ => h.elim
mutual
theorem lend_ok (hm : Mem P C M) : ∀ (n : Nat) {t : TypeId} {x : SV} {p : PV} {m1 : List (Nat × List Stp)} {cs : List Value}, SVc P M t x cs → lendT P h' n t x = some (p, m1) → (∀ i ∈ idsOf x, h' i = M.oh i) →
    ∃ L1, LendAt P M.w n t p cs L1 ∧ LentIds P M h' m1 L1 ∧ ∀ i ∈ m1.map (·.1), i ∈ idsOf x
  | 0, t, x, p, m1, cs, hs, hl, _ => by simp [lendT] at hl
  | n + 1, t, x, p, m1, cs, hs, hl, hh => by
    unfold lendT at hl
    unfold LendAt
    cases ht : tk P t with
    | slice e =>
      simp only [ht] at hl ⊢
      cases x with
      | ref i q =>
        simp only at hl
        split at hl
        case h_2 => cases hl
        rename_i u v ho
        rw [hh i (by simp [idsOf])] at ho
        cases hal : alike P t (tyAt P u q) <;> simp only [hal, cond_true, cond_false] at hl
        · cases hl
        · simp at hl
          obtain ⟨rfl, rfl⟩ := hl
          cases hs with
          | leaf _ _ w1 f1 _ _ _ =>
            obtain ⟨ra, g1, g2, g3, g4, g5, g6⟩ := mut_one (h' := h') hm f1 ho ht hal
            exact ⟨[ra], ⟨w1, ra, rfl, rfl, g1, g2, g3⟩, ⟨g4, g5, g6, trivial⟩, fun j hj => by simpa [idsOf] using hj⟩
      | _ => simp at hl
    | struct fs =>
      simp only [ht] at hl ⊢
      cases x with
      | agg u xs =>
        simp only at hl
        cases hal : alike P t u <;> simp only [hal, cond_true, cond_false] at hl
        · cases hl
        · split at hl
          case h_2 => cases hl
          rename_i ps m hf
          simp at hl
          obtain ⟨rfl, rfl⟩ := hl
          cases hs with
          | agg _ _ fs' _ _ h1 h2 h3 =>
            rw [ht] at h1
            injection h1 with h1
            subst h1
            obtain ⟨L1, a1, a2, a3⟩ := lend_oks hm n h3 hf (fun i hi => hh i (by simpa [idsOf] using hi))
            exact ⟨L1, ⟨ps, rfl, a1⟩, a2, fun i hi => by simpa [idsOf] using a3 i hi⟩
          | leaf _ _ _ f1 _ _ f4 => exact absurd ht (f4 fs)
      | _ => simp at hl
    | int k =>
      simp only [ht] at hl ⊢
      cases x with
      | sc v =>
        cases v with
        | int k' a =>
          simp only at hl
          split at hl
          case isFalse => cases hl
          rename_i hk
          simp at hl
          obtain ⟨rfl, rfl⟩ := hl
          cases hs with
          | leaf _ _ w1 f1 _ _ _ =>
            have : w1 = .int k' a := f1
            subst this
            exact ⟨[], ⟨⟨a, rfl, by rw [hk]⟩, rfl⟩, trivial, by simp⟩
        | _ => simp at hl
      | _ => simp at hl
    | bool =>
      simp only [ht] at hl ⊢
      cases x with
      | sc v =>
        cases v with
        | bool a =>
          simp at hl
          obtain ⟨rfl, rfl⟩ := hl
          cases hs with
          | leaf _ _ w1 f1 _ _ _ =>
            have : w1 = .bool a := f1
            subst this
            exact ⟨[], ⟨⟨a, rfl, rfl⟩, rfl⟩, trivial, by simp⟩
        | _ => simp at hl
      | _ => simp at hl
    | str =>
      simp only [ht] at hl ⊢
      cases x with
      | sc v =>
        cases v with
        | string a =>
          simp at hl
          obtain ⟨rfl, rfl⟩ := hl
          cases hs with
          | leaf _ _ w1 f1 _ _ _ =>
            have : w1 = .string a := f1
            subst this
            exact ⟨[], ⟨⟨a, rfl, rfl⟩, rfl⟩, trivial, by simp⟩
        | _ => simp at hl
      | _ => simp at hl
    | other => simp [ht] at hl
    | bad => simp [ht] at hl
theorem lend_oks (hm : Mem P C M) : ∀ (n : Nat) {fs : List TypeId} {xs : List SV} {ps : List PV} {m1 : List (Nat × List Stp)} {cs : List Value}, SVcL P M fs xs cs → lendFs (lendT P h' n) fs xs = some (ps, m1) → (∀ i ∈ idsOfL xs, h' i = M.oh i) →
    ∃ L1, LendFs (LendAt P M.w n) fs ps cs L1 ∧ LentIds P M h' m1 L1 ∧ ∀ i ∈ m1.map (·.1), i ∈ idsOfL xs
  | n, [], xs, ps, m1, cs, hs, hl, _ => by
    cases hs
    simp [lendFs] at hl
    obtain ⟨rfl, rfl⟩ := hl
    exact ⟨[], ⟨rfl, rfl⟩, trivial, by simp⟩
  | n, t :: ts, xs, ps, m1, cs, hs, hl, hh => by
    cases hs with
    | cons _ _ x xs c cs h1 h2 =>
      simp only [lendFs] at hl
      split at hl
      case h_2 => cases hl
      rename_i p m ps' m' hx hf
      simp at hl
      obtain ⟨rfl, rfl⟩ := hl
      obtain ⟨L1, a1, a2, a3⟩ := lend_ok hm n h1 hx (fun i hi => hh i (by simp [idsOfL, hi]))
      obtain ⟨L2, b1, b2, b3⟩ := lend_oks hm n h2 hf (fun i hi => hh i (by simp [idsOfL, hi]))
      refine ⟨L1 ++ L2, ⟨c, cs, L1, L2, rfl, rfl, a1, b1⟩, LentIds.append a2 b2, fun i hi => ?_⟩
      rw [List.map_append, List.mem_append] at hi
      rcases hi with hi | hi
      · simp [idsOfL, a3 i hi]
      · simp [idsOfL, b3 i hi]
end
theorem lend_top (hm : Mem P C M) {t : TypeId} {x : SV} {v : Value} {p : PV} {m1 : List (Nat × List Stp)} (hs : Slot P M x v) (hh : ∀ i ∈ idsOf x, h' i = M.oh i) (hl : lendS P h' t x = some (p, m1)) :
    ∃ cs L1 fs, tk P t = .struct fs ∧ v = .agg cs.toArray ∧ LendAt P M.w 8 t p cs L1 ∧ LentIds P M h' m1 L1 ∧ ∀ i ∈ m1.map (·.1), i ∈ idsOf x := by
  unfold lendS at hl
  split at hl
  case h_2 => cases hl
  rename_i fs ht
  have hl0 := hl
  unfold lendT at hl0
  simp only [ht] at hl0
  cases x with
  | agg u xs =>
    simp only at hl0
    cases hal : alike P t u <;> simp only [hal, cond_true, cond_false] at hl0
    · cases hl0
    · obtain ⟨cs, hv, hcl⟩ := agg_inv hs ht hal
      obtain ⟨L1, a1, a2, a3⟩ := lend_ok hm 8 (.agg t u fs xs cs.toList ht hal hcl) hl hh
      exact ⟨cs.toList, L1, fs, ht, by rw [hv], a1, a2, a3⟩
  | _ => simp at hl0
theorem args_ok (hm : Mem P C M) : ∀ {ms : List (TypeId × Mode)} {xs : List SV} {vs : List Value} {ps : List PV} {l : List Nat} {m : List (Nat × List Stp)}, Slots P M xs vs → (∀ id ∈ idsOfL xs, h' id = M.oh id) → argsOf P h' ms xs = some (ps, l, m) →
    ∃ L, ArgsAt P (okOf M (roIds ms xs)) M.w ms vs ps (l.flatMap M.G.ft) L ∧ LentIds P M h' m L ∧ (∀ i ∈ l, ∃ u q, M.oh i = .row u q) ∧ (∀ i ∈ m.map (·.1), i ∈ idsOfL xs)
  | [], [], [], ps, l, m, _, _, hc => by
    simp [argsOf] at hc
    obtain ⟨rfl, rfl, rfl⟩ := hc
    exact ⟨[], ⟨rfl, rfl⟩, trivial, by simp, by simp⟩
  | (t, .ro) :: ms, x :: xs, v :: vs, ps, l, m, ⟨hs1, hs2⟩, hh, hc => by
    simp only [argsOf] at hc
    split at hc
    · rename_i p ps' l' m' hx hl
      simp at hc
      obtain ⟨rfl, rfl, rfl⟩ := hc
      obtain ⟨L, a1, a2, a3, a4⟩ := args_ok hm hs2 (fun id hi => hh id (by simp [idsOfL, hi])) hl
      obtain ⟨n, cs, b1, b2⟩ := cont_val hm hs1 (fun id hi => hh id (by simp [idsOfL, hi])) hx
      have up : ∀ {l1 l2 : List Nat}, (∀ i ∈ l1, i ∈ l2) → ∀ k, okOf M l1 k → okOf M l2 k := fun hs k hk => hk.imp id (fun ⟨i, hi, hk⟩ => ⟨i, hs i hi, hk⟩)
      exact ⟨L, ⟨⟨n, cs, b1.mono (up (fun i hi => by simp [roIds, hi])), b2⟩, a1.mono (up (fun i hi => by simp [roIds, hi]))⟩, a2, a3, fun i hi => by simp [idsOfL, a4 i hi]⟩
    · cases hc
  | (t, .own) :: ms, x :: xs, v :: vs, ps, l, m, ⟨hs1, hs2⟩, hh, hc => by
    simp only [argsOf] at hc
    split at hc
    · rename_i p q ps' l' m' hx hl
      simp at hc
      obtain ⟨rfl, rfl, rfl⟩ := hc
      obtain ⟨L, a1, a2, a3, a4⟩ := args_ok hm hs2 (fun id hi => hh id (by simp [idsOfL, hi])) hl
      obtain ⟨b1, b2⟩ := take_val hm hs1 (fun id hi => hh id (by simp [idsOfL, hi])) hx
      refine ⟨L, ⟨q.flatMap M.G.ft, l'.flatMap M.G.ft, by simp, b1, by simpa [roIds] using a1⟩, a2, fun i hi => ?_, fun i hi => by simp [idsOfL, a4 i hi]⟩
      rcases List.mem_append.1 hi with hi | hi
      · exact (b2 i hi).2
      · exact a3 i hi
    · cases hc
  | (t, .mut) :: ms, x :: xs, v :: vs, ps, l, m, ⟨hs1, hs2⟩, hh, hc => by
    cases x with
    | ref id p =>
      have hid := hh id (by simp [idsOfL, idsOf])
      simp only [argsOf] at hc
      split at hc
      · rename_i e u q ps' l' m' ht ho hl
        rw [hid] at ho
        cases hal : alike P t (tyAt P u p) <;> simp only [hal, cond_true, cond_false] at hc
        · cases hc
        · simp at hc
          obtain ⟨rfl, rfl, rfl⟩ := hc
          obtain ⟨L, a1, a2, a3, a4⟩ := args_ok hm hs2 (fun i hi => hh i (by simp [idsOfL, hi])) hl
          have hlf := (hs1.leaf_inv (by simp) (by simp) (by simp) (by simp) (by simp)).1
          simp only [Leaf, ho] at hlf
          obtain ⟨n, hn⟩ := hm.row id _ _ ho
          have hmem : ∀ i ∈ ((id, p) :: m').map (·.1), i ∈ idsOfL (.ref id p :: xs) := fun i hi => by
            rcases List.mem_cons.1 hi with rfl | hi
            · simp [idsOfL, idsOf]
            · simp [idsOfL, a4 i hi]
          rcases hlf with ⟨rfl, hv⟩ | ⟨ad, t', e', hp, ht', hcell⟩
          · refine ⟨⟨false, t, v, M.G.ft id, []⟩ :: L, ⟨_, _, rfl, ⟨rfl, rfl⟩, rfl, ⟨e, ht⟩, ⟨n, ?_⟩, by simpa [roIds] using a1⟩, ⟨fun k hk => hk, hm.nd id, ⟨u, q, ho, fun {w' v' G n'} _ h6 => ?_⟩, a2⟩, a3, hmem⟩
            · rw [hv]; exact hn.alike (alike_symm hal)
            · refine ⟨n', G, ?_, fun y hy => .inr hy, fun h _ => h⟩
              rw [← hv]; exact h6.alike hal
          · obtain ⟨m1, cs', Fi, z1, z2, z3, z4, z5⟩ := hn.zipH (hm.nd id) hp
            have htt := hp.ty
            subst htt
            have hcs : cs' = [v] := by
              have hlen := z1.len
              rw [tk_size (by rw [ht']; simp), ht'] at hlen
              simp only [TK.sz] at hlen
              obtain ⟨v0, rfl⟩ : ∃ v0, cs' = [v0] := by
                match cs', hlen with
                | [x], _ => exact ⟨x, rfl⟩
              have := z2 0 v0 rfl
              rw [add_zero, hcell] at this
              injection this with this
              rw [this]
            subst hcs
            refine ⟨⟨false, t, v, Fi, []⟩ :: L, ⟨_, _, rfl, ⟨rfl, rfl⟩, rfl, ⟨e, ht⟩, ⟨m1, z1.alike (alike_symm hal)⟩, by simpa [roIds] using a1⟩, ⟨z3, z4, ⟨u, q, ho, fun {w' v' G n'} hw h6 => z5 hw (h6.alike hal)⟩, a2⟩, a3, hmem⟩
      · cases hc
    | _ => simp [argsOf] at hc
  | (t, .box) :: ms, x :: xs, v :: vs, ps, l, m, ⟨hs1, hs2⟩, hh, hc => by
    cases x with
    | ptr id p => cases p with
      | cons s r => simp [argsOf] at hc
      | nil =>
        have hid := hh id (by simp [idsOfL, idsOf])
        simp only [argsOf] at hc
        split at hc
        · rename_i u u' sv ps' l' m' ht ho hl
          rw [hid] at ho
          cases hal : (Nat.beq u u' && isNil (idsOf sv) && Nat.blt (sizeOf P u) 4096) <;> simp only [hal, cond_true, cond_false] at hc
          · cases hc
          · simp only [Bool.and_eq_true, Nat.blt_eq] at hal
            obtain ⟨⟨hu, hno⟩, hsz⟩ := hal
            have hu' : u = u' := Nat.beq_eq.mp hu
            subst hu'
            have hno' : idsOf sv = [] := by cases h : idsOf sv <;> rw [h] at hno <;> first | rfl | cases hno
            split at hc
            · rename_i pv hcv
              simp at hc
              obtain ⟨rfl, rfl, rfl⟩ := hc
              obtain ⟨L, a1, a2, a3, a4⟩ := args_ok hm hs2 (fun i hi => hh i (by simp [idsOfL, hi])) hl
              have hlf := (hs1.leaf_inv (by simp) (by simp) (by simp) (by simp) (by simp)).1
              simp only [Leaf, ho] at hlf
              obtain ⟨g, o, t', e1, e2, e3⟩ := hlf
              obtain ⟨_, rfl⟩ := e3
              obtain ⟨g', bcs, b1, b2, b3, b4⟩ := hm.box id u sv ho
              rw [e1] at b1; injection b1 with b1; injection b1 with b1; injection b1 with b1
              subst b1
              have hv : v = M.G.hnd id := e2.trans e1.symm
              obtain ⟨n, hrd⟩ := cont_svc hm b4 (by rw [hno']; simp) hcv
              rw [hno'] at hrd
              have hbx : BoxC M.w u v (M.G.ft id) bcs.toList := ⟨g, bcs, e2, b2, b3, rfl⟩
              refine ⟨⟨true, u, v, M.G.ft id, bcs.toList⟩ :: L, ⟨_, _, rfl, ⟨rfl, ht, hsz⟩, rfl, hbx, ⟨n, hrd.mono (fun k hk => ?_)⟩, by simpa [roIds] using a1⟩, ⟨fun k hk => hk, hm.nd id, ⟨hv, rfl, sv, pv, ho, hno', hcv, hbx, b4⟩, a2⟩, a3, fun i hi => ?_⟩
              · exact hk.imp (fun h => h) (fun ⟨i, hi, _⟩ => by cases hi)
              · rcases List.mem_cons.1 hi with rfl | hi
                · simp [idsOfL, idsOf]
                · simp [idsOfL, a4 i hi]
            · cases hc
        · cases hc
    | _ => simp [argsOf] at hc
  | (t, .mut2) :: ms, x :: xs, v :: vs, ps, l, m, ⟨hs1, hs2⟩, hh, hc => by
    simp only [argsOf] at hc
    split at hc
    case h_2 => cases hc
    rename_i p m1 ps' l' m' hx hl
    simp at hc
    obtain ⟨rfl, rfl, rfl⟩ := hc
    obtain ⟨L, a1, a2, a3, a4⟩ := args_ok hm hs2 (fun i hi => hh i (by simp [idsOfL, hi])) hl
    unfold arg2 at hx
    split at hx
    case h_2 => cases hx
    rename_i u i q1 j q2 t1 t2 ht
    split at hx
    case h_2 => cases hx
    rename_i u1 v1 u2 v2 e1 e2 ho1 ho2 ht1 ht2
    rw [hh i (by simp [idsOfL, idsOf])] at ho1
    rw [hh j (by simp [idsOfL, idsOf])] at ho2
    cases hal : (alike P t u && (alike P t1 (tyAt P u1 q1) && alike P t2 (tyAt P u2 q2))) <;> simp only [hal, cond_true, cond_false] at hx
    · cases hx
    simp only [Bool.and_eq_true] at hal
    obtain ⟨hal, hal1, hal2⟩ := hal
    simp at hx
    obtain ⟨rfl, rfl⟩ := hx
    obtain ⟨cs, rfl, hcl⟩ := agg_inv hs1 ht hal
    generalize hcs : cs.toList = cl at hcl
    cases hcl with
    | cons _ _ _ _ c1 r1 b1 b2 =>
    cases b2 with
    | cons _ _ _ _ c2 r2 d1 d2 =>
    cases d2
    cases b1 with
    | leaf _ _ w1 f1 _ _ _ =>
    cases d1 with
    | leaf _ _ w2 f2 _ _ _ =>
    obtain ⟨ra, g1, g2, g3, g4, g5, g6⟩ := mut_one (h' := h') hm f1 ho1 ht1 hal1
    obtain ⟨rb, k1, k2, k3, k4, k5, k6⟩ := mut_one (h' := h') hm f2 ho2 ht2 hal2
    have hcs' : cs = #[w1, w2] := by apply Array.toList_inj.1; rw [hcs]; rfl
    subst hcs'
    refine ⟨ra :: rb :: L, ⟨ra, rb, L, t1, t2, w1, w2, _, _, rfl, ht, rfl, rfl, ⟨g1, k1⟩, ⟨g2, k2⟩, ⟨⟨e1, ht1⟩, e2, ht2⟩, ⟨g3, k3⟩, by simpa [roIds] using a1⟩, ⟨g4, g5, g6, k4, k5, k6, a2⟩, a3, fun y hy => ?_⟩
    simp only [List.cons_append, List.nil_append, List.map_cons, List.mem_cons] at hy
    rcases hy with rfl | rfl | hy
    · simp [idsOfL, idsOf]
    · simp [idsOfL, idsOf]
    · simp [idsOfL, a4 y hy]
  | (t, .muts) :: ms, x :: xs, v :: vs, ps, l, m, ⟨hs1, hs2⟩, hh, hc => by
    simp only [argsOf] at hc
    split at hc
    case h_2 => cases hc
    rename_i p m1 ps' l' m' hx hl
    simp at hc
    obtain ⟨rfl, rfl, rfl⟩ := hc
    obtain ⟨L, a1, a2, a3, a4⟩ := args_ok hm hs2 (fun i hi => hh i (by simp [idsOfL, hi])) hl
    obtain ⟨cs, L1, fs, ht, hv, b1, b2, b3⟩ := lend_top (h' := h') hm hs1 (fun i hi => hh i (by simp [idsOfL, hi])) hx
    refine ⟨L1 ++ L, ⟨L1, L, cs, fs, rfl, ht, b1, hv, by simpa [roIds] using a1⟩, LentIds.append b2 a2, a3, fun y hy => ?_⟩
    rw [List.map_append, List.mem_append] at hy
    rcases hy with hy | hy
    · simp [idsOfL, b3 y hy]
    · simp [idsOfL, a4 y hy]
  | (_, .muts) :: _, [], _, _, _, _, _, _, hc => by simp [argsOf] at hc
  | (_, .mut2) :: _, [], _, _, _, _, _, _, hc => by simp [argsOf] at hc
  | [], _ :: _, _, _, _, _, _, _, hc => by simp [argsOf] at hc
  | (_, .box) :: _, [], _, _, _, _, _, _, hc => by simp [argsOf] at hc
  | (_, .ro) :: _, [], _, _, _, _, _, _, hc => by simp [argsOf] at hc
  | (_, .own) :: _, [], _, _, _, _, _, _, hc => by simp [argsOf] at hc
  | (_, .mut) :: _, [], _, _, _, _, _, _, hc => by simp [argsOf] at hc
  | _, _ :: _, [], _, _, _, h, _, _ => h.elim
  | _, [], _ :: _, _, _, _, h, _, _ => h.elim
end
end Go.Proofs.YtjfigkikhmffpaaGreatDoorAm

/-! A call of a function that is known. -/
namespace Go.Proofs.YtjfigkikhmffpaaGreatDoorAm
open Go RowKit
section
variable {P : Program} {C : Cx} {M : Mm} {x : SV} {v : Value} {n : Nat} {t t' u : TypeId} {w w' : World} {pv : PV} {cs : List Value} {F : List Nat} {ok ok' : Nat → Prop} {h' : Nat → Own} {stale : List Nat} {o : Oper} {a : Act} {e : Eff} {fr : Nat}
variable [Glb P]
theorem memB_mem {l : List Nat} {i : Nat} : memB l i = true ↔ i ∈ l := by
  unfold memB
  rw [List.any_eq_true]
  exact ⟨fun ⟨x, h1, h2⟩ => by rw [Nat.beq_eq.mp h2]; exact h1, fun h => ⟨i, h, by simp⟩⟩
theorem disj_spec {l m : List Nat} (h : disj l m = true) : ∀ i ∈ l, i ∉ m := fun i hi hm => by
  have := List.all_eq_true.1 h i hi
  rw [memB_mem.2 hm] at this; cases this
theorem run_enter {c : Call} {f : FuncId} (ho : o.op = .call c) (hcal : c.callee = .value (.func f)) (hf : ∃ fn, P.funcs[f]? = some fn ∧ fn.body.isNone = false ∧ (fn.name == "runtime.NumGoroutine") = false) :
    (execOp a.eval o).run P w = .ok (.enter f (c.args.toList.map a.eval).toArray) w := by
  obtain ⟨fn, h1, h2, h3⟩ := hf
  have he : execOp a.eval o = callFunc f (#[] ++ c.args.map a.eval ++ #[]) := by
    obtain ⟨dst, op, ty, pos, after, guard⟩ := o
    obtain ⟨callee, args, ats⟩ := c
    simp only at ho hcal
    subst ho hcal
    rfl
  rw [he]
  have hargs : (#[] ++ c.args.map a.eval ++ #[]) = (c.args.toList.map a.eval).toArray := by
    apply Array.ext'; simp
  rw [hargs]
  have h3' : fn.name ≠ "runtime.NumGoroutine" := by simpa using h3
  have h2' : fn.body ≠ none := fun hb => by rw [hb] at h2; cases h2
  simp [callFunc, go_sem, h1, h2', h3']
theorem Rd.lt {n : Nat} (h : Rd P ok w n t pv cs) : Rd P (fun k => ok k ∧ k < w.heap.size) w n t pv cs :=
  h.step (fun k hk ho => ⟨⟨ho, hk⟩, rfl⟩)
theorem ArgsAt.lt : ∀ {ms : List (TypeId × Mode)} {vs : List Value} {ps : List PV} {F : List Nat} {L : List Row}, ArgsAt P ok w ms vs ps F L → ArgsAt P (fun k => ok k ∧ k < w.heap.size) w ms vs ps F L
  | [], [], [], _, _, h => h
  | (t, .ro) :: ms, v :: vs, p :: ps, F, L, ⟨⟨n, cs, h1, h2⟩, h3⟩ => ⟨⟨n, cs, Rd.lt h1, h2⟩, ArgsAt.lt h3⟩
  | (t, .own) :: ms, v :: vs, p :: ps, F, L, ⟨F1, F2, h1, h2, h3⟩ => ⟨F1, F2, h1, h2, ArgsAt.lt h3⟩
  | (t, .mut) :: ms, v :: vs, p :: ps, F, L, ⟨r, L', h1, h2, h3, h4, h5, h6⟩ => ⟨r, L', h1, h2, h3, h4, h5, ArgsAt.lt h6⟩
  | (t, .mut2) :: ms, v :: vs, p :: ps, F, L, ⟨r1, r2, L', t1, t2, a, b, p1, p2, h1, h2, h3, h4, h5, h6, h7, h8, h9⟩ => ⟨r1, r2, L', t1, t2, a, b, p1, p2, h1, h2, h3, h4, h5, h6, h7, h8, ArgsAt.lt h9⟩
  | (t, .muts) :: ms, v :: vs, p :: ps, F, L, ⟨M, L', cs, fs, h1, h2, h3, h4, h5⟩ => ⟨M, L', cs, fs, h1, h2, h3, h4, ArgsAt.lt h5⟩
  | (_, .muts) :: _, [], _, _, _, h => h.elim
  | (_, .muts) :: _, _ :: _, [], _, _, h => h.elim
  | (_, .mut2) :: _, [], _, _, _, h => h.elim
  | (_, .mut2) :: _, _ :: _, [], _, _, h => h.elim
  | (t, .box) :: ms, v :: vs, p :: ps, F, L, ⟨r, L', h1, h2, h3, h4, ⟨n, h5⟩, h6⟩ => ⟨r, L', h1, h2, h3, h4, ⟨n, Rd.lt h5⟩, ArgsAt.lt h6⟩
  | [], _ :: _, _, _, _, h => h.elim
  | [], [], _ :: _, _, _, h => h.elim
  | (_, .ro) :: _, [], _, _, _, h => h.elim
  | (_, .own) :: _, [], _, _, _, h => h.elim
  | (_, .mut) :: _, [], _, _, _, h => h.elim
  | (_, .box) :: _, [], _, _, _, h => h.elim
  | (_, .box) :: _, _ :: _, [], _, _, h => h.elim
  | (_, .ro) :: _, _ :: _, [], _, _, h => h.elim
  | (_, .own) :: _, _ :: _, [], _, _, h => h.elim
  | (_, .mut) :: _, _ :: _, [], _, _, h => h.elim
theorem isNil_nil {l : List Nat} (h : isNil l = true) : l = [] := by cases l <;> first | rfl | cases h
theorem noBox : ∀ {res : List (TypeId × RMode)} {outs : List PV} {fr : Nat}, boxRes res = false → ∀ x ∈ (resultsOf P res outs fr).2, ∀ u sv, x.2 ≠ .box u sv
  | [], _, _, _, x, hx, _, _ => by simp [resultsOf] at hx
  | (t, .val) :: res, outs, fr, h, x, hx, u, sv => noBox (res := res) (outs := outs.tail) (fr := fr) h x hx u sv
  | (t, .err) :: res, outs, fr, h, x, hx, u, sv => noBox (res := res) (outs := outs.tail) (fr := fr) h x hx u sv
  | (t, .any) :: res, outs, fr, h, x, hx, u, sv => noBox (res := res) (outs := outs.tail) (fr := fr) h x hx u sv
  | (t, .own) :: res, outs, fr, h, x, hx, u, sv => by
    simp only [resultsOf, List.mem_append] at hx
    rcases hx with hx | hx
    · exact adopt_noBox 8 t _ fr x hx u sv
    · exact noBox (res := res) h x hx u sv
  | (t, .nown) :: res, outs, fr, h, x, hx, u, sv => by
    cases hi : (outs.headD default).items with
    | nil =>
      simp only [resultsOf, hi, nilC] at hx
      exact noBox (res := res) h x hx u sv
    | cons y ys =>
      simp only [resultsOf, hi, nilC, List.mem_append] at hx
      rcases hx with hx | hx
      · exact adopt_noBox 8 t _ fr x hx u sv
      · exact noBox (res := res) h x hx u sv
  | (t, .box) :: res, _, _, h, _, _, _, _ => by cases h
where
  adopt_noBox : ∀ (m : Nat) (t : TypeId) (p : PV) (fr : Nat), ∀ x ∈ (adopt P m t p fr).2, ∀ u sv, x.2 ≠ .box u sv
    | 0, t, p, fr, x, hx, u, sv => by simp [adopt] at hx
    | m + 1, t, p, fr, x, hx, u, sv => by
      unfold adopt at hx
      cases ht : tk P t <;> simp only [ht] at hx <;> first | cases hx; done | skip
      · rcases List.mem_cons.1 hx with rfl | hx
        · simp
        · cases hx
      · exact fields_noBox m _ p 0 fr x hx u sv
  fields_noBox : ∀ (m : Nat) (fs : List TypeId) (p : PV) (i fr : Nat), ∀ x ∈ (fieldsAdopt (adopt P m) fs p i fr).2, ∀ u sv, x.2 ≠ .box u sv
    | m, [], p, i, fr, x, hx, u, sv => by simp [fieldsAdopt] at hx
    | m, t :: fs, p, i, fr, x, hx, u, sv => by
      simp only [fieldsAdopt, List.mem_append] at hx
      rcases hx with hx | hx
      · exact adopt_noBox m t _ fr x hx u sv
      · exact fields_noBox m fs p (i + 1) _ x hx u sv
theorem nilCase_some {α : Type} {r : α} {res : List (TypeId × RMode)} {outs : List PV} {f : List PV → Option α} (h : nilCase res outs f = some r) : ∃ outs', f outs' = some r ∧ (outs' = outs ∨ ∃ t, res = [(t, .nown)] ∧ outs' = .list (outs.headD default).items :: outs.tail) := by
  unfold nilCase at h
  split at h
  · rename_i t
    cases hi : (outs.headD default).items with
    | nil => rw [hi] at h; exact ⟨_, h, .inr ⟨t, rfl, rfl⟩⟩
    | cons x xs => rw [hi] at h; exact ⟨_, h, .inr ⟨t, rfl, rfl⟩⟩
  · exact ⟨_, h, .inl rfl⟩
theorem nil_res {res : List (TypeId × RMode)} {outs outs' : List PV} {vs : List Value} {G : List Nat} {ok : Nat → Prop} {w : World} (hs : outs' = outs ∨ ∃ t, res = [(t, .nown)] ∧ outs' = .list (outs.headD default).items :: outs.tail) (h : ResAt P ok w res outs vs G) : ResAt P ok w res outs' vs G := by
  rcases hs with rfl | ⟨t, rfl, rfl⟩
  · exact h
  · cases vs with
    | nil => exact h.elim
    | cons v vs => exact h
theorem nil_drop {res : List (TypeId × RMode)} {outs outs' : List PV} (hs : outs' = outs ∨ ∃ t, res = [(t, .nown)] ∧ outs' = .list (outs.headD default).items :: outs.tail) : dropRes res outs = dropRes res outs' := by
  rcases hs with rfl | ⟨t, rfl, rfl⟩
  · rfl
  · rfl
theorem ok_call (hm : At P C M) {c : Call} {f : FuncId} {s : ASpec} (ho : o.op = .call c) (hcal : c.callee = .value (.func f)) (hf : FnOk P f s) {xs : List SV} (hy : Slots P M xs (c.args.toList.map a.eval)) (hh : ∀ id ∈ idsOfL xs, h' id = M.oh id)
    (hfree : ∀ id, h' id = .free → M.oh id = .free) (h : eCall P h' some fr s xs = some e) : OpOk P C M o a e := by
  unfold eCall at h
  split at h
  case h_2 => cases h
  rename_i ps l mp ha
  obtain ⟨m, hmm⟩ : ∃ m, mp.map (·.1) = m := ⟨_, rfl⟩
  simp only [hmm] at h
  cases hb : (nodupB (l ++ m) && disj (roIds s.params xs) (l ++ m) && (!boxRes s.res || isNil (roIds s.params xs))) <;> simp only [hb, cond_true, cond_false] at h
  · cases h
  simp only [Bool.and_eq_true] at hb
  obtain ⟨hb, hbr⟩ := hb
  cases hd : s.den ps with
  | none => rw [hd] at h; simp at h
  | some outs0 =>
    rw [hd] at h
    simp only [Option.bind_some] at h
    obtain ⟨outs, h, hsame⟩ := nilCase_some h
    cases hfa : freeAll h' (resultsOf P s.res outs fr).2 <;> simp only [hfa, cond_true, cond_false] at h
    · cases h
    injection h with h
    obtain ⟨L, a1, a2, a3, a4⟩ := args_ok hm.mem hy hh ha
    rw [hmm] at a4
    have hnd := nodupB_nodup hb.1
    have hndm : m.Nodup := (List.nodup_append.1 hnd).2.1
    have hLn : (L.flatMap (·.ft)).Nodup := a2.nodup hm.mem (hmm ▸ hndm)
    have hLs : ∀ k ∈ L.flatMap (·.ft), ∃ i ∈ m, k ∈ M.G.ft i := fun k hk => by
      obtain ⟨x, hx, h1⟩ := a2.sub k hk
      exact ⟨x.1, hmm ▸ List.mem_map.2 ⟨x, hx, rfl⟩, h1⟩
    have hlm : ∀ i ∈ l, ∀ j ∈ m, i ≠ j := fun i hi j hj => (List.nodup_append.1 hnd).2.2 i hi j hj
    have hZ : ∀ k ∈ l.flatMap M.G.ft ++ L.flatMap (·.ft), ∃ i ∈ l ++ m, k ∈ M.G.ft i := fun k hk => by
      rcases List.mem_append.1 hk with hk | hk
      · obtain ⟨i, hi, h1⟩ := List.mem_flatMap.1 hk; exact ⟨i, List.mem_append_left _ hi, h1⟩
      · obtain ⟨i, hi, h1⟩ := hLs k hk; exact ⟨i, List.mem_append_right _ hi, h1⟩
    have hsepm : ∀ i ∈ m, ∀ k, k ∈ M.G.ft i → k ∈ l.flatMap M.G.ft ++ L.flatMap (·.ft) → k ∈ L.flatMap (·.ft) := fun i hi k hk hz => by
      rcases List.mem_append.1 hz with hz | hz
      · obtain ⟨j, hj, h1⟩ := List.mem_flatMap.1 hz
        exact absurd h1 (hm.mem.dj i j (hlm j hj i hi).symm k hk)
      · exact hz
    have hZn : (l.flatMap M.G.ft ++ L.flatMap (·.ft)).Nodup := by
      rw [List.nodup_append]
      refine ⟨ft_nodup hm.mem (List.nodup_append.1 hnd).1, hLn, fun a ha b hb he => ?_⟩
      subst he
      obtain ⟨i, hi, h1⟩ := List.mem_flatMap.1 ha
      obtain ⟨j, hj, h2⟩ := hLs a hb
      exact hm.mem.dj i j (hlm i hi j hj) a h1 h2
    have hmh : ∀ i ∈ m, h' i = M.oh i := fun i hi => hh i (a4 i hi)
    have hok : ∀ k ∈ l.flatMap M.G.ft ++ L.flatMap (·.ft), ¬ okOf M (roIds s.params xs) k := fun k hk hc => by
      obtain ⟨i, hi, hki⟩ := hZ k hk
      rcases hc with hc | ⟨j, hj, hkj⟩
      · exact hc.2 i hki
      · exact hm.mem.dj j i (fun he => disj_spec hb.2 j hj (he ▸ hi)) k hkj hki
    have hcalls := hf.2 M.w _ _ _ _ L outs0 (Glb.step hm.holds (Nat.le_refl _) (fun k hk ho => ⟨⟨.inl ho, hk⟩, rfl⟩)) a1.lt hZn (fun k hk hc => hok k hk hc.1) hd
    intro K Q hK
    unfold Oper.wp
    rw [run_enter ho hcal hf.1, Oper.upon_enter]
    refine Calls.mono hcalls fun e' w' ⟨v, he', vs, F, Gs, hv, hres, hlent, hFn, hFZ, hstep⟩ => ?_
    subst he'
    replace hres := nil_res hsame hres
    rw [nil_drop hsame] at hlent
    refine hK v w' ?_
    obtain ⟨R, r1, r2⟩ := res_ok fr hres
    have hsepF : ∀ y ∈ F ++ Gs.flatten, ∀ i ∈ m, y ∈ M.G.ft i → y ∈ L.flatMap (·.ft) := fun y hy i hi hk => by
      rcases hFZ y hy with h | h
      · have h9 : y < M.w.heap.size := hm.mem.lt hk
        omega
      · exact hsepm i hi y hk h
    obtain ⟨K', k1, k2, k3, k5, k4⟩ := lent_ok hm.mem a2 (hmm ▸ hndm) (fun i hi => hmh i (hmm ▸ hi)) hlent (List.nodup_append.1 hFn).2.1
      (fun y hy i hi hk => hsepF y (List.mem_append_right _ hy) i (hmm ▸ hi) hk)
      (fun i hi k hk hn => hstep.block k (hm.mem.lt hk) (fun hz => hn (hsepm i (hmm ▸ hi) k hk hz)))
    rw [hmm] at k2 k5
    have hRfree : ∀ x ∈ R, M.oh x.1 = .free := fun x hx => by
      have h1 : (x.1, x.2.ob) ∈ (resultsOf P s.res outs fr).2 := by rw [← r1.ws]; exact List.mem_map.2 ⟨x, hx, rfl⟩
      have := List.all_eq_true.1 hfa _ h1
      refine hfree x.1 ?_
      cases hx1 : h' x.1 <;> rw [hx1] at this <;> simp at this
    let Lall : List (Nat × Chg) := l.map (fun i => (i, ⟨.dead, undef, []⟩)) ++ K' ++ R
    have hws : Lall.map (fun x => (x.1, x.2.ob)) = l.map (fun i => (i, Own.dead)) ++ wrote P h' mp (dropRes s.res outs) ++ (resultsOf P s.res outs fr).2 := by
      simp only [Lall, List.map_append, k1, r1.ws, List.map_map]
      rfl
    have hkeys : Lall.map (·.1) = l ++ m ++ R.map (·.1) := by
      simp only [Lall, List.map_append, k2, List.map_map]
      have : l.map ((fun x : Nat × Chg => x.1) ∘ fun i => (i, (⟨.dead, undef, []⟩ : Chg))) = l := (List.map_congr_left (fun x _ => rfl)).trans (List.map_id l)
      exact congrArg (fun z => z ++ m ++ R.map (·.1)) this
    have hkn : (Lall.map (·.1)).Nodup := by
      rw [hkeys, List.nodup_append]
      refine ⟨hnd, ?_, fun i hi j hj he => ?_⟩
      · rw [r1.ids]; exact List.nodup_range'
      · obtain ⟨x, hx, rfl⟩ := List.mem_map.1 hj
        have hfr := hRfree x hx
        rw [← he] at hfr
        rcases List.mem_append.1 hi with hi | hi
        · obtain ⟨u, q, hr⟩ := a3 i hi; rw [hfr] at hr; cases hr
        · exact a2.there i (hmm.symm ▸ hi) hfr
    have hft : Lall.flatMap (·.2.ft) = K'.flatMap (·.2.ft) ++ R.flatMap (·.2.ft) := by
      simp only [Lall, List.flatMap_append]
      have : (l.map (fun i => (i, (⟨.dead, undef, []⟩ : Chg)))).flatMap (·.2.ft) = [] := by
        rw [List.flatMap_map]; simp
      rw [this]; rfl
    have hins : ∀ i ∈ l ++ m, ∃ x ∈ Lall, x.1 = i := fun i hi => by
      have : i ∈ Lall.map (·.1) := by rw [hkeys]; exact List.mem_append_left _ hi
      obtain ⟨x, hx, rfl⟩ := List.mem_map.1 this
      exact ⟨x, hx, rfl⟩
    have htouch : ∀ k, (k ∈ l.flatMap M.G.ft ++ L.flatMap (·.ft)) → ∃ x ∈ Lall, k ∈ M.G.ft x.1 := fun k hk => by
      obtain ⟨i, hi, hki⟩ := hZ k hk
      obtain ⟨x, hx, rfl⟩ := hins i hi
      exact ⟨x, hx, hki⟩
    have hst : ∀ i ∈ m, ∀ u q, M.oh i = .row u q → flat P 8 (etype P u) = true ∨ memB e.stale i = true := fun i hi u q hu => by
      cases hfl : flat P 8 (etype P u)
      · refine .inr (memB_mem.2 ?_)
        rw [← h]
        refine List.mem_filter.2 ⟨hi, ?_⟩
        rw [hmh i hi, hu]; simp [rowFlat, hfl]
      · exact .inl rfl
    have hchg : ∀ x ∈ Lall, ChgOk P M w' e.stale x.1 x.2 := fun x hx => by
      rcases List.mem_append.1 hx with hx | hx
      · rcases List.mem_append.1 hx with hx | hx
        · obtain ⟨i, hi, rfl⟩ := List.mem_map.1 hx
          obtain ⟨u, q, hr⟩ := a3 i hi
          exact .inl ⟨rfl, rfl, by rw [hr]; simp⟩
        · have hxm : x.1 ∈ m := by rw [← k2]; exact List.mem_map.2 ⟨x, hx, rfl⟩
          obtain ⟨b3, hb⟩ := k4 x hx
          rcases hb with ⟨u, q, q0, b1, b2, b4⟩ | ⟨u, sv, sv0, cs, b1, b2, b4, ⟨g, arr, d1, d2, d3, d4⟩, b6⟩
          · exact .inr (.inr ⟨u, q, b1, b4, .inr ⟨⟨q0, b2⟩, b3, hst x.1 hxm u q0 b2⟩⟩)
          · exact .inr (.inl ⟨u, sv, g, arr, b1, freshen_noids sv b4, d1, d2, d3, d4 ▸ b6, .inr ⟨⟨sv0, b2⟩, b3⟩⟩)
      · rcases r1.rows x hx with ⟨u, q, b1, b2⟩ | ⟨u, p, n, cs, b1, ⟨g, arr, d1, d2, d3, d4⟩, b3⟩
        · exact .inr (.inr ⟨u, q, b1, b2, .inl (hRfree x hx)⟩)
        · have hnil : roIds s.params xs = [] := by
            cases hbx : boxRes s.res
            · have h1 : (x.1, x.2.ob) ∈ (resultsOf P s.res outs fr).2 := by rw [← r1.ws]; exact List.mem_map.2 ⟨x, hx, rfl⟩
              exact absurd b1 (noBox hbx _ h1 _ _)
            · rw [hbx] at hbr; exact isNil_nil (by simpa using hbr)
          have hrd : Rd P M.ok M.w n u p cs := b3.imp (fun a v hoka hv => by
              have hz := hstep.block a.block hoka.2 (fun hz => hok a.block hz hoka.1)
              rw [← cell_same (w := M.w) (w' := w') (a := a) hz]; exact hv) (fun k hk => by
              rcases hk.1 with h9 | ⟨i, hi, _⟩
              · exact h9
              · rw [hnil] at hi; cases hi)
          exact .inr (.inl ⟨u, _, g, arr, b1, freshen_noids _ (idsOf_reifyRo 8 u p), d1, d2, d3, d4 ▸ reifyRo_ok hrd, .inl (hRfree x hx)⟩)
    have hperm : (K'.flatMap (·.2.ft) ++ R.flatMap (·.2.ft)).Nodup := by
      rw [List.nodup_append] at hFn ⊢
      refine ⟨k3, hFn.1.sublist r1.sub, fun i hi j hj he => ?_⟩
      subst he
      rcases k5 i hi with h | ⟨⟨x, hx, h⟩, hn⟩
      · exact hFn.2.2 i (r1.sub.subset hj) i h rfl
      · exact hn (hsepF i (List.mem_append_left _ (r1.sub.subset hj)) x hx h)
    have hT := trans_chg (stale := e.stale) hm hkn hchg ⟨hstep.os, hstep.tape, hstep.output, hstep.size, fun k hk hn => hstep.block k hk (fun hc => hn (htouch k hc))⟩ (by rw [hft]; exact hperm)
      (fun k hk => by
        rw [hft] at hk
        rcases List.mem_append.1 hk with hk | hk
        · rcases k5 k hk with h | ⟨⟨i, hi, h⟩, _⟩
          · exact (hFZ k (List.mem_append_right _ h)).imp id (htouch k)
          · obtain ⟨x, hx, rfl⟩ := hins i (List.mem_append_right _ hi)
            exact .inr ⟨x, hx, h⟩
        · exact (hFZ k (List.mem_append_left _ (r1.sub.subset hk))).imp id (htouch k)) e.val e.wi
    have hnew := newOh_chg hkn hchg e.val e.wi
    have hee : e = ⟨e.val, Lall.map (fun x => (x.1, x.2.ob)), e.wi, e.stale⟩ := by rw [hws, ← h]
    rw [← hee] at hT hnew
    refine ⟨M.G.chg Lall, hT, ?_⟩
    refine Slot.fresh ?_
    have hR : Holds (⟨w', newOh M.oh e, M.G.chg Lall⟩ : Mm) R := fun x hx => by
      have hl : lookC Lall x.1 = some x.2 := lookC_of hkn (List.mem_append_right _ hx)
      exact ⟨by show newOh M.oh e x.1 = _; rw [hnew, hl], (chg_some hl).1, (chg_some hl).2⟩
    have hsl := slots_ret (r2 ⟨w', newOh M.oh e, M.G.chg Lall⟩ rfl hR)
    rw [hv]
    have hval : e.val = retSV (resultsOf P s.res outs fr).1 := by rw [← h]
    rw [hval]; exact hsl
/-! ### Conversions -/
theorem bytes_seq {el : TypeId} (he : tk P el = .int .u8) : ∀ {ps : List PV} {news : List Value} {F : List Nat}, OwSeq (Ow P w n el) 1 ps news F → ∃ ns : List Int, ps = ns.map (fun x => .sc (.int .u8 x)) ∧ news = ns.map (Value.int .u8)
  | [], news, F, h => ⟨[], rfl, h.1⟩
  | p :: ps, news, F, ⟨c, cs', f, F', h1, h2, h3, h4, h5⟩ => by
    obtain ⟨ns, e1, e2⟩ := bytes_seq he h5
    cases n with
    | zero => exact h4.elim
    | succ n =>
      unfold Ow at h4
      simp only [he] at h4
      obtain ⟨⟨x, rfl, rfl⟩, _⟩ := h4
      exact ⟨x :: ns, by simp [e1], by simp [h1, e2]⟩
theorem foldl_push (f : Int → UInt8) : ∀ (ns : List Int) (r : ByteArray), ns.foldl (fun r n => r.push (f n)) r = ⟨r.data ++ (ns.map f).toArray⟩
  | [], r => by simp
  | n :: ns, r => by
    rw [List.foldl_cons, foldl_push f ns]
    simp [ByteArray.push]
theorem ok_convert (hm : At P C M) {src dst : TypeId} {y : Operand} (ho : o.op = .convert src dst y) {sy : SV} (hy : Slot P M sy (a.eval y)) (hh : ∀ id ∈ fr :: idsOf sy, h' id = M.oh id) (h : eConvert P h' some fr src dst sy = some e) : OpOk P C M o a e := by
  unfold eConvert at h
  split at h
  · rename_i k1 k2 h1 h2
    split at h
    · rename_i k n
      have hy' := hy.sc_inv.1
      have hu1 := run_underlying (tk_int h1) M.w
      have hu2 := run_underlying (tk_int h2) M.w
      injection h with h; subst h
      have hc : (Go.convert src dst (.int k n)).run P M.w = .ok (.int k2 (k2.wrap n)) M.w := by simp [Go.convert, hu1, hu2, Conv.intToInt]
      exact opOk_val (by simp [execOp, ho, hy', hc]) (hm.pure (slot_sc rfl))
    · cases h
  · rename_i h1 h2
    split at h
    · rename_i s
      have hy' := hy.sc_inv.1
      have hu1 := run_underlying (tk_str h1) M.w
      have hu2 := run_underlying (tk_str h2) M.w
      injection h with h; subst h
      have hc : (Go.convert src dst (.string s)).run P M.w = .ok (.string s) M.w := by simp [Go.convert, hu1, hu2]
      exact opOk_val (by simp [execOp, ho, hy', hc]) (hm.pure (slot_sc rfl))
    · cases h
  · rename_i el h1 h2
    split at h
    · rename_i he
      split at h
      · rename_i v hc
        injection h with h; subst h
        have hu1 := run_underlying (tk_slice h1).1 M.w
        have hu2 := run_underlying (tk_str h2) M.w
        have hu3 := run_underlying (tk_int he) M.w
        obtain ⟨A, cap, ps, n, hv, hp, hle, hr⟩ := cont_slice hm.mem hy (fun id hid => hh id (List.mem_cons_of_mem _ hid)) h1 hc
        subst hp
        have hsz : sizeOf P el = 1 := by rw [tk_size (by rw [he]; simp), he]; rfl
        have hfl : flat P 8 el = true := by unfold flat; rw [he]
        unfold Rd at hr
        simp only [h1] at hr
        obtain ⟨A', cap', ps', e1, e2, _, e4⟩ := hr
        injection e2 with e2; subst e2
        rw [hv] at e1
        simp only [List.cons.injEq, Value.slice.injEq, and_true, true_and] at e1
        obtain ⟨rfl, rfl⟩ := e1
        have hconv : ∀ s, (Conv.bytesToString (a.eval y)).run P M.w = .ok (.string s) M.w → (Go.convert src dst (a.eval y)).run P M.w = .ok (.string s) M.w := fun s hs => by
          rw [hv] at hs ⊢
          simp [Go.convert, hu1, hu2, hu3, hs]
        have hend : (Conv.bytesToString (a.eval y)).run P M.w = .ok (.string (bytesOfL (PV.list ps).items)) M.w := by
          cases A with
          | none =>
            have : ps = [] := by
              cases ps with
              | nil => rfl
              | cons p r => obtain ⟨ad, h, _⟩ := e4 (by simp); cases h
            subst this
            rw [hv]; rfl
          | some ad =>
            have hcells : ∃ news, news.length = ps.length * 1 ∧ Loc M.w ad news ∧ OwSeq (Ow P M.w n el) 1 ps news [] := by
              by_cases h0 : 0 < ps.length
              · obtain ⟨ad', e5, _, e6⟩ := e4 h0
                injection e5 with e5; subst e5
                rw [hsz] at e6
                exact rowAt_cells (fun p c hpc => flat_ow hfl hpc) e6
              · have : ps = [] := List.eq_nil_of_length_eq_zero (by omega)
                subst this
                exact ⟨[], rfl, fun q u hq => by simp at hq, rfl, rfl⟩
            obtain ⟨news, d1, d2, d3⟩ := hcells
            obtain ⟨ns, f1, f2⟩ := bytes_seq he d3
            subst f1 f2
            have hload : (loadCells ad (ns.map (fun x => (PV.sc (.int .u8 x)))).length).run P M.w = .ok (ns.map (Value.int .u8)).toArray M.w := by
              have := run_loadCells_list (P := P) M.w ad (ns.map (Value.int .u8)) d2
              simpa using this
            rw [hv, run_bytesToString M.w ad _ cap ns hload, foldl_push (fun n => UInt8.ofNat n.toNat)]
            simp [bytesOfL, PV.items, PV.toInt, ByteArray.empty, ByteArray.emptyWithCapacity, Function.comp_def]
            rfl
        exact opOk_val (by simp [execOp, ho, hconv _ hend]) (hm.pure (slot_sc rfl))
      · cases h
    · cases h
  · rename_i el h1 h2
    split at h
    · rename_i s he hfr
      rw [hh fr (by simp)] at hfr
      split at h
      · rename_i hsz
        injection h with h; subst h
        have hy' := hy.sc_inv.1
        have hs1 : sizeOf P el = 1 := by rw [tk_size (by rw [he]; simp), he]; rfl
        have hrun := Go.Lib.run_convert_string_bytes (P := P) M.w src dst el s (tk_str h1) (tk_slice h2).1 (tk_int he)
        have hold := Go.Lib.bytesWorld_at_old M.w el s
        have hnew := Go.Lib.bytesWorld_at_new M.w el s
        have hcs : (Go.Lib.bytesCells M.w el s).size = grownCap M.w s.size 0 el := by
          have := grownCap_ge M.w s.size 0 el
          simp [Go.Lib.bytesCells]; omega
        have hrow : ownsR (Go.Lib.bytesWorld M.w el s) el (sizeOf P el) (.slice (some ⟨M.w.heap.size, 0, none⟩) s.size (grownCap M.w s.size 0 el)) s.size (s.data.toList.map fun b => Value.int .u8 b.toNat) := by
          rw [hs1]
          refine ⟨by simp, .inr ⟨M.w.heap.size, _, _, _, rfl, .inr (Nat.le_refl _), hnew, grownCap_ge M.w s.size 0 el, grownCap_le_maxLen M.w s.size 0 el hsz, by rw [hcs]; simp, ?_⟩⟩
          simp only [Go.Lib.bytesCells, Nat.mul_one, Array.toList_append]
          rw [List.take_left' (by simp)]
          simp
        have hseq : ∀ l : List UInt8, OwSeq (Ow P (Go.Lib.bytesWorld M.w el s) 1 el) (sizeOf P el) (l.map fun b => PV.sc (.int .u8 b.toNat)) (l.map fun b => Value.int .u8 b.toNat) [] := fun l => by
          induction l with
          | nil => exact ⟨rfl, rfl⟩
          | cons b r ih => exact ⟨[.int .u8 b.toNat], _, [], [], rfl, hs1.symm, rfl, by unfold Ow; simp only [he]; exact ⟨⟨_, rfl, rfl⟩, by simp⟩, ih⟩
        have how : ∃ n, Ow P (Go.Lib.bytesWorld M.w el s) n dst (.list (bytesL s)) [.slice (some ⟨M.w.heap.size, 0, none⟩) s.size (grownCap M.w s.size 0 el)] [M.w.heap.size] := by
          refine ⟨2, ?_⟩
          unfold Ow
          simp only [h2]
          refine ⟨_, s.data.toList.map (fun b => Value.int .u8 b.toNat), bytesL s, [], rfl, rfl, ?_, rfl, ?_⟩
          · have : (bytesL s).length = s.size := by simp [bytesL]
            rw [this]; exact hrow
          · exact hseq s.data.toList
        have hstep : Step M.w (Go.Lib.bytesWorld M.w el s) (fun k => k ∈ ([] : List Nat).flatMap M.G.ft) := ⟨rfl, rfl, rfl, by rw [Go.Lib.bytesWorld_size]; omega, fun k hk _ => hold k hk⟩
        exact opOk_val (by simp [execOp, ho, hy', hrun]) (goes_row (l := []) hm hfr (by simp) hstep (by simp) (by simp) [fr] how rfl)
      · cases h
    · cases h
  · cases h
end
end Go.Proofs.YtjfigkikhmffpaaGreatDoorAm

/-! Any operation. -/
namespace Go.Proofs.YtjfigkikhmffpaaGreatDoorAm
open Go RowKit
section
variable {P : Program} {h : Nat → Own} {α : Type} {k : Eff → Option α} {T : FuncId → Option ASpec} {fr : Nat}
variable [Gl P]
theorem ePick_nat {a b c : SV} : ePick k a b c = (ePick some a b c).bind k := by
  unfold ePick; repeat' split
  all_goals rfl
theorem eConvert_nat {s d : TypeId} {x : SV} : eConvert P h k fr s d x = (eConvert P h some fr s d x).bind k := by
  unfold eConvert; repeat' split
  all_goals rfl
theorem eIndex_nat {t : TypeId} {x y : SV} : eIndex P k t x y = (eIndex P some t x y).bind k := by
  unfold eIndex eIndexV eIndexS; simp only [cond_eq_ite]; repeat' split
  all_goals rfl
theorem eIndexAddr_nat {t : TypeId} {x y : SV} : eIndexAddr P h k t x y = (eIndexAddr P h some t x y).bind k := by
  unfold eIndexAddr eIndexArr eIndexAddrS; simp only [cond_eq_ite]; repeat' split
  all_goals rfl
theorem eIndexAddrG_nat {t : TypeId} {g : Nat} {y : SV} : eIndexAddrG P h k t g y = (eIndexAddrG P h some t g y).bind k := by
  unfold eIndexAddrG
  split
  · exact eIndexAddr_nat
  · rfl
theorem eFieldAddr_nat {t : TypeId} {i : Nat} {x : SV} : eFieldAddr P h k t i x = (eFieldAddr P h some t i x).bind k := by
  unfold eFieldAddr; simp only [cond_eq_ite]; repeat' split
  all_goals rfl
theorem eField_nat {t : TypeId} {i : Nat} {x : SV} : eField P k t i x = (eField P some t i x).bind k := by
  unfold eField; simp only [cond_eq_ite]; repeat' split
  all_goals rfl
theorem eNilCheck_nat {x : SV} : eNilCheck h k x = (eNilCheck h some x).bind k := by
  unfold eNilCheck; repeat' split
  all_goals rfl
theorem eLoad_nat {t : TypeId} {x : SV} : eLoad P h k t x = (eLoad P h some t x).bind k := by
  unfold eLoad; simp only [cond_eq_ite]; repeat' split
  all_goals rfl
theorem eLoadG_nat {t : TypeId} {g : Nat} : eLoadG P h k t g = (eLoadG P h some t g).bind k := by
  unfold eLoadG; split
  · exact eLoad_nat
  · rfl
theorem eStore_nat {t : TypeId} {x y : SV} : eStore P h k t x y = (eStore P h some t x y).bind k := by
  unfold eStore; simp only [cond_eq_ite]; repeat' split
  all_goals rfl
theorem eAlloc_nat {t : TypeId} : eAlloc P h k fr t = (eAlloc P h some fr t).bind k := by
  unfold eAlloc; repeat' split
  all_goals rfl
theorem eBox_nat {t : TypeId} {x : SV} : eBox P h k fr t x = (eBox P h some fr t x).bind k := by
  unfold eBox; simp only [cond_eq_ite]; repeat' split
  all_goals rfl
theorem eBuild_nat {t : TypeId} {is : List Nat} {xs : List SV} : eBuild P k t is xs = (eBuild P some t is xs).bind k := by
  unfold eBuild; simp only [cond_eq_ite]; repeat' split
  all_goals rfl
theorem eBuildSlice_nat {t : TypeId} {n : Nat} {ps : List (Nat × Operand)} {xs : List SV} : eBuildSlice P h k fr t n ps xs = (eBuildSlice P h some fr t n ps xs).bind k := by
  unfold eBuildSlice; simp only [cond_eq_ite]; repeat' split
  all_goals rfl
theorem eMakeSlice_nat {t : TypeId} {x y : SV} : eMakeSlice P h k fr t x y = (eMakeSlice P h some fr t x y).bind k := by
  unfold eMakeSlice; repeat' split
  all_goals rfl
theorem eExtract_nat {i : Nat} {x : SV} : eExtract k i x = (eExtract some i x).bind k := by
  unfold eExtract; simp only [cond_eq_ite]; repeat' split
  all_goals rfl
theorem boundsK_nat {lo hi : Option Operand} {r : List SV} {n : Int} {f : Nat → Nat → Option α} {g : Nat → Nat → Option Eff} (hf : ∀ l h, f l h = (g l h).bind k) : boundsK lo hi r n f = (boundsK lo hi r n g).bind k := by
  unfold boundsK; repeat' split
  all_goals first | rfl | exact hf _ _
theorem eSlice_nat {t : TypeId} {lo hi : Option Operand} {x : SV} {r : List SV} : eSlice P h k t lo hi x r = (eSlice P h some t lo hi x r).bind k := by
  unfold eSlice; simp only [cond_eq_ite]; repeat' split
  all_goals first | rfl | exact boundsK_nat (fun _ _ => rfl)
theorem eLen_nat {t : TypeId} {x : SV} : eLen P h k t x = (eLen P h some t x).bind k := by
  unfold eLen; repeat' split
  all_goals rfl
theorem eAppend_nat {t t' : TypeId} {x y : SV} : eAppend P h k fr t t' x y = (eAppend P h some fr t t' x y).bind k := by
  unfold eAppend; simp only [cond_eq_ite]; repeat' split
  all_goals rfl
theorem eCopy_nat {t t' : TypeId} {x y : SV} : eCopy P h k t t' x y = (eCopy P h some t t' x y).bind k := by
  unfold eCopy; simp only [cond_eq_ite]; repeat' split
  all_goals rfl
theorem nilCase_nat {res : List (TypeId × RMode)} {outs : List PV} {f : List PV → Option Eff} {f' : List PV → Option α} (hf : ∀ o, f' o = (f o).bind k) : nilCase res outs f' = (nilCase res outs f).bind k := by
  unfold nilCase
  split
  · cases (outs.headD default).items with
    | nil => exact hf _
    | cons x xs => exact hf _
  · exact hf _
theorem eCall_nat {s : ASpec} {xs : List SV} : eCall P h k fr s xs = (eCall P h some fr s xs).bind k := by
  unfold eCall; simp only [cond_eq_ite]; repeat' split
  all_goals first
    | rfl
    | (rename_i ps l m _ _; cases s.den ps with
       | none => rfl
       | some outs =>
         simp only [Option.bind_some]
         exact nilCase_nat (fun outs => by split <;> rfl))
theorem intOp_nat {op : BinOp} {kd : IntKind} {i j : Int} : intOp op kd i j (fun v => k ⟨.sc v, [], [], []⟩) = (intOp op kd i j (fun v => some (⟨.sc v, [], [], []⟩ : Eff))).bind k := by
  unfold intOp; repeat' split
  all_goals rfl
theorem strOp_nat {op : BinOp} {i j : ByteArray} : strOp op i j (fun v => k ⟨.sc v, [], [], []⟩) = (strOp op i j (fun v => some (⟨.sc v, [], [], []⟩ : Eff))).bind k := by
  unfold strOp; repeat' split
  all_goals rfl
theorem binK_nat {t : TypeId} {op : BinOp} {x y : SV} : binK P t op x y (fun v => k ⟨.sc v, [], [], []⟩) = (binK P t op x y (fun v => some (⟨.sc v, [], [], []⟩ : Eff))).bind k := by
  unfold binK; repeat' split
  all_goals first | rfl | exact intOp_nat | exact strOp_nat
theorem eqSc_nat {t : TypeId} {x y : SV} {f : Bool → Option Eff} {f' : Bool → Option α} (h : ∀ b, f' b = (f b).bind k) : eqSc P t x y f' = (eqSc P t x y f).bind k := by
  unfold eqSc; repeat' split
  all_goals first | rfl | exact h _
theorem eqFl_nat : ∀ {ts : List TypeId} {xs ys : List SV} {f : Bool → Option Eff} {f' : Bool → Option α}, (∀ b, f' b = (f b).bind k) → eqFl P ts xs ys f' = (eqFl P ts xs ys f).bind k
  | [], [], [], _, _, h => h true
  | t :: ts, x :: xs, y :: ys, f, f', h => by
    rw [eqFl, eqFl]
    exact eqSc_nat (fun p => eqFl_nat (fun q => h (p && q)))
  | [], _ :: _, _, _, _, _ => by simp [eqFl]
  | [], [], _ :: _, _, _, _ => by simp [eqFl]
  | _ :: _, [], _, _, _, _ => by simp [eqFl]
  | _ :: _, _ :: _, [], _, _, _ => by simp [eqFl]
theorem eBin_nat {t : TypeId} {op : BinOp} {x y : SV} : eBin P op t x y (fun v => k ⟨.sc v, [], [], []⟩) = (eBin P op t x y (fun v => some (⟨.sc v, [], [], []⟩ : Eff))).bind k := by
  unfold eBin
  split
  · unfold eqS; simp only [cond_eq_ite]; repeat' split
    all_goals first | rfl | exact eqFl_nat (fun _ => rfl)
  · exact binK_nat
theorem nilC_nat {l : List PV} {f : PV → List PV → Option Eff} {f' : PV → List PV → Option α} (hf : ∀ x r, f' x r = (f x r).bind k) : nilC l none f' = (nilC l none f).bind k := by
  cases l with
  | nil => rfl
  | cons x r => exact hf x r
theorem eRowNil_nat {id : Nat} {b : Bool} : eRowNil h id b (fun v => k ⟨.sc v, [], [], []⟩) = (eRowNil h id b (fun v => some (⟨.sc v, [], [], []⟩ : Eff))).bind k := by
  unfold eRowNil
  split
  · exact nilC_nat fun _ _ => rfl
  · rfl
theorem eBinO_nat {t : TypeId} {op : BinOp} {z : Operand} {x y : SV} : eBinO P h op t z x y (fun v => k ⟨.sc v, [], [], []⟩) = (eBinO P h op t z x y (fun v => some (⟨.sc v, [], [], []⟩ : Eff))).bind k := by
  unfold eBinO
  split
  · repeat' split
    all_goals rfl
  · repeat' split
    all_goals rfl
  · repeat' split
    all_goals first | rfl | exact eRowNil_nat
  · exact eBin_nat
theorem unK_nat {op : UnOp} {x : SV} : unK op x (fun v => k ⟨.sc v, [], [], []⟩) = (unK op x (fun v => some (⟨.sc v, [], [], []⟩ : Eff))).bind k := by
  unfold unK; repeat' split
  all_goals rfl
/-- What follows an operation stands behind it. -/
theorem opE_nat {o : Oper} {xs : List SV} : opE P h k T fr o xs = (opE P h some T fr o xs).bind k := by
  unfold opE
  repeat' split
  all_goals first
    | rfl
    | exact ePick_nat | exact eBinO_nat | exact unK_nat | exact eConvert_nat | exact eIndex_nat | exact eIndexAddr_nat | exact eIndexAddrG_nat | exact eFieldAddr_nat | exact eField_nat | exact eNilCheck_nat | exact eLoad_nat | exact eLoadG_nat
    | exact eStore_nat | exact eAlloc_nat | exact eBox_nat | exact eBuild_nat | exact eBuildSlice_nat | exact eMakeSlice_nat | exact eExtract_nat | exact eSlice_nat | exact eLen_nat | exact eAppend_nat | exact eCopy_nat | exact eCall_nat
end
end Go.Proofs.YtjfigkikhmffpaaGreatDoorAm

/-! Any operation does what the machine says; what it writes is told. -/
namespace Go.Proofs.YtjfigkikhmffpaaGreatDoorAm
open Go RowKit
section
variable {P : Program} {h : Nat → Own} {T : FuncId → Option ASpec} {fr : Nat} {e : Eff}
variable [Gl P]
def Told (e : Eff) : Prop := ∀ x ∈ e.ws, x.1 ∈ e.wi
theorem told_nil {x : SV} {wi stale : List Nat} : Told ⟨x, [], wi, stale⟩ := by simp [Told]
theorem wrote_ids : ∀ {l : List (Nat × List Stp)} {outs : List PV}, ∀ x ∈ wrote P h l outs, x.1 ∈ l.map (·.1)
  | [], _, x, hx => by simp [wrote] at hx
  | (id, p) :: l, outs, x, hx => by
    simp only [wrote] at hx
    split at hx
    · rcases List.mem_cons.1 hx with rfl | hx
      · simp
      · exact List.mem_cons_of_mem _ (wrote_ids x hx)
    · rcases List.mem_cons.1 hx with rfl | hx
      · simp
      · exact List.mem_cons_of_mem _ (wrote_ids x hx)
    · cases hx
theorem told_boundsK {lo hi : Option Operand} {r : List SV} {n : Int} {f : Nat → Nat → Option Eff} (hf : ∀ l h e, f l h = some e → Told e) (h : boundsK lo hi r n f = some e) : Told e := by
  unfold boundsK at h
  repeat' split at h
  all_goals first | cases h; done | exact hf _ _ _ h
theorem told_call {s : ASpec} {xs : List SV} (he : eCall P h some fr s xs = some e) : Told e := by
  unfold eCall at he
  split at he
  case h_2 => cases he
  simp only [cond_eq_ite] at he
  split at he
  · cases hd : s.den _ with
    | none => rw [hd] at he; simp at he
    | some outs =>
      rw [hd] at he
      simp only [Option.bind_some] at he
      obtain ⟨outs, he, _⟩ := nilCase_some he
      split at he
      · injection he with he; subst he
        intro x hx
        simp only [List.mem_append] at hx ⊢
        rcases hx with (hx | hx) | hx
        · obtain ⟨i, hi, rfl⟩ := List.mem_map.1 hx; exact .inl (.inl hi)
        · exact .inl (.inr (wrote_ids x hx))
        · exact .inr (List.mem_map.2 ⟨x, hx, rfl⟩)
      · cases he
  · cases he
theorem told_eqFl {F : Bool → Value} : ∀ {ts : List TypeId} {xs ys : List SV} {G : Bool → Bool}, eqFl P ts xs ys (fun b => some (⟨.sc (F (G b)), [], [], []⟩ : Eff)) = some e → Told e
  | [], [], [], G, he => by injection he with he; subst he; exact told_nil
  | t :: ts, x :: xs, y :: ys, G, he => by
    rw [eqFl] at he
    unfold eqSc at he
    split at he
    · split at he
      · exact told_eqFl (G := fun q => G (_ && q)) he
      · cases he
    · exact told_eqFl (G := fun q => G (_ && q)) he
    · exact told_eqFl (G := fun q => G (_ && q)) he
    · cases he
  | [], _ :: _, _, _, he => by simp [eqFl] at he
  | [], [], _ :: _, _, he => by simp [eqFl] at he
  | _ :: _, [], _, _, he => by simp [eqFl] at he
  | _ :: _, _ :: _, [], _, he => by simp [eqFl] at he
theorem told_bin {op : BinOp} {t : TypeId} {x y : SV} (he : eBin P op t x y (fun v => some (⟨.sc v, [], [], []⟩ : Eff)) = some e) : Told e := by
  unfold eBin at he
  split at he
  · unfold eqS at he
    simp only [cond_eq_ite] at he
    split at he
    · split at he
      · split at he
        · exact told_eqFl (F := fun b => .bool b) (G := fun b => b) he
        · exact told_eqFl (F := fun b => .bool b) (G := fun b => !b) he
        · cases he
      · cases he
    · cases he
  · unfold binK at he; repeat' split at he
    all_goals first
      | (cases he; done) | (injection he with he; subst he; exact told_nil)
      | (unfold intOp at he; repeat' split at he
         all_goals first | (cases he; done) | (injection he with he; subst he; exact told_nil))
      | (unfold strOp at he; repeat' split at he
         all_goals first | (cases he; done) | (injection he with he; subst he; exact told_nil))
theorem told_rowNil {h' : Nat → Own} {id : Nat} {b : Bool} (he : eRowNil h' id b (fun v => some (⟨.sc v, [], [], []⟩ : Eff)) = some e) : Told e := by
  unfold eRowNil at he
  split at he
  · rename_i u pv _
    cases hi : pv.items with
    | nil => rw [hi] at he; cases he
    | cons p ps => rw [hi] at he; injection he with he; subst he; exact told_nil
  · cases he
theorem told_binO {h' : Nat → Own} {op : BinOp} {t : TypeId} {z : Operand} {x y : SV} (he : eBinO P h' op t z x y (fun v => some (⟨.sc v, [], [], []⟩ : Eff)) = some e) : Told e := by
  unfold eBinO at he
  split at he
  · split at he
    all_goals first | (injection he with he; subst he; exact told_nil) | cases he
  · split at he
    all_goals first | (injection he with he; subst he; exact told_nil) | cases he
  · split at he
    all_goals first | exact told_rowNil he | cases he
  · exact told_bin he
theorem told {o : Oper} {xs : List SV} (he : opE P h some T fr o xs = some e) : Told e := by
  unfold opE at he
  repeat' split at he
  all_goals first
    | (cases he; done)
    | (injection he with he; subst he; exact told_nil)
    | exact told_call he
    | (unfold ePick at he; repeat' split at he
       all_goals first | (cases he; done) | (injection he with he; subst he; exact told_nil))
    | exact told_binO he
    | (unfold binK at he; repeat' split at he
       all_goals first
         | (cases he; done) | (injection he with he; subst he; exact told_nil)
         | (unfold intOp at he; repeat' split at he
            all_goals first | (cases he; done) | (injection he with he; subst he; exact told_nil))
         | (unfold strOp at he; repeat' split at he
            all_goals first | (cases he; done) | (injection he with he; subst he; exact told_nil)))
    | (unfold unK at he; repeat' split at he
       all_goals first | (cases he; done) | (injection he with he; subst he; exact told_nil))
    | (unfold eConvert at he; repeat' split at he
       all_goals first | (cases he; done) | (injection he with he; subst he; exact told_nil) | (injection he with he; subst he; intro x hx; simp at hx ⊢; simp [hx]))
    | (unfold eIndex eIndexV eIndexS at he; simp only [cond_eq_ite] at he; repeat' split at he
       all_goals first | (cases he; done) | (injection he with he; subst he; exact told_nil))
    | (unfold eIndexAddrG eIndexAddr eIndexArr eIndexAddrS at he; simp only [cond_eq_ite] at he; repeat' split at he
       all_goals first | (cases he; done) | (injection he with he; subst he; exact told_nil))
    | (unfold eIndexAddr eIndexArr eIndexAddrS at he; simp only [cond_eq_ite] at he; repeat' split at he
       all_goals first | (cases he; done) | (injection he with he; subst he; exact told_nil))
    | (unfold eFieldAddr at he; simp only [cond_eq_ite] at he; repeat' split at he
       all_goals first | (cases he; done) | (injection he with he; subst he; exact told_nil))
    | (unfold eField at he; simp only [cond_eq_ite] at he; repeat' split at he
       all_goals first | (cases he; done) | (injection he with he; subst he; exact told_nil))
    | (unfold eNilCheck at he; repeat' split at he
       all_goals first | (cases he; done) | (injection he with he; subst he; exact told_nil))
    | (unfold eLoadG eLoad at he; simp only [cond_eq_ite] at he; repeat' split at he
       all_goals first | (cases he; done) | (injection he with he; subst he; exact told_nil))
    | (unfold eLoad at he; simp only [cond_eq_ite] at he; repeat' split at he
       all_goals first | (cases he; done) | (injection he with he; subst he; exact told_nil))
    | (unfold eStore at he; simp only [cond_eq_ite] at he; repeat' split at he
       all_goals first | (cases he; done) | (injection he with he; subst he; intro x hx; simp at hx ⊢; rcases hx with ⟨i, hi, rfl⟩ | rfl <;> simp_all) | (injection he with he; subst he; intro x hx; simp at hx ⊢; simp [hx]))
    | (unfold eAlloc at he; repeat' split at he
       all_goals first | (cases he; done) | (injection he with he; subst he; intro x hx; simp at hx ⊢; simp [hx]))
    | (unfold eBox at he; simp only [cond_eq_ite] at he; repeat' split at he
       all_goals first | (cases he; done) | (injection he with he; subst he; intro x hx; simp at hx ⊢; simp [hx]))
    | (unfold eBuild at he; simp only [cond_eq_ite] at he; repeat' split at he
       all_goals first | (cases he; done) | (injection he with he; subst he; exact told_nil))
    | (unfold eBuildSlice at he; simp only [cond_eq_ite] at he; repeat' split at he
       all_goals first | (cases he; done) | (injection he with he; subst he; intro x hx; simp at hx ⊢; rcases hx with ⟨i, hi, rfl⟩ | rfl <;> simp_all))
    | (unfold eMakeSlice at he; repeat' split at he
       all_goals first | (cases he; done) | (injection he with he; subst he; intro x hx; simp at hx ⊢; simp [hx]))
    | (unfold eExtract at he; simp only [cond_eq_ite] at he; repeat' split at he
       all_goals first | (cases he; done) | (injection he with he; subst he; exact told_nil))
    | (unfold eSlice at he; simp only [cond_eq_ite] at he; repeat' split at he
       all_goals first | (cases he; done) | exact told_boundsK (fun l h e hf => by injection hf with hf; subst hf; exact told_nil) he)
    | (unfold eLen at he; repeat' split at he
       all_goals first | (cases he; done) | (injection he with he; subst he; exact told_nil))
    | (unfold eCopy at he; simp only [cond_eq_ite] at he; repeat' split at he
       all_goals first | (cases he; done) | (injection he with he; subst he; intro x hx; simp at hx ⊢; simp [hx]))
    | (unfold eAppend at he; simp only [cond_eq_ite] at he; repeat' split at he
       all_goals first | (cases he; done) | (injection he with he; subst he; intro x hx; simp at hx ⊢; rcases hx with ⟨i, hi, rfl⟩ | ⟨i, hi, rfl⟩ | rfl <;> simp_all))
end
section
variable {P : Program} {C : Cx} {M : Mm} {o : Oper} {a : Act} {e : Eff} {h' : Nat → Own} {fr : Nat} {T : FuncId → Option ASpec}
variable [Glb P]
theorem slots1 {x : SV} {y : Operand} (h : Slots P M [x] ([y].map a.eval)) : Slot P M x (a.eval y) := h.1
theorem slots2 {x x' : SV} {y y' : Operand} (h : Slots P M [x, x'] ([y, y'].map a.eval)) : Slot P M x (a.eval y) ∧ Slot P M x' (a.eval y') := ⟨h.1, h.2.1⟩
theorem slot_unCon {x : SV} {v : Value} (h : Slot P M x v) : Slot P M (unCon x) v := by
  cases x with
  | con g t pv =>
    obtain ⟨⟨_, h1⟩, h2⟩ := h.leaf_inv (by simp) (by simp) (by simp) (by simp) (by simp)
    exact .leaf _ _ h1 h2
  | _ => exact h
theorem idsOf_unCon (x : SV) : idsOf (unCon x) = idsOf x := by cases x <;> rfl
theorem run_max2 (ts : Array TypeId) (t : TypeId) (k k' : IntKind) (x y : Int) (w : World) : (Builtin.max_ ts t #[.int k x, .int k' y]).run P w = .ok (.int k (maxI x y)) w := run_max_int2 w ts t k k' x y
theorem run_min2 (ts : Array TypeId) (t : TypeId) (k k' : IntKind) (x y : Int) (w : World) : (Builtin.min_ ts t #[.int k x, .int k' y]).run P w = .ok (.int k (minI x y)) w := run_min_int2 w ts t k k' x y
theorem run_max3 (ts : Array TypeId) (t : TypeId) (k k' k2 : IntKind) (x y z : Int) (w : World) : (Builtin.max_ ts t #[.int k x, .int k' y, .int k2 z]).run P w = .ok (.int k (maxI (maxI x y) z)) w := by
  simp [Builtin.max_, Builtin.max2, maxI]
theorem run_min3 (ts : Array TypeId) (t : TypeId) (k k' k2 : IntKind) (x y z : Int) (w : World) : (Builtin.min_ ts t #[.int k x, .int k' y, .int k2 z]).run P w = .ok (.int k (minI (minI x y) z)) w := by
  simp [Builtin.min_, Builtin.min2, minI]
  try rfl
theorem run_max4 (ts : Array TypeId) (t : TypeId) (k k' k2 k3 : IntKind) (x y z u : Int) (w : World) : (Builtin.max_ ts t #[.int k x, .int k' y, .int k2 z, .int k3 u]).run P w = .ok (.int k (maxI (maxI (maxI x y) z) u)) w := by
  simp [Builtin.max_, Builtin.max2, maxI]
theorem run_min4 (ts : Array TypeId) (t : TypeId) (k k' k2 k3 : IntKind) (x y z u : Int) (w : World) : (Builtin.min_ ts t #[.int k x, .int k' y, .int k2 z, .int k3 u]).run P w = .ok (.int k (minI (minI (minI x y) z) u)) w := by
  simp [Builtin.min_, Builtin.min2, minI]
  try rfl
theorem args_len3 {x y z : SV} {l : List Operand} (hy : Slots P M [x, y, z] (l.map a.eval)) : ∃ p q r, l = [p, q, r] := by
  match l, hy with
  | [p, q, r], _ => exact ⟨p, q, r, rfl⟩
  | [], h => exact h.elim
  | [_], h => exact h.2.elim
  | [_, _], h => exact h.2.2.elim
  | _ :: _ :: _ :: _ :: _, h => exact h.2.2.2.elim
theorem args_len4 {x y z u : SV} {l : List Operand} (hy : Slots P M [x, y, z, u] (l.map a.eval)) : ∃ p q r s, l = [p, q, r, s] := by
  match l, hy with
  | [p, q, r, s], _ => exact ⟨p, q, r, s, rfl⟩
  | [], h => exact h.elim
  | [_], h => exact h.2.elim
  | [_, _], h => exact h.2.2.elim
  | [_, _, _], h => exact h.2.2.2.elim
  | _ :: _ :: _ :: _ :: _ :: _, h => exact h.2.2.2.2.elim
theorem opE_ok (hT : ∀ f s, T f = some s → FnOk P f s) (hm : At P C M) {xs : List SV} (hy : Slots P M xs ((opnds o.op).map a.eval)) (hh : ∀ id ∈ freshOf o fr ++ idsOfL xs, h' id = M.oh id) (hfree : ∀ id, h' id = .free → M.oh id = .free)
    (h : opE P h' some T fr o xs = some e) : OpOk P C M o a e := by
  have hi : ∀ id ∈ idsOfL xs, h' id = M.oh id := fun id hid => hh id (List.mem_append_right _ hid)
  have hf : ∀ id ∈ freshOf o fr, h' id = M.oh id := fun id hid => hh id (List.mem_append_left _ hid)
  unfold opE at h
  split at h <;> rename_i ho <;> simp only [opnds, ho] at hy
  case h_1 => injection h with h; subst h; exact ok_move hm ho hy.1
  case h_2 => injection h with h; subst h; exact ok_assign hm ho hy.1
  case h_3 => exact ok_pick hm ho hy.1 hy.2.1 hy.2.2.1 h
  case h_4 => exact ok_binO hm ho hy.1 hy.2.1 (fun id hid => hi id (by simp [idsOfL, hid])) h
  case h_5 => exact ok_unOp hm ho hy.1 h
  case h_6 => exact ok_convert hm ho hy.1 (fun id hid => hh id (by simpa [freshOf, ho, idsOfL] using hid)) h
  case h_7 => exact ok_index hm ho hy.1 hy.2.1 h
  case h_8 =>
    unfold eIndexAddrG at h
    split at h
    · rename_i u pv hg
      exact ok_indexAddr hm ho (hm.global hg) hy.2.1 (fun id hid => by simp [idsOf] at hid) h
    · cases h
  case h_9 => exact ok_indexAddr hm ho (slot_unCon hy.1) hy.2.1 (fun id hid => hi id (by rw [idsOf_unCon] at hid; simp [idsOfL, hid])) h
  case h_10 => exact ok_fieldAddr hm ho hy.1 (fun id hid => hi id (by simp [idsOfL, hid])) h
  case h_11 => exact ok_field hm ho hy.1 h
  case h_12 => exact ok_nilCheck hm ho hy.1 (fun id hid => hi id (by simp [idsOfL, hid])) h
  case h_13 =>
    unfold eLoadG at h
    split at h
    · rename_i u pv hg
      exact ok_load hm ho (hm.global hg) (fun id hid => by simp [idsOf] at hid) h
    · cases h
  case h_14 => exact ok_load hm ho hy.1 (fun id hid => hi id (by simp [idsOfL, hid])) h
  case h_15 => exact ok_store hm ho hy.1 hy.2.1 (fun id hid => hi id (by simpa [idsOfL] using hid)) h
  case h_16 => exact ok_alloc hm ho (fun id hid => hf id (by simpa [freshOf, ho] using hid)) h
  case h_17 => exact ok_box hm ho hy.1 (fun id hid => hf id (by simpa [freshOf, ho] using hid)) h
  case h_18 => exact ok_build hm ho (by rw [List.map_map] at hy; exact hy) h
  case h_19 => exact ok_buildSlice hm ho (by rw [List.map_map] at hy; exact hy) (fun id hid => hh id (by simpa [freshOf, ho] using hid)) h
  case h_20 => exact ok_makeSlice hm ho hy.1 hy.2.1 (fun id hid => hf id (by simpa [freshOf, ho] using hid)) h
  case h_21 => exact ok_extract hm ho hy.1 h
  case h_22 => exact ok_slice hm ho (slot_unCon hy.1) (by simpa using hy.2) (fun id hid => hi id (by rw [idsOf_unCon] at hid; simp [idsOfL, hid])) h
  case h_23 c =>
    split at h
    · rename_i hcal hat
      rename_i t x
      obtain ⟨y, hargs⟩ : ∃ y, c.args.toList = [y] := by
        cases hc : c.args.toList with
        | nil => rw [hc] at hy; exact hy.elim
        | cons y r => cases r with
          | nil => exact ⟨y, rfl⟩
          | cons => rw [hc] at hy; exact hy.2.elim
      rw [hargs] at hy
      have hargs' : c.args = #[y] := by rw [← Array.toArray_toList (xs := c.args), hargs]
      have hat' : c.argTypes[0]? = some t := by rw [← Array.getElem?_toList, hat]; rfl
      exact ok_len hm ho hcal hargs' hat' hy.1 (fun id hid => hi id (by simp [idsOfL, hid])) h
    · rename_i hcal hat
      rename_i t t' x x'
      obtain ⟨y, z, hargs⟩ : ∃ y z, c.args.toList = [y, z] := by
        cases hc : c.args.toList with
        | nil => rw [hc] at hy; exact hy.elim
        | cons y r => cases r with
          | nil => rw [hc] at hy; exact hy.2.elim
          | cons z r => cases r with
            | nil => exact ⟨y, z, rfl⟩
            | cons => rw [hc] at hy; exact hy.2.2.elim
      rw [hargs] at hy
      have hargs' : c.args = #[y, z] := by rw [← Array.toArray_toList (xs := c.args), hargs]
      have hat' : c.argTypes = #[t, t'] := by rw [← Array.toArray_toList (xs := c.argTypes), hat]
      exact ok_append hm ho hcal hargs' hat' hy.1 hy.2.1 (fun id hid => hh id (by
        rcases List.mem_cons.1 hid with rfl | hid
        · simp [freshOf, ho]
        · simp [idsOfL] at hid ⊢; exact .inr hid)) h
    · rename_i hcal hat
      rename_i t t' x x'
      obtain ⟨y, z, hargs⟩ : ∃ y z, c.args.toList = [y, z] := by
        cases hc : c.args.toList with
        | nil => rw [hc] at hy; exact hy.elim
        | cons y r => cases r with
          | nil => rw [hc] at hy; exact hy.2.elim
          | cons z r => cases r with
            | nil => exact ⟨y, z, rfl⟩
            | cons => rw [hc] at hy; exact hy.2.2.elim
      rw [hargs] at hy
      have hargs' : c.args = #[y, z] := by rw [← Array.toArray_toList (xs := c.args), hargs]
      have hat' : c.argTypes = #[t, t'] := by rw [← Array.toArray_toList (xs := c.argTypes), hat]
      exact ok_copy hm ho hcal hargs' hat' hy.1 hy.2.1 (fun id hid => hi id (by simp [idsOfL, hid])) h
    · rename_i hcal
      rename_i kd i kd' j
      obtain ⟨y, z, hargs⟩ : ∃ y z, c.args.toList = [y, z] := by
        cases hc : c.args.toList with
        | nil => rw [hc] at hy; exact hy.elim
        | cons y r => cases r with
          | nil => rw [hc] at hy; exact hy.2.elim
          | cons z r => cases r with
            | nil => exact ⟨y, z, rfl⟩
            | cons => rw [hc] at hy; exact hy.2.2.elim
      rw [hargs] at hy
      have hargs' : c.args = #[y, z] := by rw [← Array.toArray_toList (xs := c.args), hargs]
      injection h with h; subst h
      have hy1 := hy.1.sc_inv.1; have hz1 := hy.2.1.sc_inv.1
      have hr := run_max2 (P := P) c.argTypes o.type kd kd' i j M.w
      exact opOk_val (by simp [execOp, ho, resolve, hcal, hargs', hy1, hz1, invoke, builtin, hr]) (hm.pure (slot_sc rfl))
    · rename_i hcal
      rename_i kd i kd' j
      obtain ⟨y, z, hargs⟩ : ∃ y z, c.args.toList = [y, z] := by
        cases hc : c.args.toList with
        | nil => rw [hc] at hy; exact hy.elim
        | cons y r => cases r with
          | nil => rw [hc] at hy; exact hy.2.elim
          | cons z r => cases r with
            | nil => exact ⟨y, z, rfl⟩
            | cons => rw [hc] at hy; exact hy.2.2.elim
      rw [hargs] at hy
      have hargs' : c.args = #[y, z] := by rw [← Array.toArray_toList (xs := c.args), hargs]
      injection h with h; subst h
      have hy1 := hy.1.sc_inv.1; have hz1 := hy.2.1.sc_inv.1
      have hr := run_min2 (P := P) c.argTypes o.type kd kd' i j M.w
      exact opOk_val (by simp [execOp, ho, resolve, hcal, hargs', hy1, hz1, invoke, builtin, hr]) (hm.pure (slot_sc rfl))
    · rename_i hcal
      rename_i kd0 j0 kd1 j1 kd2 j2
      obtain ⟨y0, y1, y2, hargs⟩ : ∃ y0 y1 y2, c.args.toList = [y0, y1, y2] := args_len3 hy
      rw [hargs] at hy
      have hargs' : c.args = #[y0, y1, y2] := by rw [← Array.toArray_toList (xs := c.args), hargs]
      injection h with h; subst h
      have e0 := hy.1.sc_inv.1
      have e1 := hy.2.1.sc_inv.1
      have e2 := hy.2.2.1.sc_inv.1
      have hr := run_max3 (P := P) c.argTypes o.type kd0 kd1 kd2 j0 j1 j2 M.w
      exact opOk_val (by simp [execOp, ho, resolve, hcal, hargs', e0, e1, e2, invoke, builtin, hr]) (hm.pure (slot_sc rfl))
    · rename_i hcal
      rename_i kd0 j0 kd1 j1 kd2 j2
      obtain ⟨y0, y1, y2, hargs⟩ : ∃ y0 y1 y2, c.args.toList = [y0, y1, y2] := args_len3 hy
      rw [hargs] at hy
      have hargs' : c.args = #[y0, y1, y2] := by rw [← Array.toArray_toList (xs := c.args), hargs]
      injection h with h; subst h
      have e0 := hy.1.sc_inv.1
      have e1 := hy.2.1.sc_inv.1
      have e2 := hy.2.2.1.sc_inv.1
      have hr := run_min3 (P := P) c.argTypes o.type kd0 kd1 kd2 j0 j1 j2 M.w
      exact opOk_val (by simp [execOp, ho, resolve, hcal, hargs', e0, e1, e2, invoke, builtin, hr]) (hm.pure (slot_sc rfl))
    · rename_i hcal
      rename_i kd0 j0 kd1 j1 kd2 j2 kd3 j3
      obtain ⟨y0, y1, y2, y3, hargs⟩ : ∃ y0 y1 y2 y3, c.args.toList = [y0, y1, y2, y3] := args_len4 hy
      rw [hargs] at hy
      have hargs' : c.args = #[y0, y1, y2, y3] := by rw [← Array.toArray_toList (xs := c.args), hargs]
      injection h with h; subst h
      have e0 := hy.1.sc_inv.1
      have e1 := hy.2.1.sc_inv.1
      have e2 := hy.2.2.1.sc_inv.1
      have e3 := hy.2.2.2.1.sc_inv.1
      have hr := run_max4 (P := P) c.argTypes o.type kd0 kd1 kd2 kd3 j0 j1 j2 j3 M.w
      exact opOk_val (by simp [execOp, ho, resolve, hcal, hargs', e0, e1, e2, e3, invoke, builtin, hr]) (hm.pure (slot_sc rfl))
    · rename_i hcal
      rename_i kd0 j0 kd1 j1 kd2 j2 kd3 j3
      obtain ⟨y0, y1, y2, y3, hargs⟩ : ∃ y0 y1 y2 y3, c.args.toList = [y0, y1, y2, y3] := args_len4 hy
      rw [hargs] at hy
      have hargs' : c.args = #[y0, y1, y2, y3] := by rw [← Array.toArray_toList (xs := c.args), hargs]
      injection h with h; subst h
      have e0 := hy.1.sc_inv.1
      have e1 := hy.2.1.sc_inv.1
      have e2 := hy.2.2.1.sc_inv.1
      have e3 := hy.2.2.2.1.sc_inv.1
      have hr := run_min4 (P := P) c.argTypes o.type kd0 kd1 kd2 kd3 j0 j1 j2 j3 M.w
      exact opOk_val (by simp [execOp, ho, resolve, hcal, hargs', e0, e1, e2, e3, invoke, builtin, hr]) (hm.pure (slot_sc rfl))
    · rename_i hcal
      split at h
      · rename_i s hs
        exact ok_call hm ho hcal (hT _ _ hs) hy hi hfree h
      · cases h
    · cases h
  case h_24 => cases h
theorem opE_ok' (hT : ∀ f s, T f = some s → FnOk P f s) (hm : At P C M) {xs : List SV} (hy : Slots P M xs ((opnds o.op).map a.eval)) (hh : ∀ id ∈ idsFor o fr xs, h' id = M.oh id) (hfree : ∀ id, h' id = .free → M.oh id = .free)
    (h : opE P h' some T fr o xs = some e) : OpOk P C M o a e := by
  cases ho : o.op with
  | move y =>
    simp only [opnds, ho] at hy
    unfold opE at h
    simp only [ho] at h
    match xs, hy, h with
    | [x], hy, h => injection h with h; subst h; exact ok_move hm ho hy.1
    | [], hy, _ => exact hy.elim
    | _ :: _ :: _, hy, _ => exact hy.2.elim
  | assign y =>
    simp only [opnds, ho] at hy
    unfold opE at h
    simp only [ho] at h
    match xs, hy, h with
    | [x], hy, h => injection h with h; subst h; exact ok_assign hm ho hy.1
    | [], hy, _ => exact hy.elim
    | _ :: _ :: _, hy, _ => exact hy.2.elim
  | _ =>
    refine opE_ok hT hm hy (fun id hid => hh id ?_) hfree h
    simp only [idsFor, ho]
    exact hid
end
end Go.Proofs.YtjfigkikhmffpaaGreatDoorAm

/-! The machine's state and the frame's; one operation of a region. -/
namespace Go.Proofs.YtjfigkikhmffpaaGreatDoorAm
open Go RowKit
section
variable {P : Program} {C : Cx} {M : Mm} {σ σ' : St} {a a' : Act} {w w' : World} {o : Oper} {e : Eff} {v : Value} {x : SV} {T : FuncId → Option ASpec} {ops : Array Oper} {base fr : Nat}
variable [Glb P]
structure RelG (P : Program) [Glb P] (C : Cx) (σ : St) (a : Act) (w : World) (G : Gh) : Prop where
  at_ : At P C ⟨w, σ.oh, G⟩
  defers : a.defers = []
  size : σ.slots.length ≤ a.tmps.size
  slot : ∀ t, Slot P ⟨w, σ.oh, G⟩ (σ.slots.getD t .junk) (a.tmps.getD t undef)
def Rel (P : Program) [Glb P] (C : Cx) (σ : St) (a : Act) (w : World) : Prop := ∃ G, RelG P C σ a w G
theorem slot_evc (v : Value) : Slot P M (evc v) v := by
  unfold evc
  split
  · exact .leaf _ _ rfl rfl
  · cases h : v.oneCell'
    · exact .junk _
    · exact slot_sc h
theorem RelG.ev {G : Gh} (h : RelG P C σ a w G) (y : Operand) : Slot P ⟨w, σ.oh, G⟩ (σ.ev y) (a.eval y) := by
  cases y with
  | tmp t => exact h.slot t
  | const v => exact slot_evc v
  | global g => exact .junk _
  | func f => exact slot_sc rfl
theorem RelG.evs {G : Gh} (h : RelG P C σ a w G) : ∀ ys : List Operand, Slots P ⟨w, σ.oh, G⟩ (ys.map σ.ev) (ys.map a.eval)
  | [] => trivial
  | y :: ys => ⟨h.ev y, h.evs ys⟩
theorem Trans.at (hm : At P C M) {M' : Mm} {stale : List Nat} (ht : Trans P C M M' stale) : At P C M' where
  mem := ht.mem hm.mem
  glb := hm.glb
  ap := hm.ap
  pins := fun id hid => by
    have h0 := hm.pins id hid
    cases ht.ids id with
    | same h1 => rw [h1]; cases ho : M.oh id <;> simp [freshenOwn]; exact absurd ho h0
    | dead h1 => rw [h1]; simp
    | row t pv h1 => rw [h1]; simp
    | box t sv g cs h1 => rw [h1]; simp
theorem freshenL_getD (stale : List Nat) (l : List SV) (t : Nat) : (freshenL stale l).getD t .junk = freshen stale (l.getD t .junk) := by
  rw [List.getD_eq_getElem?_getD, List.getD_eq_getElem?_getD]
  induction l generalizing t with
  | nil => simp [freshenL, freshen]
  | cons x r ih => cases t with
    | zero => simp [freshenL]
    | succ t => simpa [freshenL] using ih t
theorem app_oh (σ : St) (d : Option Tmp) (e : Eff) : (σ.app d e).oh = newOh σ.oh e := by
  funext i
  unfold St.app St.freshen newOh
  cases hs : e.stale with
  | nil => exact (freshenOwn_nil _).symm
  | cons a r => rfl
def setD (s : List SV) (d : Option Tmp) (y : SV) : List SV := match d with | some d => s.set d y | none => s
theorem app_slots (σ : St) (d : Option Tmp) (e : Eff) : (σ.app d e).slots = freshenL e.stale (setD σ.slots d e.val) := by
  unfold St.app St.freshen setD
  cases hs : e.stale with
  | nil => exact (freshenL_nil _).symm
  | cons a r => rfl
/-- Behind an operation. -/
theorem RelG.move {G : Gh} (h : RelG P C σ a w G) (d : Option Tmp) (hg : Goes P C ⟨w, σ.oh, G⟩ e v w') : Rel P C (σ.app d e) (a.put d v) w' := by
  obtain ⟨G', ht, hs⟩ := hg
  have hoh := app_oh σ d e
  refine ⟨G', ?_, ?_, ?_, fun t => ?_⟩
  · rw [hoh]; exact ht.at h.at_
  · cases d <;> exact h.defers
  · rw [app_slots, freshenL_length]
    cases d <;> simpa [Act.put, setD] using h.size
  · rw [hoh, app_slots, freshenL_getD]
    cases d with
    | none => exact (h.slot t).step h.at_.mem ht
    | some d =>
      simp only [Act.put, setD]
      by_cases htd : t = d
      · subst htd
        by_cases hl : t < σ.slots.length
        · have hl' := Nat.lt_of_lt_of_le hl h.size
          have h1 : (σ.slots.set t e.val).getD t .junk = e.val := by simp [List.getD_eq_getElem?_getD, hl]
          have h2 : (a.tmps.setIfInBounds t v).getD t undef = v := by simp [Array.getD_eq_getD_getElem?, hl']
          rw [h1, h2]; exact hs
        · have h1 : (σ.slots.set t e.val).getD t .junk = .junk := by simp [List.getD_eq_getElem?_getD, Nat.le_of_not_lt hl]
          rw [h1]; exact .junk _
      · have h1 : (σ.slots.set d e.val).getD t .junk = σ.slots.getD t .junk := by simp [List.getD_eq_getElem?_getD, Ne.symm htd]
        have h2 : (a.tmps.setIfInBounds d v).getD t undef = a.tmps.getD t undef := by simp [Array.getD_eq_getD_getElem?, Array.getElem?_setIfInBounds_ne (Ne.symm htd)]
        rw [h1, h2]; exact (h.slot t).step h.at_.mem ht
/-- What an operation did. -/
structure Rec where
  e : Eff
  ids : List Nat
  on : Bool
def gslot (ops : Array Oper) (σ : St) (o : Oper) : Option (SV × Bool) := match o.guard with
  | none => none
  | some (j, pol) => match (ops[j]?).bind (·.dst) with
    | some d => some (σ.slots.getD d .junk, pol)
    | none => some (.junk, pol)
def GOn : Option (SV × Bool) → Prop
  | none => True
  | some (x, pol) => x = .sc (.bool pol)
def GOff : Option (SV × Bool) → Prop
  | none => False
  | some (x, pol) => x = .sc (.bool !pol) ∨ x = .undef
def StepOk (P : Program) [Glb P] (T : FuncId → Option ASpec) (ops : Array Oper) (fr : Nat) (o : Oper) (σ : St) (R : Rec) : Prop :=
  (R.on = true ∧ GOn (gslot ops σ o) ∧ R.ids = idsFor o fr ((opnds o.op).map σ.ev) ∧ opE P (restrict σ.oh R.ids) some T fr o ((opnds o.op).map σ.ev) = some R.e) ∨
  (R.on = false ∧ GOff (gslot ops σ o) ∧ R.ids = [] ∧ R.e = ⟨.undef, [], [], []⟩)
inductive Runs (P : Program) [Glb P] (T : FuncId → Option ASpec) (bs : Array Nat) (drawn : Bool) (ops : Array Oper) (base : Nat) : Nat → List Oper → St → List Acc → List Rec → St → Prop
  | nil (i : Nat) (σ : St) (accs : List Acc) : Runs P T bs drawn ops base i [] σ accs [] σ
  | cons (i : Nat) (o : Oper) (l : List Oper) (σ σ' : St) (accs : List Acc) (R : Rec) (recs : List Rec) : StepOk P T ops (base + 8 * i) o σ R →
      (drawn = true → R.on = true → clashFree (bs.getD i 0) R.ids R.e.wi (!isNil R.e.stale) accs = true) →
      Runs P T bs drawn ops base (i + 1) l (σ.app o.dst R.e) (if R.on = true then ⟨i, R.ids, R.e.wi, !isNil R.e.stale⟩ :: accs else accs) recs σ' →
      Runs P T bs drawn ops base i (o :: l) σ accs (R :: recs) σ'
theorem put_same {σ : St} {d : Tmp} {x : SV} (h : σ.slots.getD d .junk = x) (hx : x ≠ .junk) : σ.put (some d) x = σ := by
  unfold St.put
  have : σ.slots.set d x = σ.slots := by
    rw [List.getD_eq_getElem?_getD] at h
    cases hg : σ.slots[d]? with
    | none => rw [hg] at h; exact absurd h.symm hx
    | some y =>
      rw [hg] at h; simp at h; subst h
      exact List.ext_getElem? (fun i => by
        by_cases hi : d = i
        · subst hi; rw [hg]; simp [(List.getElem?_eq_some_iff.1 hg).1]
        · simp [hi])
  simp only [this]
theorem app_undef (σ : St) (d : Option Tmp) : σ.app d ⟨.undef, [], [], []⟩ = σ.put d .undef := by
  unfold St.app St.freshen St.put; cases d <;> rfl
theorem runOps_runs {α : Type} {bs : Array Nat} {drawn : Bool} {k : St → Option α} {r : α} : ∀ {l : List Oper} {i : Nat} {σ : St} {accs : List Acc}, runOps P T bs drawn ops base i l σ accs k = some r → ∃ recs σ', Runs P T bs drawn ops base i l σ accs recs σ' ∧ k σ' = some r
  | [], i, σ, accs, h => ⟨[], σ, .nil i σ accs, by simpa [runOps] using h⟩
  | o :: l, i, σ, accs, h => by
    have go : GOn (gslot ops σ o) → (opE P (restrict σ.oh (idsFor o (base + 8 * i) ((opnds o.op).map σ.ev))) (fun e =>
        bif drawn && !clashFree (bs.getD i 0) (idsFor o (base + 8 * i) ((opnds o.op).map σ.ev)) e.wi (!isNil e.stale) accs then none else runOps P T bs drawn ops base (i + 1) l (σ.app o.dst e) (⟨i, idsFor o (base + 8 * i) ((opnds o.op).map σ.ev), e.wi, !isNil e.stale⟩ :: accs) k) T (base + 8 * i) o ((opnds o.op).map σ.ev)) = some r →
        ∃ recs σ', Runs P T bs drawn ops base i (o :: l) σ accs recs σ' ∧ k σ' = some r := fun hg h => by
      rw [opE_nat] at h
      cases he : opE P (restrict σ.oh (idsFor o (base + 8 * i) ((opnds o.op).map σ.ev))) some T (base + 8 * i) o ((opnds o.op).map σ.ev) with
      | none => rw [he] at h; cases h
      | some e =>
        rw [he] at h
        simp only [Option.bind_some] at h
        cases hc : (drawn && !clashFree (bs.getD i 0) (idsFor o (base + 8 * i) ((opnds o.op).map σ.ev)) e.wi (!isNil e.stale) accs) <;> simp only [hc, cond_true, cond_false] at h
        · obtain ⟨recs, σ', h1, h2⟩ := runOps_runs h
          refine ⟨⟨e, idsFor o (base + 8 * i) ((opnds o.op).map σ.ev), true⟩ :: recs, σ', .cons i o l σ σ' accs _ recs (.inl ⟨rfl, hg, rfl, he⟩) (fun hd _ => ?_) (by simpa using h1), h2⟩
          subst hd; simpa using hc
        · cases h
    have off : GOff (gslot ops σ o) → runOps P T bs drawn ops base (i + 1) l (σ.put o.dst .undef) accs k = some r → ∃ recs σ', Runs P T bs drawn ops base i (o :: l) σ accs recs σ' ∧ k σ' = some r := fun hg h => by
      rw [← app_undef] at h
      obtain ⟨recs, σ', h1, h2⟩ := runOps_runs h
      exact ⟨⟨⟨.undef, [], [], []⟩, [], false⟩ :: recs, σ', .cons i o l σ σ' accs _ recs (.inr ⟨rfl, hg, rfl, rfl⟩) (fun _ h => by cases h) (by simpa using h1), h2⟩
    unfold runOps at h
    cases hgu : o.guard with
    | none =>
      rw [hgu] at h
      exact go (by simp [gslot, hgu, GOn]) h
    | some g =>
      obtain ⟨j, pol⟩ := g
      rw [hgu] at h
      simp only at h
      cases hd : (ops[j]?).bind (·.dst) with
      | none => rw [hd] at h; cases h
      | some d =>
        rw [hd] at h
        simp only at h
        have hgs : gslot ops σ o = some (σ.slots.getD d .junk, pol) := by simp only [gslot, hgu, hd]
        split at h
        · rename_i b hb
          have hp : ∀ c, b = c → σ.put (some d) (.sc (.bool c)) = σ := fun c hc => by subst hc; exact put_same hb (by simp)
          split at h
          · rename_i hbp
            rw [hp pol hbp] at h
            exact go (by rw [hgs]; simp only [GOn]; rw [hb, hbp]) h
          · rename_i hbp
            have hbn : b = !pol := by cases b <;> cases pol <;> simp_all
            rw [hp _ hbn] at h
            exact off (by rw [hgs]; simp only [GOff]; rw [hb, hbn]; exact .inl rfl) h
        · rename_i hu
          exact off (by rw [hgs]; simp only [GOff]; rw [hu]; exact .inr rfl) h
        · cases h
theorem undef_sc {G : Gh} (h : RelG P C σ a w G) {d : Tmp} (hs : σ.slots.getD d .junk = .undef) : a.tmps.getD d undef = undef := by
  have := h.slot d
  rw [hs] at this
  generalize a.tmps.getD d undef = y at this
  cases this with
  | undef => rfl
  | leaf _ _ hl => exact hl.elim
theorem getD_some_of {xs : Array Value} {d : Nat} {v : Value} (h : xs.getD d undef = v) (hv : v ≠ undef) : xs[d]? = some v := by
  rw [Array.getD_eq_getD_getElem?] at h
  cases hx : xs[d]? with
  | none => rw [hx] at h; exact absurd h.symm hv
  | some y => rw [hx] at h; simp at h; rw [h]
/-- One operation of a region, in the model. -/
theorem step_sound {Q : Exit → Act → World → Prop} (hT : ∀ f s, T f = some s → FnOk P f s) {i : Nat} (hi : ops[i]? = some o) (hR : Rel P C σ a w) {R : Rec} (hs : StepOk P T ops fr o σ R) {K : Act → World → Prop} (hK : ∀ a' w', Rel P C (σ.app o.dst R.e) a' w' → K a' w') : wpOp P ops Q i K a w := by
  obtain ⟨G, hG⟩ := hR
  unfold wpOp
  simp only [hi]
  have hun : undef ≠ .bool true ∧ undef ≠ .bool false := by unfold undef; simp
  rcases hs with ⟨_, hg, hids, he⟩ | ⟨_, hg, _, he⟩
  · have hw : Region.wanted o (yielded ops a.tmps) = true := by
      unfold Region.wanted
      cases hgu : o.guard with
      | none => rfl
      | some g =>
        obtain ⟨j, pol⟩ := g
        simp only [gslot, hgu] at hg
        cases hd : (ops[j]?).bind (·.dst) with
        | none => rw [hd] at hg; cases hg
        | some d =>
          rw [hd] at hg
          have hsl := hG.slot d
          have hgx : σ.slots.getD d .junk = .sc (.bool pol) := hg
          rw [hgx] at hsl
          have := getD_some_of hsl.sc_inv.1 (by cases pol <;> simp [undef])
          simp [yielded, hd, this]
    rw [if_pos hw]
    refine .inl ?_
    have hop : OpOk P C ⟨w, σ.oh, G⟩ o a R.e := opE_ok' (h' := restrict σ.oh R.ids) hT hG.at_ (hG.evs _) (fun id hid => by
        rw [← hids] at hid
        simp [restrict, memB_mem.2 hid]) (fun id hid => by
        simp only [restrict] at hid
        cases hb : memB R.ids id <;> rw [hb] at hid
        · cases hid
        · exact hid) he
    exact hop K Q (fun v w' hgo => hK _ _ (hG.move o.dst hgo))
  · have hw : Region.wanted o (yielded ops a.tmps) = false := by
      unfold Region.wanted
      cases hgu : o.guard with
      | none => simp [gslot, hgu, GOff] at hg
      | some g =>
        obtain ⟨j, pol⟩ := g
        simp only [gslot, hgu] at hg
        cases hd : (ops[j]?).bind (·.dst) with
        | none => rw [hd] at hg; rcases hg with hg | hg <;> cases hg
        | some d =>
          rw [hd] at hg
          have hsl := hG.slot d
          rcases hg with hg | hg
          · have hgx : σ.slots.getD d .junk = .sc (.bool !pol) := hg
            rw [hgx] at hsl
            have := getD_some_of hsl.sc_inv.1 (by cases pol <;> simp [undef])
            simp [yielded, hd, this]
          · have hu := undef_sc hG hg
            cases hx : a.tmps[d]? with
            | none => simp [yielded, hd, hx]
            | some y =>
              have : y = undef := by rw [Array.getD_eq_getD_getElem?, hx] at hu; exact hu
              subst this
              simp [yielded, hd, hx, undef]
    rw [hw]
    simp only [Bool.false_eq_true, if_false]
    rw [he] at hK
    exact hK _ _ (hG.move o.dst (hG.at_.pure .undef))
end
end Go.Proofs.YtjfigkikhmffpaaGreatDoorAm

/-! A region in the order of its text; what a run of it tells. -/
namespace Go.Proofs.YtjfigkikhmffpaaGreatDoorAm
open Go RowKit
section
variable {P : Program} {C : Cx} {M : Mm} {σ σ' : St} {a a' : Act} {w w' : World} {o : Oper} {e : Eff} {v : Value} {x : SV} {T : FuncId → Option ASpec} {ops : Array Oper} {base fr : Nat} {bs : Array Nat} {drawn : Bool}
variable [Glb P]
theorem runs_list {Q : Exit → Act → World → Prop} (hT : ∀ f s, T f = some s → FnOk P f s) : ∀ {l : List Oper} {i : Nat} {σ : St} {accs : List Acc} {recs : List Rec} {σ' : St} {a : Act} {w : World}, Runs P T bs drawn ops base i l σ accs recs σ' → (∀ m o, l[m]? = some o → ops[i + m]? = some o) → Rel P C σ a w →
    (∀ a' w', Rel P C σ' a' w' → Q .normal a' w') → wpOps P ops Q (List.range' i l.length) a w
  | [], i, σ, accs, recs, σ', a, w, h, _, hR, hQ => by
    cases h with
    | nil => exact hQ _ _ hR
  | o :: l, i, σ, accs, recs, σ', a, w, h, hl, hR, hQ => by
    cases h with
    | cons _ _ _ _ _ _ R recs h1 h2 h3 =>
      rw [List.length_cons, List.range'_succ, wpOps_cons]
      refine step_sound hT (hl 0 o rfl) hR h1 (fun a' w' hR' => ?_)
      exact runs_list hT h3 (fun m o' hm => by
        have := hl (m + 1) o' (by simpa using hm)
        rw [show i + 1 + m = i + (m + 1) by omega]; exact this) hR' hQ
theorem region_text {α : Type} {Q : Exit → Act → World → Prop} (hT : ∀ f s, T f = some s → FnOk P f s) {k : St → Option α} {r : α} {id : Nat} (h : runOps P T bs false ops base 0 ops.toList σ [] k = some r) (hR : Rel P C σ a w)
    (hQ : ∀ σ' a' w', k σ' = some r → Rel P C σ' a' w' → Q .normal a' w') : (Code.region id ops false).wp P Q a w := by
  obtain ⟨recs, σ', h1, h2⟩ := runOps_runs h
  refine wp_region ?_
  have := runs_list (Q := Q) hT h1 (fun m o hm => by simpa using hm) hR (fun a' w' hR' => hQ σ' a' w' h2 hR')
  rwa [List.range_eq_range', ← Array.length_toList]
/-! ### What a run tells -/
def dstOf (ops : Array Oper) (i : Nat) : Option Tmp := (ops[i]?).bind (·.dst)
def appI (ops : Array Oper) (R : Nat → Rec) (i : Nat) (σ : St) : St := σ.app (dstOf ops i) (R i).e
/-- The state behind those of the first m operations that c picks. -/
def stc (ops : Array Oper) (R : Nat → Rec) (σ : St) (c : Nat → Bool) : Nat → St
  | 0 => σ
  | m + 1 => if c m = true then appI ops R m (stc ops R σ c m) else stc ops R σ c m
structure Clash (R : Nat → Rec) (i j : Nat) : Prop where
  si : (R i).e.stale = []
  sj : (R j).e.stale = []
  a : ∀ k ∈ (R j).e.wi, k ∉ (R i).ids
  b : ∀ k ∈ (R j).e.wi, k ∉ (R i).e.wi
  c : ∀ k ∈ (R i).e.wi, k ∉ (R j).ids
theorem isNil_eq {l : List Nat} (h : isNil l = true) : l = [] := by cases l <;> simp [isNil] at h; rfl
theorem clashFree_spec {bf : Nat} {R : Nat → Rec} {j : Nat} {accs : List Acc} (h : clashFree bf (R j).ids (R j).e.wi (!isNil (R j).e.stale) accs = true) {i : Nat} (hi : ⟨i, (R i).ids, (R i).e.wi, !isNil (R i).e.stale⟩ ∈ accs) : bf.testBit i = true ∨ Clash R i j := by
  have := List.all_eq_true.1 h _ hi
  simp only [Bool.or_eq_true, Bool.and_eq_true, Bool.not_not] at this
  rcases this with h1 | ⟨⟨⟨⟨h1, h2⟩, h3⟩, h4⟩, h5⟩
  · exact .inl h1
  · exact .inr ⟨isNil_eq h2, isNil_eq h1, disj_spec h3, disj_spec h4, disj_spec h5⟩
theorem runs_full {R : Nat → Rec} {σ0 : St} : ∀ {l : List Oper} {i : Nat} {σ : St} {accs : List Acc} {recs : List Rec} {σ' : St}, Runs P T bs true ops base i l σ accs recs σ' → (∀ m r, recs[m]? = some r → R (i + m) = r) → (∀ m o, l[m]? = some o → ops[i + m]? = some o) →
    σ = stc ops R σ0 (fun _ => true) i → (∀ j, j < i → (R j).on = true → ⟨j, (R j).ids, (R j).e.wi, !isNil (R j).e.stale⟩ ∈ accs) →
    σ' = stc ops R σ0 (fun _ => true) (i + l.length) ∧ ∀ m o, l[m]? = some o → StepOk P T ops (base + 8 * (i + m)) o (stc ops R σ0 (fun _ => true) (i + m)) (R (i + m)) ∧ ((R (i + m)).on = true → ∀ j, j < i + m → (R j).on = true → (bs.getD (i + m) 0).testBit j = true ∨ Clash R j (i + m))
  | [], i, σ, accs, recs, σ', h, _, _, hs, _ => by
    cases h with
    | nil => exact ⟨hs, fun m o hm => by simp at hm⟩
  | o :: l, i, σ, accs, recs, σ', h, hrec, hl, hs, hacc => by
    cases h with
    | cons _ _ _ _ _ _ R0 recs h1 h2 h3 =>
      have hRi : R i = R0 := hrec 0 R0 rfl
      have hoi : ops[i]? = some o := hl 0 o rfl
      have hdst : dstOf ops i = o.dst := by unfold dstOf; rw [hoi]; rfl
      have hs' : σ.app o.dst R0.e = stc ops R σ0 (fun _ => true) (i + 1) := by
        show _ = if true = true then appI ops R i (stc ops R σ0 (fun _ => true) i) else _
        rw [if_pos rfl, ← hs, appI, hRi, hdst]
      obtain ⟨a1, a2⟩ := runs_full (R := R) (σ0 := σ0) h3 (fun m r hm => by
        have := hrec (m + 1) r (by simpa using hm)
        rw [show i + 1 + m = i + (m + 1) by omega]; exact this) (fun m o' hm => by
        have := hl (m + 1) o' (by simpa using hm)
        rw [show i + 1 + m = i + (m + 1) by omega]; exact this) hs' (fun j hj hon => by
        by_cases hji : j = i
        · subst hji
          rw [hRi] at hon ⊢
          rw [if_pos hon]; simp
        · have := hacc j (by omega) hon
          split
          · exact List.mem_cons_of_mem _ this
          · exact this)
      refine ⟨by rw [a1]; congr 1; simp; omega, fun m o' hm => ?_⟩
      cases m with
      | zero =>
        simp at hm; subst hm
        simp only [Nat.add_zero]
        rw [hRi, ← hs]
        refine ⟨h1, fun hon j hj hjon => ?_⟩
        have hc := h2 rfl hon
        rw [← hRi] at hc
        exact clashFree_spec hc (hacc j hj hjon)
      | succ m =>
        have := a2 m o' (by simpa using hm)
        rw [show i + 1 + m = i + (m + 1) by omega] at this
        exact this
end
end Go.Proofs.YtjfigkikhmffpaaGreatDoorAm

/-! Operations that do not meet may change places. -/
namespace Go.Proofs.YtjfigkikhmffpaaGreatDoorAm
open Go RowKit
def looks (ops : Array Oper) (o : Oper) : List Tmp :=
  ((opnds o.op).filterMap fun | .tmp t => some t | _ => none) ++ (match o.guard with | some (g, _) => ((ops[g]?).bind (·.dst)).toList | none => [])
section
variable {P : Program} {C : Cx} {M : Mm} {σ σ' : St} {a a' : Act} {w w' : World} {o : Oper} {e : Eff} {v : Value} {x : SV} {T : FuncId → Option ASpec} {ops : Array Oper} {base fr : Nat} {bs : Array Nat} {drawn : Bool} {R : Nat → Rec} {i j : Nat} {l : List Nat}
variable [Glb P]
theorem looks_tmp {t : Tmp} (h : Operand.tmp t ∈ opnds o.op) : t ∈ looks ops o := List.mem_append_left _ (List.mem_filterMap.2 ⟨_, h, rfl⟩)
theorem looks_guard {g : Nat} {b : Bool} {d : Tmp} (h : o.guard = some (g, b)) (hd : (ops[g]?).bind (·.dst) = some d) : d ∈ looks ops o := by
  refine List.mem_append_right _ ?_
  rw [h]; simp only [hd]; simp
theorem gslot_congr (hs : ∀ t ∈ looks ops o, σ'.slots.getD t .junk = σ.slots.getD t .junk) : gslot ops σ' o = gslot ops σ o := by
  unfold gslot
  cases hg : o.guard with
  | none => rfl
  | some g =>
    obtain ⟨j, pol⟩ := g
    simp only
    cases hd : (ops[j]?).bind (·.dst) with
    | none => rfl
    | some d => simp only; rw [hs d (looks_guard hg hd)]
theorem evs_congr (hs : ∀ t ∈ looks ops o, σ'.slots.getD t .junk = σ.slots.getD t .junk) : (opnds o.op).map σ'.ev = (opnds o.op).map σ.ev := by
  refine List.map_congr_left fun y hy => ?_
  cases y with
  | tmp t => exact hs t (looks_tmp hy)
  | _ => rfl
theorem restrict_congr (h : ∀ id ∈ l, σ'.oh id = σ.oh id) : restrict σ'.oh l = restrict σ.oh l := by
  funext i
  unfold restrict
  cases hb : memB l i
  · rfl
  · exact h i (memB_mem.1 hb)
theorem stepOk_congr {R : Rec} (hs : ∀ t ∈ looks ops o, σ'.slots.getD t .junk = σ.slots.getD t .junk) (hh : ∀ id ∈ R.ids, σ'.oh id = σ.oh id) : StepOk P T ops fr o σ' R ↔ StepOk P T ops fr o σ R := by
  unfold StepOk
  rw [gslot_congr hs, evs_congr hs, restrict_congr hh]
theorem freshen_sc {st : List Nat} {v : Value} : freshen st x = .sc v ↔ x = .sc v := by
  cases x with
  | ref id p => cases p <;> simp [freshen]; cases memB st id <;> simp
  | view id p => cases p <;> simp [freshen]; cases memB st id <;> simp
  | ptr id p => simp [freshen]; cases memB st id <;> simp; cases twoIdx p <;> simp
  | _ => simp [freshen]
theorem freshen_undef {st : List Nat} : freshen st x = .undef ↔ x = .undef := by
  cases x with
  | ref id p => cases p <;> simp [freshen]; cases memB st id <;> simp
  | view id p => cases p <;> simp [freshen]; cases memB st id <;> simp
  | ptr id p => simp [freshen]; cases memB st id <;> simp; cases twoIdx p <;> simp
  | _ => simp [freshen]
theorem goff_congr {st : List Nat} (hs : ∀ t ∈ looks ops o, σ'.slots.getD t .junk = freshen st (σ.slots.getD t .junk)) : GOff (gslot ops σ' o) ↔ GOff (gslot ops σ o) := by
  unfold gslot
  cases hg : o.guard with
  | none => exact Iff.rfl
  | some g =>
    obtain ⟨j, pol⟩ := g
    simp only
    cases hd : (ops[j]?).bind (·.dst) with
    | none => exact Iff.rfl
    | some d => simp only [GOff]; rw [hs d (looks_guard hg hd), freshen_sc, freshen_undef]
theorem fold_out {ws : List (Nat × Own)} {h : Nat → Own} {i : Nat} (hi : ∀ x ∈ ws, x.1 ≠ i) : ws.foldl (fun h x => upd h x.1 x.2) h i = h i := by
  induction ws generalizing h with
  | nil => rfl
  | cons x r ih =>
    rw [List.foldl_cons, ih (fun y hy => hi y (List.mem_cons_of_mem _ hy))]
    simp [upd, beq_ne (Ne.symm (hi x (by simp)))]
theorem fold_base {ws : List (Nat × Own)} {h h' : Nat → Own} {i : Nat} (hi : h i = h' i) : ws.foldl (fun h x => upd h x.1 x.2) h i = ws.foldl (fun h x => upd h x.1 x.2) h' i := by
  induction ws generalizing h h' with
  | nil => exact hi
  | cons x r ih =>
    rw [List.foldl_cons, List.foldl_cons]
    refine ih ?_
    simp only [upd]
    cases Nat.beq i x.1
    · exact hi
    · rfl
theorem newOh_out (ht : Told e) (hs : e.stale = []) {h : Nat → Own} {i : Nat} (hi : i ∉ e.wi) : newOh h e i = h i := by
  unfold newOh
  rw [hs, freshenOwn_nil]
  exact fold_out (fun x hx he => hi (he ▸ ht x hx))
theorem newOh_base {h h' : Nat → Own} {i : Nat} (hi : h i = h' i) : newOh h e i = newOh h' e i := by
  unfold newOh
  rw [fold_base hi]
theorem set_getD {d : Option Tmp} {s : List SV} {y : SV} {t : Tmp} (h : d ≠ some t) : (setD s d y).getD t .junk = s.getD t .junk := by
  unfold setD
  cases d with
  | none => rfl
  | some d =>
    have : d ≠ t := fun he => h (by rw [he])
    simp [List.getD_eq_getElem?_getD, this]
theorem freshenL_set {st : List Nat} : ∀ (s : List SV) (d : Nat) (y : SV), freshenL st (s.set d y) = (freshenL st s).set d (freshen st y)
  | [], d, y => by simp [freshenL]
  | x :: r, 0, y => by simp [freshenL]
  | x :: r, d + 1, y => by simp [freshenL, freshenL_set r d y]
def Quiet (r : Rec) : Prop := r.on = false ∧ r.ids = [] ∧ r.e = ⟨.undef, [], [], []⟩
structure Apart (ops : Array Oper) (oi oj : Oper) : Prop where
  a : ∀ d, oi.dst = some d → d ∉ looks ops oj
  b : ∀ d, oi.dst = some d → oj.dst ≠ some d
  c : ∀ d, oj.dst = some d → d ∉ looks ops oi
structure Ind (ops : Array Oper) (R : Nat → Rec) (i j : Nat) : Prop where
  ap : ∀ oi oj, ops[i]? = some oi → ops[j]? = some oj → Apart ops oi oj
  cl : Clash R i j ∨ Quiet (R i) ∨ Quiet (R j)
theorem Ind.symm (h : Ind ops R i j) : Ind ops R j i where
  ap := fun oj oi hj hi => ⟨(h.ap oi oj hi hj).c, fun d hd hd' => (h.ap oi oj hi hj).b d hd' hd, (h.ap oi oj hi hj).a⟩
  cl := by
    rcases h.cl with h | h | h
    · exact .inl ⟨h.sj, h.si, h.c, fun k hk hk' => h.b k hk' hk, h.a⟩
    · exact .inr (.inr h)
    · exact .inr (.inl h)
theorem dstOf_eq {oi : Oper} (hi : ops[i]? = some oi) : dstOf ops i = oi.dst := by unfold dstOf; rw [hi]; rfl
/-- What j does, i does not see. -/
theorem stepOk_app {oi oj : Oper} (hi : ops[i]? = some oi) (hj : ops[j]? = some oj) (h : Ind ops R i j) (ht : Told (R j).e) : StepOk P T ops fr oi (appI ops R j σ) (R i) ↔ StepOk P T ops fr oi σ (R i) := by
  have hap := h.ap oi oj hi hj
  have hslots : ∀ t ∈ looks ops oi, (appI ops R j σ).slots.getD t .junk = freshen (R j).e.stale (σ.slots.getD t .junk) := fun t ht => by
    unfold appI
    rw [app_slots, freshenL_getD, dstOf_eq hj, set_getD (fun hd => hap.c t hd ht)]
  have key : (R j).e.stale = [] → (∀ k ∈ (R j).e.wi, k ∉ (R i).ids) → (StepOk P T ops fr oi (appI ops R j σ) (R i) ↔ StepOk P T ops fr oi σ (R i)) := fun hst hw => by
    refine stepOk_congr (fun t ht => ?_) (fun id hid => ?_)
    · rw [hslots t ht, hst, freshen_nil]
    · unfold appI
      rw [app_oh]
      exact newOh_out ht hst (fun hk => hw id hk hid)
  rcases h.cl with h | h | h
  · exact key h.sj h.a
  · unfold StepOk
    have hon : ¬ (R i).on = true := by rw [h.1]; simp
    rw [goff_congr hslots]
    constructor <;> rintro (⟨h1, _⟩ | h1)
    · exact absurd h1 hon
    · exact .inr h1
    · exact absurd h1 hon
    · exact .inr h1
  · exact key (by rw [h.2.2]) (by rw [h.2.2]; simp)
theorem St.ext' {σ σ' : St} (h1 : σ.slots = σ'.slots) (h2 : σ.oh = σ'.oh) : σ = σ' := by
  cases σ; cases σ'; simp at h1 h2; rw [h1, h2]
theorem app_quiet_slots {st : List Nat} {di dj : Option Tmp} {s : List SV} {y : SV} (hd : ∀ d, di = some d → dj ≠ some d) :
    setD (freshenL st (setD s dj y)) di .undef = freshenL st (setD (setD s di .undef) dj y) := by
  unfold setD
  cases di with
  | none => cases dj <;> rfl
  | some d =>
    have hu : freshen st .undef = .undef := rfl
    cases dj with
    | none => simp only; rw [freshenL_set, hu]
    | some d' =>
      have hne : d ≠ d' := fun he => hd d rfl (by rw [he])
      simp only
      rw [freshenL_set, freshenL_set, freshenL_set, hu, List.set_comm _ _ (Ne.symm hne)]
theorem app_quiet {di dj : Option Tmp} (e : Eff) (hd : ∀ d, di = some d → dj ≠ some d) : (σ.app dj e).app di ⟨.undef, [], [], []⟩ = (σ.app di ⟨.undef, [], [], []⟩).app dj e := by
  refine St.ext' ?_ ?_
  · rw [app_slots, app_slots, app_slots, app_slots]
    simp only [freshenL_nil]
    exact app_quiet_slots hd
  · rw [app_oh, app_oh, app_oh, app_oh]
    have : ∀ h, newOh h (⟨.undef, [], [], []⟩ : Eff) = h := fun h => funext fun i => freshenOwn_nil _
    rw [this, this]
/-- Two that do not meet. -/
theorem app_comm {oi oj : Oper} (hi : ops[i]? = some oi) (hj : ops[j]? = some oj) (h : Ind ops R i j) (hti : Told (R i).e) (htj : Told (R j).e) : appI ops R i (appI ops R j σ) = appI ops R j (appI ops R i σ) := by
  have hap := h.ap oi oj hi hj
  unfold appI
  rw [dstOf_eq hi, dstOf_eq hj]
  rcases h.cl with h | h | h
  · refine St.ext' ?_ ?_
    · rw [app_slots, app_slots, app_slots, app_slots, h.si, h.sj]
      simp only [freshenL_nil, setD]
      cases hdi : oi.dst with
      | none => rfl
      | some d =>
        cases hdj : oj.dst with
        | none => rfl
        | some d' =>
          have hne : d ≠ d' := fun he => hap.b d hdi (by rw [hdj, he])
          exact List.set_comm _ _ (Ne.symm hne)
    · rw [app_oh, app_oh, app_oh, app_oh]
      funext id
      by_cases h1 : id ∈ (R j).e.wi
      · have h2 : id ∉ (R i).e.wi := h.b id h1
        rw [newOh_out hti h.si h2]
        exact newOh_base (newOh_out hti h.si h2).symm
      · rw [newOh_out htj h.sj h1]
        exact newOh_base (newOh_out htj h.sj h1)
  · rw [h.2.2]; exact app_quiet _ hap.b
  · rw [h.2.2]; exact (app_quiet _ (fun d hd hd' => hap.b d hd' hd)).symm
end
end Go.Proofs.YtjfigkikhmffpaaGreatDoorAm

/-! A region whose order is drawn. -/
namespace Go.Proofs.YtjfigkikhmffpaaGreatDoorAm
open Go RowKit
def apartB (ops : Array Oper) (oi oj : Oper) : Bool :=
  (match oi.dst with
   | some d => !memB (looks ops oj) d && (match oj.dst with | some d' => !Nat.beq d' d | none => true)
   | none => true) &&
  (match oj.dst with
   | some d => !memB (looks ops oi) d
   | none => true)
def slotsRow (ops : Array Oper) (bj : Nat) (oj : Oper) : Nat → List Oper → Bool
  | _, [] => true
  | i, oi :: r => (bj.testBit i || apartB ops oi oj) && slotsRow ops bj oj (i + 1) r
def edgesOk (j : Nat) (o : Oper) : Bool := o.after.toList.all fun e => !Region.binds .any e || Nat.blt e.on j
def regOkL (ops : Array Oper) (bs : Array Nat) : Nat → List Oper → Bool
  | _, [] => true
  | j, o :: r => edgesOk j o && slotsRow ops (bs.getD j 0) o 0 (ops.toList.take j) && regOkL ops bs (j + 1) r
/-- A drawn region's own check: its edges lead back, and what is not ordered keeps to its own temporaries. -/
def regOk (ops : Array Oper) : Bool := regOkL ops (Region.before ops) 0 ops.toList
section
variable {ops : Array Oper} {bs : Array Nat}
theorem slotsRow_spec {bj : Nat} {oj : Oper} : ∀ {l : List Oper} {i : Nat}, slotsRow ops bj oj i l = true → ∀ m o, l[m]? = some o → bj.testBit (i + m) = true ∨ apartB ops o oj = true
  | [], i, _, m, o, hm => by simp at hm
  | x :: r, i, h, m, o, hm => by
    simp only [slotsRow, Bool.and_eq_true, Bool.or_eq_true] at h
    cases m with
    | zero => simp at hm; subst hm; exact h.1
    | succ m =>
      have := slotsRow_spec h.2 m o (by simpa using hm)
      rwa [show i + 1 + m = i + (m + 1) by omega] at this
theorem regOkL_spec : ∀ {l : List Oper} {j : Nat}, regOkL ops bs j l = true → ∀ m o, l[m]? = some o → edgesOk (j + m) o = true ∧ slotsRow ops (bs.getD (j + m) 0) o 0 (ops.toList.take (j + m)) = true
  | [], i, _, m, o, hm => by simp at hm
  | x :: r, j, h, m, o, hm => by
    simp only [regOkL, Bool.and_eq_true] at h
    cases m with
    | zero => simp at hm; subst hm; exact h.1
    | succ m =>
      have := regOkL_spec h.2 m o (by simpa using hm)
      rwa [show j + 1 + m = j + (m + 1) by omega] at this
theorem apartB_spec {oi oj : Oper} (h : apartB ops oi oj = true) : Apart ops oi oj := by
  simp only [apartB, Bool.and_eq_true] at h
  have no : ∀ {l : List Nat} {d : Nat}, (!memB l d) = true → d ∉ l := fun hl hd => by rw [memB_mem.2 hd] at hl; cases hl
  refine ⟨fun d hd => ?_, fun d hd hd' => ?_, fun d hd => ?_⟩
  · have h1 := h.1; rw [hd] at h1; simp only [Bool.and_eq_true] at h1; exact no h1.1
  · have h1 := h.1; rw [hd] at h1; simp only [Bool.and_eq_true] at h1
    have h2 := h1.2; rw [hd'] at h2; simp at h2
  · have h1 := h.2; rw [hd] at h1; exact no h1
/-! ### Which come before -/
def oneB (look : Nat → Nat) (o : Oper) : Nat := o.after.foldl (fun s e => if Region.binds .any e then s ||| 2 ^ e.on ||| look e.on else s) 0
def befL (acc : Array Nat) (l : List Oper) : Array Nat := l.foldl (fun acc o => acc.push (oneB (fun i => acc.getD i 0) o)) acc
theorem before_eq (ops : Array Oper) : Region.before ops = befL #[] ops.toList := by
  unfold Region.before befL oneB
  rw [← Array.foldl_toList]
theorem befL_size : ∀ (l : List Oper) (acc : Array Nat), (befL acc l).size = acc.size + l.length
  | [], acc => rfl
  | o :: l, acc => by
    show (befL (acc.push _) l).size = _
    rw [befL_size]; simp; omega
theorem befL_old : ∀ (l : List Oper) (acc : Array Nat) (i : Nat), i < acc.size → (befL acc l).getD i 0 = acc.getD i 0
  | [], acc, i, _ => rfl
  | o :: l, acc, i, hi => by
    show (befL (acc.push _) l).getD i 0 = _
    rw [befL_old l _ i (by simp; omega)]
    simp [Array.getD_eq_getD_getElem?, Array.getElem?_push, Nat.ne_of_lt hi]
theorem fold_testBit (look : Nat → Nat) (b : Nat) : ∀ (l : List Edge) (s : Nat), ((l.foldl (fun s e => if Region.binds .any e then s ||| 2 ^ e.on ||| look e.on else s) s).testBit b = true) ↔ (s.testBit b = true ∨ ∃ e ∈ l, Region.binds .any e = true ∧ (b = e.on ∨ (look e.on).testBit b = true))
  | [], s => by simp
  | e :: l, s => by
    rw [List.foldl_cons, fold_testBit look b l]
    by_cases hb : Region.binds .any e = true
    · rw [if_pos hb, Nat.testBit_or, Nat.testBit_or, Nat.testBit_two_pow]
      simp only [Bool.or_eq_true, decide_eq_true_eq, List.mem_cons, exists_eq_or_imp, hb, true_and]
      constructor
      · rintro (((h | h) | h) | h)
        · exact .inl h
        · exact .inr (.inl (.inl h.symm))
        · exact .inr (.inl (.inr h))
        · exact .inr (.inr h)
      · rintro (h | (h | h) | h)
        · exact .inl (.inl (.inl h))
        · exact .inl (.inl (.inr h.symm))
        · exact .inl (.inr h)
        · exact .inr h
    · rw [if_neg hb]
      simp [hb]
theorem oneB_testBit (look : Nat → Nat) (o : Oper) (b : Nat) : (oneB look o).testBit b = true ↔ ∃ e ∈ o.after, Region.binds .any e = true ∧ (b = e.on ∨ (look e.on).testBit b = true) := by
  unfold oneB
  rw [← Array.foldl_toList, fold_testBit]
  simp
theorem befL_new : ∀ (l : List Oper) (acc : Array Nat) (m : Nat) (o : Oper), l[m]? = some o → edgesOk (acc.size + m) o = true → ∀ b, ((befL acc l).getD (acc.size + m) 0).testBit b = true ↔ ∃ e ∈ o.after, Region.binds .any e = true ∧ (b = e.on ∨ ((befL acc l).getD e.on 0).testBit b = true)
  | [], acc, m, o, hm, _, b => by simp at hm
  | x :: l, acc, 0, o, hm, he, b => by
    simp at hm; subst hm
    have h1 : (befL acc (x :: l)).getD (acc.size + 0) 0 = oneB (fun i => acc.getD i 0) x := by
      show (befL (acc.push _) l).getD acc.size 0 = _
      rw [befL_old l _ _ (by simp)]
      simp [Array.getD_eq_getD_getElem?]
    rw [h1, oneB_testBit]
    have hlt : ∀ e ∈ x.after, Region.binds .any e = true → e.on < acc.size := fun e hm hb => by
      have := List.all_eq_true.1 he e (by simpa using hm)
      simpa [hb, Nat.blt_eq] using this
    constructor <;> rintro ⟨e, e1, e2, e3⟩ <;> refine ⟨e, e1, e2, e3.imp id (fun h => ?_)⟩
    · rw [befL_old _ _ _ (hlt e e1 e2)]; exact h
    · rw [befL_old _ _ _ (hlt e e1 e2)] at h; exact h
  | x :: l, acc, m + 1, o, hm, he, b => by
    have hs : (acc.push (oneB (fun i => acc.getD i 0) x)).size + m = acc.size + (m + 1) := by simp; omega
    have := befL_new l (acc.push (oneB (fun i => acc.getD i 0) x)) m o (by simpa using hm) (by rw [hs]; exact he) b
    rw [hs] at this
    exact this
/-- The numbers of those before j, edge by edge. -/
theorem before_spec (h : regOk ops = true) {j : Nat} {o : Oper} (ho : ops[j]? = some o) (b : Nat) : ((Region.before ops).getD j 0).testBit b = true ↔ ∃ e ∈ o.after, Region.binds .any e = true ∧ (b = e.on ∨ ((Region.before ops).getD e.on 0).testBit b = true) := by
  have he := (regOkL_spec h j o (by simpa using ho)).1
  have := befL_new ops.toList #[] j o (by simpa using ho) (by simpa using he) b
  rw [before_eq]
  simpa using this
theorem edge_lt (h : regOk ops = true) {j : Nat} {o : Oper} (ho : ops[j]? = some o) {e : Edge} (he : e ∈ o.after) (hb : Region.binds .any e = true) : e.on < j := by
  have h1 := (regOkL_spec h j o (by simpa using ho)).1
  have := List.all_eq_true.1 h1 e (by simpa using he)
  simpa [hb, Nat.blt_eq] using this
theorem before_size : (Region.before ops).size = ops.size := by rw [before_eq, befL_size]; simp
theorem before_lt (h : regOk ops = true) : ∀ {j b : Nat}, ((Region.before ops).getD j 0).testBit b = true → b < j := by
  intro j
  induction j using Nat.strongRecOn with
  | ind j ih =>
    intro b hb
    cases ho : ops[j]? with
    | none =>
      have hj : ops.size ≤ j := by simpa using ho
      have : (Region.before ops).getD j 0 = 0 := by
        rw [Array.getD_eq_getD_getElem?, Array.getElem?_eq_none (by rw [before_size]; exact hj)]; rfl
      rw [this] at hb; simp at hb
    | some o =>
      obtain ⟨e, e1, e2, e3⟩ := (before_spec h ho b).1 hb
      have hlt := edge_lt h ho e1 e2
      rcases e3 with rfl | e3
      · exact hlt
      · exact Nat.lt_trans (ih _ hlt e3) hlt
end
end Go.Proofs.YtjfigkikhmffpaaGreatDoorAm

/-! A region whose order is drawn: every order ends alike. -/
namespace Go.Proofs.YtjfigkikhmffpaaGreatDoorAm
open Go RowKit
section
variable {P : Program} {C : Cx} {σ : St} {a : Act} {w : World} {T : FuncId → Option ASpec} {ops : Array Oper} {base : Nat} {R : Nat → Rec} {c : Nat → Bool} {i j m : Nat}
variable [Glb P]
def ins (c : Nat → Bool) (i : Nat) : Nat → Bool := fun k => c k || Nat.beq k i
theorem ins_self : ins c i i = true := by simp [ins]
theorem ins_ne (h : j ≠ i) : ins c i j = c j := by simp [ins, beq_ne h]
theorem ins_of (h : c j = true) : ins c i j = true := by simp [ins, h]
/-- What is known of a run of the region in its text's order. -/
structure Reg (P : Program) [Glb P] (T : FuncId → Option ASpec) (ops : Array Oper) (base : Nat) (R : Nat → Rec) (σ : St) (bf : Nat → Nat) : Prop where
  step : ∀ i o, ops[i]? = some o → StepOk P T ops (base + 8 * i) o (stc ops R σ (fun _ => true) i) (R i)
  ind : ∀ i j, i < j → j < ops.size → (bf j).testBit i = true ∨ Ind ops R i j
  told : ∀ i, i < ops.size → Told (R i).e
  bf : ∀ i j, (bf j).testBit i = true → i < j
variable {bf : Nat → Nat}
def Closed (bf : Nat → Nat) (c : Nat → Bool) : Prop := ∀ i j, c j = true → (bf j).testBit i = true → c i = true
theorem stc_congr {c' : Nat → Bool} : ∀ {m : Nat}, (∀ k, k < m → c k = c' k) → stc ops R σ c m = stc ops R σ c' m
  | 0, _ => rfl
  | m + 1, h => by
    have ih := stc_congr (m := m) (fun k hk => h k (by omega))
    simp only [stc, h m (by omega), ih]
theorem op_of (h : i < ops.size) : ∃ o, ops[i]? = some o := ⟨ops[i], by simp [h]⟩
theorem stc_ins (hr : Reg P T ops base R σ bf) (hc : Closed bf c) (hi : c i = false) : ∀ {m : Nat}, i < m → m ≤ ops.size → stc ops R σ (ins c i) m = appI ops R i (stc ops R σ c m)
  | 0, h, _ => by omega
  | m + 1, h, hm => by
    by_cases he : m = i
    · subst he
      have h1 : stc ops R σ (ins c m) m = stc ops R σ c m := stc_congr (fun k hk => ins_ne (by omega))
      simp only [stc, ins_self, if_true, hi, Bool.false_eq_true, if_false, h1]
    · have ih := stc_ins hr hc hi (m := m) (by omega) (by omega)
      simp only [stc, ins_ne he]
      cases hcm : c m
      · simpa using ih
      · simp only [if_true]
        rw [ih]
        rcases hr.ind i m (by omega) (by omega) with hb | hb
        · rw [hc i m hcm hb] at hi; cases hi
        · obtain ⟨oi, hoi⟩ := op_of (ops := ops) (i := i) (by omega)
          obtain ⟨om, hom⟩ := op_of (ops := ops) (i := m) (by omega)
          exact (app_comm hoi hom hb (hr.told i (by omega)) (hr.told m (by omega))).symm
theorem closed_ins (hc : Closed bf c) (hi : ∀ j, (bf i).testBit j = true → c j = true) : Closed bf (ins c i) := fun a b hb hab => by
  by_cases he : b = i
  · subst he; exact ins_of (hi a hab)
  · rw [ins_ne he] at hb; exact ins_of (hc a b hb hab)
/-- What stands before i in the picked ones: enough. -/
theorem stepOk_below (hr : Reg P T ops base R σ bf) {o : Oper} (ho : ops[i]? = some o) : ∀ (d k : Nat), d + k = i → ∀ c, Closed bf c → (∀ j, j < k → c j = true) → (∀ j, (bf i).testBit j = true → c j = true) → StepOk P T ops (base + 8 * i) o (stc ops R σ c i) (R i)
  | 0, k, hk, c, hc, hb, hp => by
    have : stc ops R σ c i = stc ops R σ (fun _ => true) i := stc_congr (fun j hj => hb j (by omega))
    rw [this]; exact hr.step i o ho
  | d + 1, k, hk, c, hc, hb, hp => by
    have hsz : i < ops.size := (Array.getElem?_eq_some_iff.1 ho).1
    cases hck : c k
    · have hcl : Closed bf (ins c k) := closed_ins hc (fun j hj => hb j (hr.bf j k hj))
      have := stepOk_below hr ho d (k + 1) (by omega) (ins c k) hcl (fun j hj => by
        by_cases he : j = k
        · subst he; exact ins_self
        · exact ins_of (hb j (by omega))) (fun j hj => ins_of (hp j hj))
      rw [stc_ins hr hc hck (by omega) (by omega)] at this
      rcases hr.ind k i (by omega) hsz with h | h
      · rw [hp k h] at hck; cases hck
      · obtain ⟨ok, hok⟩ := op_of (ops := ops) (i := k) (by omega)
        exact (stepOk_app ho hok h.symm (hr.told k (by omega))).1 this
    · exact stepOk_below hr ho d (k + 1) (by omega) c hc (fun j hj => by
        by_cases he : j = k
        · subst he; exact hck
        · exact hb j (by omega)) hp
theorem stepOk_all (hr : Reg P T ops base R σ bf) {o : Oper} (ho : ops[i]? = some o) (hc : Closed bf c) (hi : c i = false) (hp : ∀ j, (bf i).testBit j = true → c j = true) : ∀ {m : Nat}, i ≤ m → m ≤ ops.size → StepOk P T ops (base + 8 * i) o (stc ops R σ c m) (R i)
  | 0, h, _ => by
    have : i = 0 := by omega
    subst this
    exact stepOk_below hr ho 0 0 rfl c hc (fun j hj => by omega) hp
  | m + 1, h, hm => by
    by_cases he : i = m + 1
    · subst he
      exact stepOk_below hr ho (m + 1) 0 (by omega) c hc (fun j hj => by omega) hp
    · have ih := stepOk_all hr ho hc hi hp (m := m) (by omega) (by omega)
      simp only [stc]
      cases hcm : c m
      · simpa using ih
      · simp only [if_true]
        have hne : i ≠ m := fun h => by rw [h, hcm] at hi; cases hi
        rcases hr.ind i m (by omega) (by omega) with hb | hb
        · rw [hc i m hcm hb] at hi; cases hi
        · obtain ⟨om, hom⟩ := op_of (ops := ops) (i := m) (by omega)
          exact (stepOk_app ho hom hb (hr.told m (by omega))).2 ih
/-! How many are left -/
def cnt (c : Nat → Bool) : Nat → Nat
  | 0 => 0
  | m + 1 => cnt c m + (if c m = true then 0 else 1)
theorem cnt_ins_below : ∀ {m : Nat}, m ≤ i → cnt (ins c i) m = cnt c m
  | 0, _ => rfl
  | m + 1, h => by simp only [cnt, cnt_ins_below (m := m) (by omega), ins_ne (c := c) (show m ≠ i by omega)]
theorem cnt_ins (hi : c i = false) : ∀ {m : Nat}, i < m → cnt (ins c i) m + 1 = cnt c m
  | 0, h => by omega
  | m + 1, h => by
    by_cases he : m = i
    · subst he
      simp only [cnt, cnt_ins_below (c := c) (Nat.le_refl m), ins_self, hi]; simp
    · have := cnt_ins hi (m := m) (by omega)
      simp only [cnt, ins_ne (c := c) he]; omega
theorem cnt_zero : ∀ {m : Nat}, cnt c m = 0 → ∀ j, j < m → c j = true
  | 0, _, j, h => by omega
  | m + 1, h, j, hj => by
    simp only [cnt] at h
    by_cases he : j = m
    · subst he
      cases hc : c j
      · rw [hc] at h; simp at h
      · rfl
    · exact cnt_zero (m := m) (by omega) j (by omega)
def lst (listed : Array Bool) : Nat → Bool := fun i => listed.getD i false
theorem lst_set {listed : Array Bool} (hi : i < listed.size) : lst (listed.setIfInBounds i true) = ins (lst listed) i := by
  funext k
  unfold lst ins
  by_cases hk : k = i
  · subst hk; simp [hi]
  · rw [getD_set_ne false (Ne.symm hk), beq_ne hk]; simp
theorem any_sound {Q : Exit → Act → World → Prop} (hT : ∀ f s, T f = some s → FnOk P f s) (hok : regOk ops = true) (hr : Reg P T ops base R σ (fun j => (Region.before ops).getD j 0)) (hQ : ∀ a w, Rel P C (stc ops R σ (fun _ => true) ops.size) a w → Q .normal a w) :
    ∀ (fuel : Nat) (listed : Array Bool) (a : Act) (w : World), listed.size = ops.size → Closed (fun j => (Region.before ops).getD j 0) (lst listed) → cnt (lst listed) ops.size ≤ fuel → Rel P C (stc ops R σ (lst listed) ops.size) a w → wpAny P .any ops Q fuel listed a w := by
  intro fuel
  have done : ∀ (listed : Array Bool) (a : Act) (w : World), (∀ j, j < ops.size → lst listed j = true) → Rel P C (stc ops R σ (lst listed) ops.size) a w → Q .normal a w := fun listed a w hall hR => by
    rw [stc_congr (c' := fun _ => true) (fun k hk => hall k hk)] at hR
    exact hQ a w hR
  have noReady : ∀ (listed : Array Bool), listed.size = ops.size → (∀ j, j < ops.size → lst listed j = true) → Region.ready .any ops listed = [] := fun listed hsz hall => by
    cases hrd : Region.ready .any ops listed with
    | nil => rfl
    | cons x xs =>
      have hx : x ∈ Region.ready .any ops listed := by rw [hrd]; simp
      obtain ⟨h1, o, ho, _⟩ := mem_ready.1 hx
      have hlt : x < ops.size := (Array.getElem?_eq_some_iff.1 ho).1
      have := hall x hlt
      unfold lst at this
      rw [Array.getD_eq_getD_getElem?] at h1 this
      have hl : listed[x]? = some (listed[x]'(by omega)) := by simp [hsz, hlt]
      rw [hl] at h1 this
      simp at h1 this
      rw [this] at h1; cases h1
  induction fuel with
  | zero =>
    intro listed a w hsz hc hn hR
    have hall := cnt_zero (c := lst listed) (m := ops.size) (by omega)
    exact ⟨noReady listed hsz hall, done listed a w hall hR⟩
  | succ fuel ih =>
    intro listed a w hsz hc hn hR
    refine ⟨fun hnil => done listed a w ?_ hR, fun i hi => ?_⟩
    · intro j
      induction j using Nat.strongRecOn with
      | ind j ihj =>
        intro hj
        cases hcj : lst listed j
        · exfalso
          obtain ⟨o, ho⟩ := op_of hj
          have : j ∈ Region.ready .any ops listed := by
            refine mem_ready.2 ⟨?_, o, ho, fun e he hb => ihj e.on (edge_lt hok ho he hb) (Nat.lt_trans (edge_lt hok ho he hb) hj)⟩
            have hl : listed[j]? = some (listed[j]'(by omega)) := by simp [hsz, hj]
            unfold lst at hcj
            rw [Array.getD_eq_getD_getElem?, hl] at hcj ⊢
            simpa using hcj
          rw [hnil] at this; cases this
        · rfl
    · obtain ⟨h1, o, ho, hafter⟩ := mem_ready.1 hi
      have hlt : i < ops.size := (Array.getElem?_eq_some_iff.1 ho).1
      have hci : lst listed i = false := by
        have hl : listed[i]? = some (listed[i]'(by omega)) := by simp [hsz, hlt]
        unfold lst
        rw [Array.getD_eq_getD_getElem?, hl] at h1 ⊢
        simpa using h1
      have hp : ∀ j, ((Region.before ops).getD i 0).testBit j = true → lst listed j = true := fun j hj => by
        obtain ⟨e, e1, e2, e3⟩ := (before_spec hok ho j).1 hj
        have h2 : lst listed e.on = true := hafter e e1 e2
        rcases e3 with rfl | e3
        · exact h2
        · exact hc j e.on h2 e3
      refine step_sound hT ho hR (stepOk_all hr ho hc hci hp (Nat.le_of_lt hlt) (Nat.le_refl _)) (fun a' w' hR' => ?_)
      have hset := lst_set (listed := listed) (i := i) (by omega)
      refine ih _ a' w' (by simpa using hsz) (by rw [hset]; exact closed_ins hc hp) ?_ ?_
      · rw [hset]
        have := cnt_ins (c := lst listed) hci (m := ops.size) hlt
        omega
      · rw [hset, stc_ins hr hc hci hlt (Nat.le_refl _)]
        unfold appI
        rw [dstOf_eq ho]; exact hR'
theorem rel_drawn {n : Nat} (h : Rel P C σ a w) : Rel P C σ a { w with drawn := n } := by
  obtain ⟨G, hG⟩ := h
  have ht : Trans P C ⟨w, σ.oh, G⟩ ⟨{ w with drawn := n }, σ.oh, G⟩ [] := by
    have hm := hG.at_.mem
    exact ⟨⟨hm.kept.os, hm.kept.tape, hm.kept.output, hm.kept.size, hm.kept.block⟩, Nat.le_refl _, fun id => .same (freshenOwn_nil _).symm rfl rfl (fun _ _ => rfl), hm.nd, hm.dj, hm.own, hG.at_.pins, fun k _ h => ⟨h, rfl⟩, ⟨rfl, rfl⟩⟩
  refine ⟨G, ht.at hG.at_, hG.defers, hG.size, fun t => ?_⟩
  have := (hG.slot t).step hG.at_.mem ht
  rwa [freshen_nil] at this
theorem region_drawn {α : Type} {Q : Exit → Act → World → Prop} (hmix : P.follows .mixedOrders = true) (hT : ∀ f s, T f = some s → FnOk P f s) {k : St → Option α} {r : α} {id : Nat} (hok : regOk ops = true) (h : runOps P T (Region.before ops) true ops base 0 ops.toList σ [] k = some r) (hR : Rel P C σ a w)
    (hQ : ∀ σ' a' w', k σ' = some r → Rel P C σ' a' w' → Q .normal a' w') : (Code.region id ops true).wp P Q a w := by
  obtain ⟨recs, σ', h1, h2⟩ := runOps_runs h
  let R : Nat → Rec := fun i => recs.getD i ⟨⟨.undef, [], [], []⟩, [], false⟩
  obtain ⟨hs, hall⟩ := runs_full (R := R) (σ0 := σ) h1 (fun m r hm => by simp [R, List.getD_eq_getElem?_getD, hm]) (fun m o hm => by simpa using hm) rfl (fun j hj => by omega)
  simp only [Nat.zero_add, Array.length_toList] at hs hall
  have hquiet : ∀ i o, ops[i]? = some o → (R i).on = true ∨ Quiet (R i) := fun i o ho => by
    rcases (hall i o (by simpa using ho)).1 with ⟨h, _⟩ | ⟨h1, _, h2, h3⟩
    · exact .inl h
    · exact .inr ⟨h1, h2, h3⟩
  have hr : Reg P T ops base R σ (fun j => (Region.before ops).getD j 0) := by
    refine ⟨fun i o ho => (hall i o (by simpa using ho)).1, fun i j hij hj => ?_, fun i hi => ?_, fun i j h => before_lt hok h⟩
    · obtain ⟨oi, hoi⟩ := op_of (ops := ops) (i := i) (by omega)
      obtain ⟨oj, hoj⟩ := op_of (ops := ops) (i := j) hj
      have hrow := (regOkL_spec hok j oj (by simpa using hoj)).2
      simp only [Nat.zero_add] at hrow
      have := slotsRow_spec hrow i oi (by simp [List.getElem?_take, hij]; simpa using hoi)
      simp only [Nat.zero_add] at this
      rcases this with hb | hap
      · exact .inl hb
      · have hap' : ∀ oi' oj', ops[i]? = some oi' → ops[j]? = some oj' → Apart ops oi' oj' := fun oi' oj' h1 h2 => by
          rw [hoi] at h1; rw [hoj] at h2
          injection h1 with h1; injection h2 with h2; subst h1 h2
          exact apartB_spec hap
        rcases hquiet i oi hoi with hi | hi
        · rcases hquiet j oj hoj with hj' | hj'
          · rcases (hall j oj (by simpa using hoj)).2 hj' i hij hi with hb | hcl
            · exact .inl hb
            · exact .inr ⟨hap', .inl hcl⟩
          · exact .inr ⟨hap', .inr (.inr hj')⟩
        · exact .inr ⟨hap', .inr (.inl hi)⟩
    · obtain ⟨o, ho⟩ := op_of hi
      rcases (hall i o (by simpa using ho)).1 with ⟨_, _, _, h⟩ | ⟨_, _, _, h⟩
      · exact told h
      · rw [h]; exact told_nil
  refine wp_region_any hmix ?_
  have hnone : lst (Array.replicate ops.size false) = fun _ => false := by
    funext k; unfold lst; simp [Array.getD_eq_getD_getElem?, Array.getElem?_replicate]; split <;> rfl
  have hst : ∀ m, stc ops R σ (fun _ => false) m = σ := fun m => by
    induction m with
    | zero => rfl
    | succ m ih => simp only [stc, Bool.false_eq_true, if_false, ih]
  have hcn : ∀ m, cnt (fun _ => false) m = m := fun m => by
    induction m with
    | zero => rfl
    | succ m ih => simp [cnt, ih]
  refine any_sound hT hok hr (fun a w hR' => hQ σ' a w h2 (by rw [hs]; exact hR')) ops.size _ a _ (by simp) ?_ ?_ ?_
  · rw [hnone]; exact fun _ _ h => by cases h
  · rw [hnone, hcn]; exact Nat.le_refl _
  · rw [hnone, hst]; exact rel_drawn hR
end
end Go.Proofs.YtjfigkikhmffpaaGreatDoorAm

/-! A loop's head: numbers anew, slots forgotten, nil slices owned. -/
namespace Go.Proofs.YtjfigkikhmffpaaGreatDoorAm
open Go RowKit
section
variable {P : Program} {C : Cx} {σ : St} {a : Act} {w : World} {M M' : Mm} {l : List Nat} {x : SV} {v : Value} {t : TypeId}
variable [Glb P]
/-- Numbers anew: j is what l has at j. -/
structure Ren (M M' : Mm) (l : List Nat) : Prop where
  w : M'.w = M.w
  nd : l.Nodup
  oh : ∀ j i, l[j]? = some i → M'.oh j = renOwn l (M.oh i) ∧ M'.G.hnd j = M.G.hnd i ∧ M'.G.ft j = M.G.ft i
  out : ∀ j, l[j]? = none → M'.oh j = .free ∧ M'.G.ft j = []
  gh : M'.G.cv = M.G.cv ∧ M'.G.rok = M.G.rok
theorem Ren.ok (h : Ren M M' l) {k : Nat} (hk : M.ok k) : M'.ok k := by
  refine ⟨by rw [h.gh.2]; exact hk.1, fun j hj => ?_⟩
  cases hl : l[j]? with
  | none => rw [(h.out j hl).2] at hj; cases hj
  | some i => rw [(h.oh j i hl).2.2] at hj; exact hk.2 i hj
theorem find_get : ∀ {l : List Nat} {i : Nat}, memB l i = true → l[l.findIdx (Nat.beq i)]? = some i
  | [], i, h => by simp [memB] at h
  | a :: r, i, h => by
    rw [List.findIdx_cons]
    cases hb : Nat.beq i a
    · simp only [cond_false]
      have : memB r i = true := by simpa [memB, hb] using h
      simpa using find_get this
    · simp only [cond_true]
      have : i = a := Nat.beq_eq.mp hb
      simp [this]
theorem Leaf.ren (h : Ren M M' l) (hl : Leaf P M x v) : YtjfigkikhmffpaaGreatDoorAm.ren l x = .junk ∨ Leaf P M' (YtjfigkikhmffpaaGreatDoorAm.ren l x) v := by
  have hw := h.w
  cases x with
  | junk => exact hl.elim
  | undef => exact hl.elim
  | agg => exact hl.elim
  | arr => exact hl.elim
  | tup => exact hl.elim
  | nil => exact .inr hl
  | sc => exact .inr hl
  | err => exact .inr hl
  | ro t pv =>
    obtain ⟨n, e, h1, h2⟩ := hl
    exact .inr ⟨n, e, h1, by rw [hw]; exact h2.mono (fun k hk => h.ok hk)⟩
  | con g t pv =>
    obtain ⟨h0, n, e, h1, h2⟩ := hl
    exact .inr ⟨h0.trans (congrFun h.gh.1 g).symm, n, e, h1, by rw [hw]; exact h2.mono (fun k hk => h.ok hk)⟩
  | rop t pv =>
    obtain ⟨a, n, cs, h1, h2, h3, h4, h5⟩ := hl
    refine .inr ⟨a, n, cs, h1, h.ok h2, ?_, ?_, ?_⟩
    · rw [hw]; exact h3
    · rw [hw]; exact h4
    · rw [hw]; exact h5.mono (fun k hk => h.ok hk)
  | ref id p =>
    simp only [YtjfigkikhmffpaaGreatDoorAm.ren]
    cases hb : memB l id
    · exact .inl rfl
    · refine .inr ?_
      obtain ⟨h1, h2, h3⟩ := h.oh _ _ (find_get hb)
      simp only [cond_true, Leaf] at hl ⊢
      rw [h1, h2, hw]
      cases ho : M.oh id <;> rw [ho] at hl <;> simp only [renOwn] <;> exact hl
  | view id p lo hi =>
    simp only [YtjfigkikhmffpaaGreatDoorAm.ren]
    cases hb : memB l id
    · exact .inl rfl
    · refine .inr ?_
      obtain ⟨h1, h2, h3⟩ := h.oh _ _ (find_get hb)
      simp only [cond_true, Leaf] at hl ⊢
      rw [h1, h2, hw]
      cases ho : M.oh id <;> rw [ho] at hl <;> simp only [renOwn] <;> exact hl
  | ptr id p =>
    simp only [YtjfigkikhmffpaaGreatDoorAm.ren]
    cases hb : memB l id
    · exact .inl rfl
    · refine .inr ?_
      obtain ⟨h1, h2, h3⟩ := h.oh _ _ (find_get hb)
      simp only [cond_true, Leaf] at hl ⊢
      rw [h1, h2, hw]
      cases ho : M.oh id <;> rw [ho] at hl <;> simp only [renOwn] <;> exact hl
mutual
theorem SVc.ren (h : Ren M M' l) : ∀ {t : TypeId} {x : SV} {cs : List Value}, SVc P M t x cs → SVc P M' t (YtjfigkikhmffpaaGreatDoorAm.ren l x) cs
  | t, _, cs, .junk _ _ h1 h2 => .junk t cs h1 h2
  | t, x, _, .leaf _ _ v h1 h2 h3 h4 => by
    rcases h1.ren h with h5 | h5
    · rw [h5]; exact .junk _ _ (by simp [h3]) (by simpa using h2)
    · exact .leaf t _ v h5 h2 h3 h4
  | t, _, cs, .agg _ u fs xs _ h1 h2 h3 => .agg t u fs _ cs h1 h2 (SVcL.ren h h3)
  | t, _, cs, .arr _ u k pv _ h1 h2 => .arr t u k pv cs h1 h2
theorem SVcL.ren (h : Ren M M' l) : ∀ {ts : List TypeId} {xs : List SV} {cs : List Value}, SVcL P M ts xs cs → SVcL P M' ts (renL l xs) cs
  | _, _, _, .nil => .nil
  | _, _, _, .cons t ts x xs c cs h1 h2 => .cons t ts _ _ c cs (SVc.ren h h1) (SVcL.ren h h2)
end
theorem renL_get : ∀ {xs : List SV} {i : Nat} {y : SV}, (renL l xs)[i]? = some y → ∃ x, xs[i]? = some x ∧ y = ren l x
  | [], i, y, h => by simp [renL] at h
  | x :: r, 0, y, h => ⟨x, rfl, by simpa [renL] using h.symm⟩
  | x :: r, i + 1, y, h => by
    obtain ⟨z, h1, h2⟩ := renL_get (xs := r) (i := i) (by simpa [renL] using h)
    exact ⟨z, by simpa using h1, h2⟩
theorem renL_length : ∀ {xs : List SV}, (renL l xs).length = xs.length
  | [] => rfl
  | x :: r => by simp [renL, renL_length (xs := r)]
theorem renL_getD (s : List SV) (t : Nat) : (renL l s).getD t .junk = ren l (s.getD t .junk) := by
  rw [List.getD_eq_getElem?_getD, List.getD_eq_getElem?_getD]
  induction s generalizing t with
  | nil => simp [renL, ren]
  | cons x r ih => cases t with
    | zero => simp [renL]
    | succ t => simpa [renL] using ih t
theorem Slot.ren (h : Ren M M' l) (hs : Slot P M x v) : Slot P M' (YtjfigkikhmffpaaGreatDoorAm.ren l x) v := by
  induction hs with
  | junk v => exact .junk v
  | undef => exact .undef
  | leaf x v h1 h2 =>
    rcases h1.ren h with h5 | h5
    · rw [h5]; exact .junk v
    · exact .leaf _ v h5 h2
  | agg u xs cs h1 => exact .agg u _ cs (h1.ren h)
  | arr u k pv cs h1 => exact .arr u k pv cs h1
  | tup xs vs h1 h2 ih =>
    refine .tup _ vs (by rw [renL_length]; exact h1) (fun i y v hy hv => ?_)
    obtain ⟨x, h3, h4⟩ := renL_get hy
    subst h4
    exact ih i x v h3 hv
theorem renOwn_row {o : Own} {t : TypeId} {pv : PV} (h : renOwn l o = .row t pv) : o = .row t pv := by cases o <;> simp [renOwn] at h ⊢; exact h
theorem renOwn_free {o : Own} (h : renOwn l o = .free) : o = .free := by cases o <;> simp [renOwn] at h ⊢
theorem Ren.at (h : Ren M M' l) (hm : At P C M) (hpin : ∀ j, j < C.pins → l[j]? = some j) : At P C M' where
  glb := hm.glb
  ap := hm.ap
  mem := {
    kept := by rw [h.w]; exact hm.mem.kept
    row := fun j t pv hj => by
      cases hl : l[j]? with
      | none => rw [(h.out j hl).1] at hj; cases hj
      | some i =>
        obtain ⟨h1, h2, h3⟩ := h.oh j i hl
        rw [h1] at hj
        rw [h.w, h2, h3]
        exact hm.mem.row i t pv (renOwn_row hj)
    box := fun j t sv hj => by
      cases hl : l[j]? with
      | none => rw [(h.out j hl).1] at hj; cases hj
      | some i =>
        obtain ⟨h1, h2, h3⟩ := h.oh j i hl
        rw [h1] at hj
        cases ho : M.oh i with
        | box u sv0 =>
          rw [ho] at hj; simp only [renOwn] at hj
          injection hj with e1 e2; subst e1 e2
          obtain ⟨g, cs, a1, a2, a3, a4⟩ := hm.mem.box i _ _ ho
          exact ⟨g, cs, by rw [h2]; exact a1, by rw [h3]; exact a2, by rw [h.w]; exact a3, a4.ren h⟩
        | _ => rw [ho] at hj; simp [renOwn] at hj
    none_ := fun j hr hb => by
      cases hl : l[j]? with
      | none => exact (h.out j hl).2
      | some i =>
        obtain ⟨h1, h2, h3⟩ := h.oh j i hl
        rw [h3]
        refine hm.mem.none_ i (fun t pv ho => ?_) (fun t sv ho => ?_)
        · rw [ho] at h1; exact hr _ _ h1
        · rw [ho] at h1; exact hb _ _ h1
    nd := fun j => by
      cases hl : l[j]? with
      | none => rw [(h.out j hl).2]; simp
      | some i => rw [(h.oh j i hl).2.2]; exact hm.mem.nd i
    dj := fun i j hij k hk hk' => by
      cases hi : l[i]? with
      | none => rw [(h.out i hi).2] at hk; cases hk
      | some i' =>
        cases hj : l[j]? with
        | none => rw [(h.out j hj).2] at hk'; cases hk'
        | some j' =>
          rw [(h.oh i i' hi).2.2] at hk
          rw [(h.oh j j' hj).2.2] at hk'
          refine hm.mem.dj i' j' (fun he => ?_) k hk hk'
          subst he
          exact hij ((List.getElem?_inj (List.getElem?_eq_some_iff.1 hi).1 h.nd).1 (hi.trans hj.symm))
    own := fun j k hk => by
      cases hl : l[j]? with
      | none => rw [(h.out j hl).2] at hk; cases hk
      | some i => rw [(h.oh j i hl).2.2] at hk; exact hm.mem.own i k hk
    pin := fun j hj hr => by
      have hl := hpin j hj
      obtain ⟨h1, h2, h3⟩ := h.oh j j hl
      rw [h2]
      refine hm.mem.pin j hj ?_
      rcases hr with ⟨t, pv, hr⟩ | ⟨t, sv, hr⟩
      · rw [h1] at hr; exact .inl ⟨t, pv, renOwn_row hr⟩
      · rw [h1] at hr
        cases ho : M.oh j with
        | box u sv0 => exact .inr ⟨u, sv0, rfl⟩
        | _ => rw [ho] at hr; simp [renOwn] at hr
    new := hm.mem.new
    gh := ⟨h.gh.1.trans hm.mem.gh.1, h.gh.2.trans hm.mem.gh.2⟩ }
  pins := fun j hj hf => by
    have hl := hpin j hj
    rw [(h.oh j j hl).1] at hf
    exact hm.pins j hj (renOwn_free hf)
theorem addIds_nodup : ∀ {r l : List Nat}, l.Nodup → (addIds l r).Nodup
  | [], l, h => h
  | a :: r, l, h => by
    unfold addIds
    cases hb : memB l a
    · refine addIds_nodup ?_
      simp only [cond_false]
      refine List.nodup_append.2 ⟨h, by simp, fun x hx y hy he => ?_⟩
      simp at hy; subst hy; subst he
      rw [memB_mem.2 hx] at hb; cases hb
    · exact addIds_nodup h
theorem addIds_prefix : ∀ {r l : List Nat} {j i : Nat}, l[j]? = some i → (addIds l r)[j]? = some i
  | [], l, j, i, h => h
  | a :: r, l, j, i, h => by
    unfold addIds
    refine addIds_prefix ?_
    cases memB l a
    · simp only [cond_false]
      rw [List.getElem?_append_left (List.getElem?_eq_some_iff.1 h).1]; exact h
    · exact h
theorem rel_gc (h : Rel P C σ a w) : Rel P C (σ.gc C.pins) a w := by
  obtain ⟨G, hG⟩ := h
  obtain ⟨l0, hl0⟩ : ∃ l0, addIds (List.range C.pins) (idsOfL σ.slots) = l0 := ⟨_, rfl⟩
  obtain ⟨l1, hl1⟩ : ∃ l1, addIds l0 (boxIds σ.oh l0) = l1 := ⟨_, rfl⟩
  obtain ⟨l2, hl2⟩ : ∃ l2, addIds l1 (boxIds σ.oh l1) = l2 := ⟨_, rfl⟩
  have hgc : σ.gc C.pins = ⟨renL l2 σ.slots, ohOf (l2.map fun i => renOwn l2 (σ.oh i))⟩ := by rw [← hl2, ← hl1, ← hl0]; rfl
  rw [hgc]
  have hnd : l2.Nodup := by rw [← hl2, ← hl1, ← hl0]; exact addIds_nodup (addIds_nodup (addIds_nodup List.nodup_range))
  have hpre : ∀ j, j < C.pins → l2[j]? = some j := fun j hj => by
    rw [← hl2, ← hl1, ← hl0]; exact addIds_prefix (addIds_prefix (addIds_prefix (by simp [hj])))
  let G' : Gh := ⟨fun j => match l2[j]? with | some i => G.hnd i | none => undef, fun j => match l2[j]? with | some i => G.ft i | none => [], G.cv, G.rok⟩
  have hren : Ren ⟨w, σ.oh, G⟩ ⟨w, ohOf (l2.map fun i => renOwn l2 (σ.oh i)), G'⟩ l2 := by
    refine ⟨rfl, hnd, fun j i hj => ⟨?_, ?_, ?_⟩, fun j hj => ⟨?_, ?_⟩, ⟨rfl, rfl⟩⟩
    · simp [ohOf, List.getD_eq_getElem?_getD, hj]
    · simp only [G', hj]
    · simp only [G', hj]
    · simp [ohOf, List.getD_eq_getElem?_getD, hj]
    · simp only [G', hj]
  refine ⟨G', hren.at hG.at_ hpre, hG.defers, by simp only [renL_length]; exact hG.size, fun t => ?_⟩
  simp only [renL_getD]
  exact (hG.slot t).ren hren
theorem rel_junk (h : Rel P C σ a w) (i : Nat) : Rel P C { σ with slots := σ.slots.set i .junk } a w := by
  obtain ⟨G, hG⟩ := h
  refine ⟨G, hG.at_, hG.defers, by simpa using hG.size, fun t => ?_⟩
  by_cases ht : i = t
  · subst ht
    by_cases hl : i < σ.slots.length
    · have : (σ.slots.set i .junk).getD i .junk = .junk := by simp [List.getD_eq_getElem?_getD, hl]
      simp only [this]; exact .junk _
    · have : (σ.slots.set i .junk).getD i .junk = .junk := by simp [List.getD_eq_getElem?_getD, Nat.le_of_not_lt hl]
      simp only [this]; exact .junk _
  · have : (σ.slots.set i .junk).getD t .junk = σ.slots.getD t .junk := by simp [List.getD_eq_getElem?_getD, ht]
    simp only [this]; exact hG.slot t
theorem rel_forget : ∀ {l : List Nat} {σ : St}, Rel P C σ a w → Rel P C (σ.forget l) a w
  | [], σ, h => h
  | i :: l, σ, h => rel_forget (l := l) (rel_junk h i)
theorem rel_own1 (h : Rel P C σ a w) (i : Nat) (t : TypeId) (id : Nat) : Rel P C (σ.own1 P i t id) a w := by
  unfold St.own1
  split
  case h_2 => exact h
  rename_i el hs ho ht
  obtain ⟨G, hG⟩ := h
  have hsl := hG.slot i
  rw [hs] at hsl
  obtain ⟨hl, h1⟩ := hsl.leaf_inv (by simp) (by simp) (by simp) (by simp) (by simp)
  have hv : a.tmps.getD i undef = .slice none 0 0 := hl
  have hL : ((([(id, (⟨.row t (.list []), .slice none 0 0, []⟩ : Chg))] : List (Nat × Chg)).map (·.1)).Nodup) := by simp
  have how : Ow P w 1 t (.list []) [.slice none 0 0] [] := by
    unfold Ow
    simp only [ht]
    refine ⟨_, [], [], [], rfl, rfl, ?_, rfl, rfl, rfl⟩
    exact ⟨by simp, .inl ⟨rfl, by simp⟩⟩
  have hok : ∀ x ∈ ([(id, (⟨.row t (.list []), .slice none 0 0, []⟩ : Chg))] : List (Nat × Chg)), ChgOk P ⟨w, σ.oh, G⟩ w [] x.1 x.2 := fun x hx => by
    rw [List.mem_singleton.1 hx]
    exact .inr (.inr ⟨t, .list [], rfl, ⟨1, how⟩, .inl ho⟩)
  have hT := trans_chg (w' := w) (stale := []) hG.at_ hL hok ⟨rfl, rfl, rfl, Nat.le_refl _, fun _ _ _ => rfl⟩ (by simp) (by simp) .junk []
  have hnew := newOh_chg hL hok .junk []
  simp only [List.map_cons, List.map_nil] at hT hnew
  have hoh : newOh σ.oh ⟨.junk, [(id, .row t (.list []))], [], []⟩ = upd σ.oh id (.row t (.list [])) := by
    funext k; unfold newOh; rw [freshenOwn_nil]; rfl
  rw [hoh] at hT
  refine ⟨_, hT.at hG.at_, hG.defers, by simpa using hG.size, fun k => ?_⟩
  by_cases hk : i = k
  · subst hk
    by_cases hlt : i < σ.slots.length
    · have : (σ.slots.set i (.ref id [])).getD i .junk = .ref id [] := by simp [List.getD_eq_getElem?_getD, hlt]
      simp only [this, hv]
      refine .leaf _ _ ?_ rfl
      simp only [Leaf, upd]
      simp only [Nat.beq_refl, cond_true]
      exact .inl ⟨rfl, by simp [Gh.chg, lookC]⟩
    · have : (σ.slots.set i (.ref id [])).getD i .junk = .junk := by simp [List.getD_eq_getElem?_getD, Nat.le_of_not_lt hlt]
      simp only [this]; exact .junk _
  · have : (σ.slots.set i (.ref id [])).getD k .junk = σ.slots.getD k .junk := by simp [List.getD_eq_getElem?_getD, hk]
    simp only [this]
    have := (hG.slot k).step hG.at_.mem hT
    rwa [freshen_nil] at this
theorem rel_ownAll : ∀ {l : List (Nat × TypeId)} {id : Nat} {σ : St}, Rel P C σ a w → Rel P C (ownAll P l id σ) a w
  | [], _, σ, h => h
  | (i, t) :: l, id, σ, h => rel_ownAll (l := l) (rel_own1 h i t id)
theorem rel_frzW (hfz : ∀ k, C.may k → C.rok k) (h : Rel P C σ a w) (i : Nat) (t : TypeId) (id : Nat) (x : SV) (hx : σ.slots.getD i .junk = x) (hid : idsOf x = [id]) : Rel P C (σ.frzW P i t id x) a w := by
  unfold St.frzW
  split
  case h_2 => exact h
  rename_i el u q pv ht ho hc
  obtain ⟨G, hG⟩ := h
  have hsl := hG.slot i
  rw [hx] at hsl
  have hL : ((([(id, (⟨.dead, undef, []⟩ : Chg))] : List (Nat × Chg)).map (·.1)).Nodup) := by simp
  have hok : ∀ x ∈ ([(id, (⟨.dead, undef, []⟩ : Chg))] : List (Nat × Chg)), ChgOk P ⟨w, σ.oh, G⟩ w [] x.1 x.2 := fun x hx => by
    rw [List.mem_singleton.1 hx]
    exact .inl ⟨rfl, rfl, by show σ.oh id ≠ .free; rw [ho]; simp⟩
  have hT := trans_chg (w' := w) (stale := []) hG.at_ hL hok ⟨rfl, rfl, rfl, Nat.le_refl _, fun _ _ _ => rfl⟩ (by simp) (by simp) .junk []
  simp only [List.map_cons, List.map_nil] at hT
  have hoh : newOh σ.oh ⟨.junk, [(id, .dead)], [], []⟩ = upd σ.oh id .dead := by
    funext k; unfold newOh; rw [freshenOwn_nil]; rfl
  rw [hoh] at hT
  refine ⟨_, hT.at hG.at_, hG.defers, by simpa using hG.size, fun k => ?_⟩
  by_cases hk : i = k
  · subst hk
    by_cases hlt : i < σ.slots.length
    · have : (σ.slots.set i (.ro t pv)).getD i .junk = .ro t pv := by simp [List.getD_eq_getElem?_getD, hlt]
      simp only [this]
      obtain ⟨A, cap, ps, n, hv, _, _, hr⟩ := cont_slice hG.at_.mem hsl (fun _ _ => rfl) ht hc
      have hone : one (a.tmps.getD i undef) = true := by rw [hv]; rfl
      refine .leaf _ _ ⟨n + 1, el, ht, hr.mono (fun k hk => ?_)⟩ hone
      have hrok : G.rok k ∧ ∀ j, j ≠ id → k ∉ G.ft j := by
        rcases hk with hk | ⟨j, hj, hk⟩
        · exact ⟨hk.1, fun j _ => hk.2 j⟩
        · rw [hid, List.mem_singleton] at hj
          subst hj
          have hmay := hG.at_.mem.own j k hk
          have hrk := hfz k hmay
          have hg : G.rok = C.rok := hG.at_.mem.gh.2
          exact ⟨by rw [hg]; exact hrk, fun i hi hki => hG.at_.mem.dj i j hi k hki hk⟩
      refine ⟨hrok.1, fun j => ?_⟩
      by_cases hj : j = id
      · subst hj
        have : (G.chg [(j, (⟨.dead, undef, []⟩ : Chg))]).ft j = [] := (chg_some (c := ⟨.dead, undef, []⟩) (lookC_of hL (by simp))).2
        rw [this]; simp
      · have : (G.chg [(id, (⟨.dead, undef, []⟩ : Chg))]).ft j = G.ft j := (chg_none (by
          unfold lookC
          have hne : Nat.beq id j = false := beq_ne (fun he => hj he.symm)
          simp only [List.find?_cons, List.find?_nil, hne, Option.map_none])).2
        rw [this]; exact hrok.2 j hj
    · have : (σ.slots.set i (.ro t pv)).getD i .junk = .junk := by simp [List.getD_eq_getElem?_getD, Nat.le_of_not_lt hlt]
      simp only [this]; exact .junk _
  · have : (σ.slots.set i (.ro t pv)).getD k .junk = σ.slots.getD k .junk := by simp [List.getD_eq_getElem?_getD, hk]
    simp only [this]
    have := (hG.slot k).step hG.at_.mem hT
    rwa [freshen_nil] at this
theorem rel_frz1 (hfz : ∀ k, C.may k → C.rok k) (h : Rel P C σ a w) (i : Nat) (t : TypeId) : Rel P C (σ.frz1 P i t) a w := by
  unfold St.frz1
  split
  · rename_i id hs; exact rel_frzW hfz h i t id _ hs rfl
  · rename_i id lo hi hs; exact rel_frzW hfz h i t id _ hs rfl
  · exact h
theorem rel_frzAll (hfz : ∀ k, C.may k → C.rok k) : ∀ {l : List (Nat × TypeId)} {σ : St}, Rel P C σ a w → Rel P C (frzAll P l σ) a w
  | [], σ, h => h
  | (i, t) :: l, σ, h => rel_frzAll hfz (l := l) (rel_frz1 hfz h i t)
theorem rel_nz (h : Rel P C σ a w) (z : Nz) (hfz : z.frz = [] ∨ ∀ k, C.may k → C.rok k) : Rel P C (σ.nz P C.pins z) a w := by
  refine rel_gc (rel_ownAll ?_)
  rcases hfz with hz | hz
  · rw [hz]; exact rel_forget h
  · exact rel_frzAll hz (rel_forget h)
end
end Go.Proofs.YtjfigkikhmffpaaGreatDoorAm

/-! The machine runs as the model does. -/
namespace Go.Proofs.YtjfigkikhmffpaaGreatDoorAm
open Go RowKit
/-- Every drawn region passes its check. -/
def codeOk : Code → Bool
  | .region _ ops drawn => !drawn || regOk ops
  | .seq a b => codeOk a && codeOk b
  | .cond _ a b => codeOk a && codeOk b
  | .block _ b => codeOk b
  | .loop b => codeOk b
  | _ => true
def exq : Ex → Exit
  | .normal => .normal
  | .exit id => .exit id
  | .ret => .ret
section
variable {P : Program} {C : Cx} {E : Env}
variable [Glb P]
theorem exec_ok {α : Type} {r : α} (hmix : P.follows .mixedOrders = true) (hT : ∀ f s, E.T f = some s → FnOk P f s) (hp : E.pins = C.pins) (hfz : E.fz = true → ∀ k, C.may k → C.rok k) : ∀ (c : Code), codeOk c = true → ∀ {k : Ex → St → Option α} {σ : St} {a : Act} {w : World} {Q : Exit → Act → World → Prop}, exec P E c σ k = some r → Rel P C σ a w →
    (∀ e σ' a' w', k e σ' = some r → Rel P C σ' a' w' → Q (exq e) a' w') → c.wp P Q a w
  | .skip, _, k, σ, a, w, Q, h, hR, hQ => wp_skip (hQ .normal σ a w h hR)
  | .region id ops drawn, hc, k, σ, a, w, Q, h, hR, hQ => by
    cases drawn
    · exact region_text hT (by simpa [exec] using h) hR (fun σ' a' w' hk hR' => hQ .normal σ' a' w' hk hR')
    · have hok : regOk ops = true := by simpa [codeOk] using hc
      exact region_drawn hmix hT hok (by simpa [exec] using h) hR (fun σ' a' w' hk hR' => hQ .normal σ' a' w' hk hR')
  | .seq x y, hc, k, σ, a, w, Q, h, hR, hQ => by
    simp only [codeOk, Bool.and_eq_true] at hc
    simp only [exec] at h
    refine wp_seq (exec_ok hmix hT hp hfz x hc.1 h hR (fun e σ' a' w' hk hR' => ?_))
    cases e with
    | normal => exact exec_ok hmix hT hp hfz y hc.2 hk hR' hQ
    | exit id => exact hQ (.exit id) σ' a' w' hk hR'
    | ret => exact hQ .ret σ' a' w' hk hR'
  | .cond c x y, hc, k, σ, a, w, Q, h, hR, hQ => by
    simp only [codeOk, Bool.and_eq_true] at hc
    simp only [exec] at h
    split at h
    · rename_i cb hcb
      have he : a.eval c = .bool cb := by
        obtain ⟨G, hG⟩ := hR
        have := hG.ev c
        rw [hcb] at this
        exact this.sc_inv.1
      refine wp_cond he ?_
      split at h
      · rename_i hb; rw [if_pos hb]; exact exec_ok hmix hT hp hfz x hc.1 h hR hQ
      · rename_i hb; rw [if_neg hb]; exact exec_ok hmix hT hp hfz y hc.2 h hR hQ
    · cases h
  | .block id b, hc, k, σ, a, w, Q, h, hR, hQ => by
    simp only [codeOk] at hc
    simp only [exec] at h
    refine wp_block (exec_ok hmix hT hp hfz b hc h hR (fun e σ' a' w' hk hR' => ?_))
    cases e with
    | normal => exact hQ .normal σ' a' w' hk hR'
    | ret => exact hQ .ret σ' a' w' hk hR'
    | exit j =>
      simp only at hk
      cases hb : Nat.beq j id <;> simp only [hb, cond_true, cond_false] at hk
      · have hne := ne_beq hb
        simp only [exq, Exit.inBlock]
        rw [if_neg (by simpa using hne)]
        exact hQ (.exit j) σ' a' w' hk hR'
      · have he : j = id := Nat.beq_eq.mp hb
        simp only [exq, Exit.inBlock]
        rw [if_pos (by simpa using he)]
        exact hQ .normal σ' a' w' hk hR'
  | .loop b, hc, k, σ, a, w, Q, h, hR, hQ => by
    simp only [codeOk] at hc
    simp only [exec] at h
    rw [hp] at h
    have hz : (E.nzAt ((firstRegion b).getD 0)).frz = [] ∨ ∀ k, C.may k → C.rok k := by
      cases hf : E.fz
      · exact .inl (by unfold Env.nzAt; rw [hf]; rfl)
      · exact .inr (hfz hf)
    have key : ∀ (n : Nat) (σ : St) (a : Act) (w : World), loopN P C.pins (E.nzAt ((firstRegion b).getD 0)) (exec P E b) n σ k = some r → Rel P C σ a w → Code.rounds P b Q n a w := by
      intro n
      induction n with
      | zero => intro σ a w h _; simp [loopN] at h
      | succ n ih =>
        intro σ a w h hR
        rw [rounds_succ]
        simp only [loopN] at h
        refine exec_ok hmix hT hp hfz b hc h hR (fun e σ' a' w' hk hR' => ?_)
        cases e with
        | normal => exact ih _ a' w' hk (rel_nz hR' _ hz)
        | exit id => exact hQ (.exit id) σ' a' w' hk hR'
        | ret => exact hQ .ret σ' a' w' hk hR'
    exact wp_loop_rounds E.N (key E.N _ a w h (rel_nz hR _ hz))
  | .exit id, _, k, σ, a, w, Q, h, hR, hQ => wp_exit (hQ (.exit id) σ a w h hR)
  | .ret, _, k, σ, a, w, Q, h, hR, hQ => wp_ret (hQ .ret σ a w h hR)
  | .goto _, _, _, _, _, _, _, h, _, _ => by simp [exec] at h
  | .label _, _, _, _, _, _, _, h, _, _ => by simp [exec] at h
end
end Go.Proofs.YtjfigkikhmffpaaGreatDoorAm

/-! A function's end. -/
namespace Go.Proofs.YtjfigkikhmffpaaGreatDoorAm
open Go RowKit
section
variable {P : Program} {C : Cx} {σ : St} {a : Act} {w w' : World} {M : Mm} {l : List Nat} {x : SV} {v : Value} {t u : TypeId} {G : Gh}
variable [Glb P]
theorem load_box {id : Nat} {sv : SV} (hm : Mem P C M) (hs : Slot P M (.ptr id []) v) (ho : M.oh id = .box u sv) (hal : alike P t u = true) (hf : fits P t sv = true) :
    ∃ ad y, v = .pointer (some ad) ∧ (loadVar t ad).run P M.w = .ok y M.w ∧ Slot P M sv y := by
  obtain ⟨hl, _⟩ := hs.leaf_inv (by simp) (by simp) (by simp) (by simp) (by simp)
  simp only [Leaf, ho] at hl
  obtain ⟨g, o1, t', hd, hv, hpl⟩ := hl
  obtain ⟨ht', rfl⟩ := hpl
  obtain ⟨g', bcs, b1, b2, b3, b4⟩ := hm.box id u sv ho
  rw [hd] at b1; injection b1 with b1; injection b1 with b1; injection b1 with b1
  subst b1
  have htk : tk P t ≠ .bad := by
    cases hs : sv with
    | agg u' xs =>
      rw [hs] at b4
      generalize bcs.toList = bl at b4
      cases b4 with
      | agg _ _ fs _ _ e1 _ _ => rw [alike_tk hal, e1]; simp
      | leaf _ _ _ hlf => exact hlf.elim
    | arr u' k pv =>
      rw [hs] at b4
      generalize bcs.toList = bl at b4
      cases b4 with
      | arr _ _ _ _ _ e1 e2 =>
        obtain ⟨n, e, ps, _, q2, _⟩ := e2
        rw [alike_tk hal, alike_tk e1, q2]; simp
      | leaf _ _ _ hlf => exact hlf.elim
    | _ => exact (fits_good hf (by rw [hs]; simp) (by rw [hs]; simp)).1
  have hsv := svc_alike hal htk b4
  refine ⟨_, valOf P t bcs.toList, hv, ?_, svc_slot hsv⟩
  have hloc : Loc M.w ⟨g, 0, none⟩ bcs.toList := fun q u hq => by
    rw [add_none]
    simpa [World.cell?, b3] using hq
  exact run_loadVar' htk hloc hsv.len
def resultOf (tmps : Array Value) : ResultVar → Sem Value
  | .tmp t => pure (tmps.getD t undef)
  | .cell a t => do loadVar t (← asAddr (tmps.getD a undef))
theorem results_ok (hG : RelG P C σ a w G) : ∀ {rs : List ResultVar} {xs : List SV}, resultSVs P σ rs = some xs → ∃ vs, (rs.mapM (resultOf a.tmps)).run P w = .ok vs w ∧ Slots P ⟨w, σ.oh, G⟩ xs vs
  | [], xs, h => by
    simp [resultSVs] at h; subst h
    exact ⟨[], by simp, trivial⟩
  | .tmp t :: rs, xs, h => by
    simp only [resultSVs] at h
    split at h
    · rename_i ys hy
      injection h with h; subst h
      obtain ⟨vs, h1, h2⟩ := results_ok hG hy
      exact ⟨a.tmps.getD t undef :: vs, by simp [List.mapM_cons, resultOf, Sem.run_bind, h1], hG.ev (.tmp t), h2⟩
    · cases h
  | .cell t ty :: rs, xs, h => by
    simp only [resultSVs] at h
    split at h
    · rename_i id hev
      split at h
      · rename_i u sv ys ho hy
        cases hb : (alike P ty u && fits P ty sv) <;> simp only [hb, cond_true, cond_false] at h
        · cases h
        · simp only [Bool.and_eq_true] at hb
          injection h with h; subst h
          obtain ⟨vs, h1, h2⟩ := results_ok hG hy
          have hs := hG.ev (.tmp t)
          rw [hev] at hs
          obtain ⟨ad, y, e1, e2, e3⟩ := load_box hG.at_.mem hs ho hb.1 hb.2
          have e1' : a.tmps.getD t undef = .pointer (some ad) := e1
          refine ⟨y :: vs, ?_, e3, h2⟩
          simp only [List.mapM_cons, resultOf, Sem.run_bind, e1', asAddr, Sem.run_pure, Result.andThen_ok]
          have e2' : (loadVar ty ad).run P w = .ok y w := e2
          simp [e2', h1]
      · cases h
    · cases h
theorem results_run {fn : Func} {tmps : Array Value} {vs : List Value} (h : (fn.results.toList.mapM (resultOf tmps)).run P w = .ok vs w) : (results fn tmps).run P w = .ok (retVal vs) w := by
  have he : results fn tmps = (do let vs ← fn.results.mapM (resultOf tmps); pure (if h : vs.size = 1 then vs[0] else .tuple vs)) := by
    unfold results
    congr 1
  rw [he, Sem.run_bind, Array.mapM_eq_mapM_toList]
  simp [h]
  match vs with
  | [] => rfl
  | [v] => rfl
  | v :: u :: vs => simp [retVal]
theorem results1_ok (hm : Mem P C M) {rest : List PV} : ∀ {res : List (TypeId × RMode)} {xs : List SV} {vs : List Value} {ps : List PV} {l : List Nat}, Slots P M xs vs → results1 P M.oh res xs = some (ps, l) →
    ResAt P C.rok M.w res (ps ++ rest) vs (l.flatMap M.G.ft) ∧ ps.length = res.length
  | [], [], [], ps, l, _, h => by
    simp [results1] at h
    obtain ⟨rfl, rfl⟩ := h
    exact ⟨⟨rfl, rfl⟩, rfl⟩
  | (t, .val) :: res, x :: xs, v :: vs, ps, l, ⟨hs1, hs2⟩, h => by
    simp only [results1] at h
    split at h
    · rename_i p ps' l' hx hl
      simp at h
      obtain ⟨rfl, rfl⟩ := h
      obtain ⟨h1, h2⟩ := results1_ok hm hs2 hl
      obtain ⟨n, cs, b1, b2⟩ := cont_val hm hs1 (fun _ _ => rfl) hx
      exact ⟨⟨⟨n, cs, b1.mono (fun _ _ => trivial), b2⟩, h1⟩, by simp [h2]⟩
    · cases h
  | (t, .own) :: res, x :: xs, v :: vs, ps, l, ⟨hs1, hs2⟩, h => by
    simp only [results1] at h
    split at h
    · rename_i p l0 ps' l' hx hl
      simp at h
      obtain ⟨rfl, rfl⟩ := h
      obtain ⟨h1, h2⟩ := results1_ok hm hs2 hl
      obtain ⟨b1, _⟩ := take_val hm hs1 (fun _ _ => rfl) hx
      exact ⟨⟨l0.flatMap M.G.ft, l'.flatMap M.G.ft, by simp, b1, h1⟩, by simp [h2]⟩
    · cases h
  | (t, .nown) :: res, x :: xs, v :: vs, ps, l, ⟨hs1, hs2⟩, h => by
    simp only [results1] at h
    split at h
    · rename_i p l0 ps' l' hx hl
      cases hb : (isNilV x || !isE p.items) <;> simp only [hb, cond_true, cond_false] at h
      · cases h
      simp only [Option.some.injEq, Prod.mk.injEq] at h
      obtain ⟨rfl, rfl⟩ := h
      obtain ⟨h1, h2⟩ := results1_ok hm hs2 hl
      obtain ⟨b1, _⟩ := take_val hm hs1 (fun _ _ => rfl) hx
      have hpl : p = .list p.items ∧ (p.items = [] → v = .slice none 0 0) := by
        cases x with
        | nil =>
          have hv : v = .slice none 0 0 := by
            cases hs1 with
            | leaf _ _ g1 _ => exact g1
          unfold takeT at hx
          split at hx
          · injection hx with hx; injection hx with hx _; rw [← hx]; exact ⟨rfl, fun _ => hv⟩
          · cases hx
        | _ =>
          simp only [isNilV, Bool.false_or] at hb
          cases p with
          | list l =>
            cases l with
            | nil => simp [PV.items, isE] at hb
            | cons a r => exact ⟨rfl, fun h => by cases h⟩
          | _ => simp [PV.items, isE] at hb
      refine ⟨⟨l0.flatMap M.G.ft, l'.flatMap M.G.ft, by simp, ?_, hpl.2, h1⟩, by simp [h2]⟩
      show OwV P M.w t (.list p.items) v _
      rw [← hpl.1]; exact b1
    · cases h
  | (t, .box) :: res, x :: xs, v :: vs, ps, l, ⟨hs1, hs2⟩, h => by
    cases x with
    | ptr id p => cases p with
      | cons s r => simp [results1] at h
      | nil =>
        simp only [results1] at h
        split at h
        · rename_i u u' sv ps' l' hu ho hl
          cases hb : (Nat.beq u u' && isNil (idsOf sv)) <;> simp only [hb, cond_true, cond_false] at h
          · cases h
          · simp only [Bool.and_eq_true] at hb
            have hu' : u = u' := Nat.beq_eq.mp hb.1
            subst hu'
            have hno := isNil_nil hb.2
            split at h
            · rename_i p hc
              simp at h
              obtain ⟨rfl, rfl⟩ := h
              obtain ⟨h1, h2⟩ := results1_ok hm hs2 hl
              have hlf := (hs1.leaf_inv (by simp) (by simp) (by simp) (by simp) (by simp)).1
              simp only [Leaf, ho] at hlf
              obtain ⟨g, o, t', e1, e2, e3⟩ := hlf
              obtain ⟨_, rfl⟩ := e3
              obtain ⟨g', bcs, b1, b2, b3, b4⟩ := hm.box id u sv ho
              rw [e1] at b1; injection b1 with b1; injection b1 with b1; injection b1 with b1
              subst b1
              obtain ⟨n, hrd⟩ := cont_svc hm b4 (fun _ _ => rfl) hc
              rw [hno] at hrd
              refine ⟨⟨M.G.ft id, l'.flatMap M.G.ft, u, bcs.toList, n, by simp, hu, ⟨g, bcs, e2, b2, b3, rfl⟩, hrd.mono (fun k hk => ?_), h1⟩, by simp [h2]⟩
              rcases hk with hk | ⟨i, hi, _⟩
              · have := hk.1; rwa [hm.gh.2] at this
              · cases hi
            · cases h
        · cases h
    | _ => simp [results1] at h
  | (_, .box) :: _, [], _, _, _, _, h => by simp [results1] at h
  | (_, .any) :: _, _ :: _, _, _, _, _, h => by simp [results1] at h
  | (_, .any) :: _, [], _, _, _, _, h => by simp [results1] at h
  | (_, .err) :: _, _ :: _, _, _, _, _, h => by simp [results1] at h
  | (_, .err) :: _, [], _, _, _, _, h => by simp [results1] at h
  | [], _ :: _, _, _, _, _, h => by simp [results1] at h
  | (_, .val) :: _, [], _, _, _, _, h => by simp [results1] at h
  | (_, .own) :: _, [], _, _, _, _, h => by simp [results1] at h
  | (_, .nown) :: _, [], _, _, _, _, h => by simp [results1] at h
  | _, _ :: _, [], _, _, h, _ => h.elim
  | _, [], _ :: _, _, _, h, _ => h.elim
theorem kflds_le {n m : Nat} (hnm : n ≤ m) : ∀ {fs : List TypeId} {ps : List PV} {co cn : List Value}, (∀ t p a b, KeptSl P n t p a b → KeptSl P m t p a b) → KFlds P (KeptSl P n) fs ps co cn → KFlds P (KeptSl P m) fs ps co cn
  | [], [], _, _, _, h => h
  | t :: ts, p :: ps, _, _, hR, ⟨a, a', b, b', h1, h2, h3, h4, h5⟩ => ⟨a, a', b, b', h1, h2, h3, hR _ _ _ _ h4, kflds_le hnm hR h5⟩
  | [], _ :: _, _, _, _, h => h.elim
  | _ :: _, [], _, _, _, h => h.elim
theorem KeptSl.succ : ∀ {n : Nat} {t : TypeId} {pv : PV} {co cn : List Value}, KeptSl P n t pv co cn → KeptSl P (n + 1) t pv co cn
  | 0, _, _, _, _, h => h.elim
  | n + 1, t, pv, co, cn, h => by
    unfold KeptSl at h ⊢
    cases ht : tk P t <;> simp only [ht] at h ⊢ <;> first | exact h | skip
    obtain ⟨ps, h1, h2⟩ := h
    exact ⟨ps, h1, kflds_le (Nat.le_succ n) (fun _ _ _ _ h => KeptSl.succ h) h2⟩
theorem KeptSl.le {n m : Nat} {t : TypeId} {pv : PV} {co cn : List Value} (hnm : n ≤ m) (h : KeptSl P n t pv co cn) : KeptSl P m t pv co cn := by
  induction hnm with
  | refl => exact h
  | step _ ih => exact ih.succ
theorem con_flat (hm0 : Mem P C M) {t : TypeId} {sv : SV} {pv : PV} {co cn : List Value} (h : SVc P M t sv cn) (hc : contT P M.oh t sv = some pv) (hs : (∀ e, tk P t ≠ .slice e) ∧ ∀ fs, tk P t ≠ .struct fs) : ∃ n, KeptSl P n t pv co cn := by
  obtain ⟨n, hr⟩ := cont_svc hm0 h (fun _ _ => rfl) hc
  refine ⟨1, ?_⟩
  cases n with
  | zero => exact hr.elim
  | succ n =>
    unfold Rd at hr; unfold KeptSl
    cases ht : tk P t <;> simp only [ht] at hr ⊢ <;> first | exact hr | skip
    · exact absurd ht (hs.1 _)
    · exact absurd ht (hs.2 _)
mutual
theorem con_kept (hm0 : Mem P C M) : ∀ {m : Nat} {t : TypeId} {sv : SV} {o : Nat} {pv : PV} {co cn : List Value}, SVc P M t sv cn → conOk P m t sv o = true → contT P M.oh t sv = some pv → co.length = sizeOf P t → (∀ q u, co[q]? = some u → M.G.cv (o + q) = u) → ∃ n, KeptSl P n t pv co cn
  | 0, t, sv, o, pv, co, cn, _, hk, _, _, _ => by simp [conOk] at hk
  | m + 1, t, sv, o, pv, co, cn, h, hk, hc, hl, hcv => by
    unfold conOk at hk
    cases ht : tk P t with
    | slice e =>
      simp only [ht] at hk
      cases sv with
      | con g u q =>
        have hg : g = o := Nat.beq_eq.mp hk
        subst hg
        cases h with
        | leaf _ _ v h1 h2 h3 h4 =>
          refine ⟨1, ?_⟩
          unfold KeptSl
          simp only [ht]
          rw [h3] at hl
          obtain ⟨y, rfl⟩ : ∃ y, co = [y] := by
            cases co with
            | nil => cases hl
            | cons y r => cases r with
              | nil => exact ⟨y, rfl⟩
              | cons => simp at hl
          have := hcv 0 y rfl
          rw [Nat.add_zero] at this
          rw [h1.1, this]
      | _ => simp at hk
    | struct fs =>
      simp only [ht] at hk
      cases sv with
      | agg u xs =>
        cases h with
        | leaf _ _ _ hlf => exact hlf.elim
        | agg _ _ fs' _ _ h1 h2 h3 =>
          rw [ht] at h1; injection h1 with h1; subst h1
          simp only [contT, ht, h2, cond_true] at hc
          cases hcl : contTL P M.oh fs xs with
          | none => rw [hcl] at hc; cases hc
          | some ps =>
            rw [hcl] at hc; injection hc with hc; subst hc
            obtain ⟨n, hn⟩   := conL_kept hm0 h3 hk hcl (by rw [hl, tk_size (by rw [ht]; simp), ht]; rfl) hcv
            exact ⟨n + 1, by unfold KeptSl; simp only [ht]; exact ⟨ps, rfl, hn⟩⟩
      | _ => simp at hk
    | bad =>
      exfalso
      cases h with
      | junk => simp [contT] at hc
      | leaf _ _ v h1 h2 h3 h4 =>
        obtain ⟨n, hr⟩ := cont_leaf hm0 h1 h2 (fun _ _ => rfl) (fun _ _ => h3) hc
        exact hr.good ht
      | agg _ _ fs _ _ h1 => rw [ht] at h1; cases h1
      | arr _ _ _ _ _ e1 e2 =>
        obtain ⟨n, e, ps, _, q2, _⟩ := e2
        rw [alike_tk e1, q2] at ht; cases ht
    | int k => exact con_flat hm0 h hc (by rw [ht]; simp)
    | bool => exact con_flat hm0 h hc (by rw [ht]; simp)
    | str => exact con_flat hm0 h hc (by rw [ht]; simp)
    | other => exact con_flat hm0 h hc (by rw [ht]; simp)
theorem conL_kept (hm0 : Mem P C M) : ∀ {m : Nat} {fs : List TypeId} {xs : List SV} {o : Nat} {ps : List PV} {co cn : List Value}, SVcL P M fs xs cn → conFs (conOk P m) P fs xs o = true → contTL P M.oh fs xs = some ps → co.length = sumSz P fs → (∀ q u, co[q]? = some u → M.G.cv (o + q) = u) → ∃ n, KFlds P (KeptSl P n) fs ps co cn
  | m, [], xs, o, ps, co, cn, h, _, hc, hl, _ => by
    cases h with
    | nil =>
      simp [contTL] at hc; subst hc
      exact ⟨0, List.eq_nil_of_length_eq_zero (by simpa [sumSz] using hl), rfl⟩
  | m, t :: ts, xs, o, ps, co, cn, h, hk, hc, hl, hcv => by
    cases h with
    | cons _ _ x xs c cs h1 h2 =>
      simp only [conFs, Bool.and_eq_true] at hk
      simp only [contTL] at hc
      cases hx : contT P M.oh t x with
      | none => rw [hx] at hc; cases hc
      | some p =>
        cases hr : contTL P M.oh ts xs with
        | none => rw [hx, hr] at hc; cases hc
        | some qs =>
          rw [hx, hr] at hc; injection hc with hc; subst hc
          have hl' : co.length = sizeOf P t + sumSz P ts := by rw [hl]; simp [sumSz]
          obtain ⟨n1, e1⟩ := con_kept hm0 (co := co.take (sizeOf P t)) h1 hk.1 hx (by rw [List.length_take]; omega) (fun q u hq => by
            rw [List.getElem?_take] at hq
            split at hq
            · exact hcv q u hq
            · cases hq)
          obtain ⟨n2, e2⟩ := conL_kept hm0 (co := co.drop (sizeOf P t)) h2 hk.2 hr (by rw [List.length_drop]; omega) (fun q u hq => by
            rw [List.getElem?_drop] at hq
            have := hcv _ u hq
            rwa [show o + sizeOf P t + q = o + (sizeOf P t + q) by omega])
          exact ⟨max n1 n2, co.take (sizeOf P t), co.drop (sizeOf P t), c, cs, (List.take_append_drop _ _).symm, rfl, by rw [List.length_take]; omega, e1.le (Nat.le_max_left _ _), kflds_le (Nat.le_max_right _ _) (fun _ _ _ _ h => h.le (Nat.le_max_right _ _)) e2⟩
end
theorem outMuts_ok (hm : Mem P C M) : ∀ {ts : List (Bool × TypeId)} {L : List Row} {i : Nat} {ms : List PV}, outMuts P M.oh i ts = some ms → L.map (fun r => (r.box, r.t)) = ts → (∀ j r, L[j]? = some r → i + j < C.pins ∧ C.pin (i + j) = r.hd ∧ (r.box = true → r.cs.length = sizeOf P r.t ∧ ∀ q u, r.cs[q]? = some u → C.cv ((i + j) * 4096 + q) = u)) →
    LentAt P M.w L ms ((List.range' i L.length).map M.G.ft)
  | [], [], i, ms, _, _, _ => rfl
  | (b, t) :: ts, r :: L, i, ms, h, ht, hp => by
    simp only [List.map_cons, List.cons.injEq, Prod.mk.injEq] at ht
    obtain ⟨⟨hb, ht1⟩, ht2⟩ := ht
    have hp0 := hp 0 r rfl
    have hrest : ∀ ps, outMuts P M.oh (i + 1) ts = some ps → LentAt P M.w L ps ((List.range' (i + 1) L.length).map M.G.ft) := fun ps hr =>
      outMuts_ok hm hr ht2 (fun j r' hj => by
        have := hp (j + 1) r' (by simpa using hj)
        rwa [show i + 1 + j = i + (j + 1) by omega])
    have hrange : (List.range' i (r :: L).length).map M.G.ft = M.G.ft i :: (List.range' (i + 1) L.length).map M.G.ft := by simp [List.range'_succ]
    rw [hrange]
    cases b with
    | false =>
      simp only [outMuts] at h
      split at h
      · rename_i u pv ps ho hr
        cases hal : alike P t u <;> simp only [hal, cond_true, cond_false] at h
        · cases h
        · injection h with h; subst h
          obtain ⟨n, hn⟩ := hm.row i u pv ho
          have hpin := hm.pin i (by simpa using hp0.1) (.inl ⟨u, pv, ho⟩)
          refine ⟨_, _, rfl, ?_, hrest _ hr⟩
          simp only [LentAt1, hb]
          refine ⟨n, ?_⟩
          rw [ht1, ← hp0.2.1, Nat.add_zero, ← hpin]
          exact hn.alike (alike_symm hal)
      · cases h
    | true =>
      simp only [outMuts] at h
      split at h
      · rename_i u sv ps ho hr
        cases hal : (Nat.beq t u && conOk P 8 t sv (i * 4096)) <;> simp only [hal, cond_true, cond_false] at h
        · cases h
        · simp only [Bool.and_eq_true] at hal
          have hu : t = u := Nat.beq_eq.mp hal.1
          subst hu
          split at h
          · rename_i pv hc
            injection h with h; subst h
            obtain ⟨g, bcs, b1, b2, b3, b4⟩ := hm.box i t sv ho
            have hpin := hm.pin i (by simpa using hp0.1) (.inr ⟨t, sv, ho⟩)
            obtain ⟨q1, q2⟩ := hp0.2.2 hb
            subst ht1
            obtain ⟨n, hn⟩ := con_kept hm b4 hal.2 hc q1 (fun q u hq => by rw [hm.gh.1]; exact q2 q u hq)
            refine ⟨_, _, rfl, ?_, hrest _ hr⟩
            simp only [LentAt1, hb]
            exact ⟨bcs.toList, n, ⟨g, bcs, by rw [← hp0.2.1, Nat.add_zero, ← hpin]; exact b1, b2, b3, rfl⟩, hn⟩
          · cases h
      · cases h
  | [], _ :: _, _, _, _, h, _ => by simp at h
  | _ :: _, [], _, _, _, h, _ => by simp at h
end
end Go.Proofs.YtjfigkikhmffpaaGreatDoorAm

