/- An abstract machine for the loaded code, proved sound, part 4 of 4: no conditions. -/
import Derived.Test.YtjfigkikhmffpaaGreatDoorAm3
import Derived.ProofKit
import Derived.OpenShut
import Derived.ShutString
import Derived.ChangeOld
import Derived.SizedLaws
import Derived.Deep.Slices
import Derived.LaidLaws
import Derived.Handed
import Derived.Shelf.Vars
set_option linter.unusedVariables false
set_option linter.unusedSimpArgs false
set_option linter.unusedSectionVars false
/-! A function's start; and the whole. -/
namespace Go.Proofs.YtjfigkikhmffpaaGreatDoorAm
open Go RowKit
theorem dropRes_append {α β : Type} : ∀ {res : List β} {ps ms : List α}, ps.length = res.length → dropRes res (ps ++ ms) = ms
  | [], [], ms, _ => rfl
  | _ :: res, p :: ps, ms, h => dropRes_append (res := res) (ps := ps) (by simpa using h)
  | [], _ :: _, _, h => by simp at h
  | _ :: _, [], _, h => by simp at h
def lentT (P : Program) : List (TypeId × Mode) → List (Bool × TypeId)
  | [] => []
  | (t, .mut) :: ms => (false, t) :: lentT P ms
  | (t, .box) :: ms => (true, (ptee P t).getD 0) :: lentT P ms
  | (t, .mut2) :: ms => (match tk P t with
    | .struct [t1, t2] => (false, t1) :: (false, t2) :: lentT P ms
    | _ => lentT P ms)
  | (t, .muts) :: ms => leavesT P 8 t ++ lentT P ms
  | _ :: ms => lentT P ms
section
variable {P : Program} {C : Cx} {σ : St} {a : Act} {w w' : World} {M : Mm} {l : List Nat} {x : SV} {v : Value} {t u : TypeId} {G : Gh} {ok : Nat → Prop}
variable [Glb P]
mutual
theorem LendAt.leaves : ∀ {n : Nat} {t : TypeId} {p : PV} {cs : List Value} {L : List Row}, LendAt P w n t p cs L → L.map (fun r => (r.box, r.t)) = leavesT P n t
  | 0, t, p, cs, L, h => h.elim
  | n + 1, t, p, cs, L, h => by
    unfold LendAt at h
    unfold leavesT
    cases ht : tk P t with
    | slice e =>
      simp only [ht] at h ⊢
      obtain ⟨v, r, _, rfl, ⟨h1, h2⟩, _⟩ := h
      simp [h1, h2]
    | struct fs =>
      simp only [ht] at h ⊢
      obtain ⟨ps, rfl, h⟩ := h
      exact LendFs.leaves h
    | int k => simp only [ht] at h ⊢; rw [h.2]; rfl
    | bool => simp only [ht] at h ⊢; rw [h.2]; rfl
    | str => simp only [ht] at h ⊢; rw [h.2]; rfl
    | other => simp only [ht] at h
    | bad => simp only [ht] at h
theorem LendFs.leaves : ∀ {n : Nat} {fs : List TypeId} {ps : List PV} {cs : List Value} {L : List Row}, LendFs (LendAt P w n) fs ps cs L → L.map (fun r => (r.box, r.t)) = fs.flatMap (leavesT P n)
  | n, [], [], cs, L, h => by rw [h.2]; rfl
  | n, t :: ts, p :: ps, cs, _, ⟨c, cs', M, M', _, rfl, h1, h2⟩ => by
    rw [List.map_append, LendAt.leaves h1, LendFs.leaves h2, List.flatMap_cons]
  | n, [], _ :: _, _, _, h => h.elim
  | n, _ :: _, [], _, _, h => h.elim
end
theorem leavesT_no : ∀ {n : Nat} {t : TypeId}, ∀ x ∈ leavesT P n t, x.1 = false
  | 0, t, x, h => by simp [leavesT] at h
  | n + 1, t, x, h => by
    unfold leavesT at h
    cases ht : tk P t <;> simp only [ht] at h
    case slice e => simp at h; rw [h]
    case struct fs =>
      obtain ⟨u, _, hu⟩ := List.mem_flatMap.1 h
      exact leavesT_no x hu
    all_goals cases h
theorem LendAt.noBox {n : Nat} {t : TypeId} {p : PV} {cs : List Value} {L : List Row} (h : LendAt P w n t p cs L) : ∀ r ∈ L, r.box = false := fun r hr => by
  have h1 : (r.box, r.t) ∈ L.map (fun r => (r.box, r.t)) := List.mem_map.2 ⟨r, hr, rfl⟩
  rw [h.leaves] at h1
  exact leavesT_no _ h1
theorem ArgsAt.len : ∀ {ms : List (TypeId × Mode)} {vs : List Value} {ps : List PV} {F : List Nat} {L : List Row}, ArgsAt P ok w ms vs ps F L → ps.length = vs.length ∧ ms.length = vs.length ∧ L.map (fun r => (r.box, r.t)) = lentT P ms
  | [], [], [], _, _, h => by obtain ⟨rfl, rfl⟩ := h; exact ⟨rfl, rfl, rfl⟩
  | (t, .ro) :: ms, v :: vs, p :: ps, F, L, ⟨_, h3⟩ => by have := h3.len; simp [this, lentT]
  | (t, .own) :: ms, v :: vs, p :: ps, F, L, ⟨F1, F2, h1, h2, h3⟩ => by have := h3.len; simp [this, lentT]
  | (t, .mut) :: ms, v :: vs, p :: ps, F, L, ⟨r, L', h1, h2, h3, h4, h5, h6⟩ => by have := h6.len; simp [this, lentT, h1, h2]
  | (t, .box) :: ms, v :: vs, p :: ps, F, L, ⟨r, L', h1, h2, h3, h4, h5, h6⟩ => by have := h6.len; simp [this, lentT, h1, h2]
  | (t, .mut2) :: ms, v :: vs, p :: ps, F, L, ⟨r1, r2, L', t1, t2, a, b, p1, p2, h1, h2, h3, h4, h5, h6, h7, h8, h9⟩ => by have := h9.len; simp [this, lentT, h1, h2, h5]
  | (t, .muts) :: ms, v :: vs, p :: ps, F, _, ⟨M, L', cs, fs, rfl, h2, h3, h4, h5⟩ => by have := h5.len; simp [this, lentT, h3.leaves]
  | (_, .muts) :: _, [], _, _, _, h => h.elim
  | (_, .muts) :: _, _ :: _, [], _, _, h => h.elim
  | (_, .mut2) :: _, [], _, _, _, h => h.elim
  | (_, .mut2) :: _, _ :: _, [], _, _, h => h.elim
  | [], _ :: _, _, _, _, h => h.elim
  | [], [], _ :: _, _, _, h => h.elim
  | (_, .ro) :: _, [], _, _, _, h => h.elim
  | (_, .own) :: _, [], _, _, _, h => h.elim
  | (_, .box) :: _, [], _, _, _, h => h.elim
  | (_, .box) :: _, _ :: _, [], _, _, h => h.elim
  | (_, .mut) :: _, [], _, _, _, h => h.elim
  | (_, .ro) :: _, _ :: _, [], _, _, h => h.elim
  | (_, .own) :: _, _ :: _, [], _, _, h => h.elim
  | (_, .mut) :: _, _ :: _, [], _, _, h => h.elim
theorem ArgsAt.boxes : ∀ {ms : List (TypeId × Mode)} {vs : List Value} {ps : List PV} {F : List Nat} {L : List Row}, ArgsAt P ok w ms vs ps F L → ∀ r ∈ L, r.box = true → r.cs.length = sizeOf P r.t ∧ sizeOf P r.t < 4096
  | [], [], [], _, _, h, r, hr, _ => by obtain ⟨rfl, rfl⟩ := h; cases hr
  | (t, .ro) :: ms, v :: vs, p :: ps, F, L, ⟨_, h3⟩, r, hr, hb => h3.boxes r hr hb
  | (t, .own) :: ms, v :: vs, p :: ps, F, L, ⟨F1, F2, h1, h2, h3⟩, r, hr, hb => h3.boxes r hr hb
  | (t, .mut) :: ms, v :: vs, p :: ps, F, _, ⟨r0, L', rfl, h2, h3, h4, h5, h6⟩, r, hr, hb => by
    rcases List.mem_cons.1 hr with rfl | hr
    · rw [h2.1] at hb; cases hb
    · exact h6.boxes r hr hb
  | (t, .box) :: ms, v :: vs, p :: ps, F, _, ⟨r0, L', rfl, h2, h3, h4, ⟨n, h5⟩, h6⟩, r, hr, hb => by
    rcases List.mem_cons.1 hr with rfl | hr
    · exact ⟨h5.len, h2.2.2⟩
    · exact h6.boxes r hr hb
  | (t, .mut2) :: ms, v :: vs, p :: ps, F, _, ⟨r1, r2, L', t1, t2, a, b, p1, p2, rfl, h2, h3, h4, h5, h6, h7, h8, h9⟩, r, hr, hb => by
    rcases List.mem_cons.1 hr with rfl | hr
    · rw [h5.1.1] at hb; cases hb
    · rcases List.mem_cons.1 hr with rfl | hr
      · rw [h5.2.1] at hb; cases hb
      · exact h9.boxes r hr hb
  | (t, .muts) :: ms, v :: vs, p :: ps, F, _, ⟨M, L', cs, fs, rfl, h2, h3, h4, h5⟩, r, hr, hb => by
    rcases List.mem_append.1 hr with hr | hr
    · rw [h3.noBox r hr] at hb; cases hb
    · exact h5.boxes r hr hb
  | (_, .muts) :: _, [], _, _, _, h, _, _, _ => h.elim
  | (_, .muts) :: _, _ :: _, [], _, _, h, _, _, _ => h.elim
  | (_, .mut2) :: _, [], _, _, _, h, _, _, _ => h.elim
  | (_, .mut2) :: _, _ :: _, [], _, _, h, _, _, _ => h.elim
  | [], _ :: _, _, _, _, h, _, _, _ => h.elim
  | [], [], _ :: _, _, _, h, _, _, _ => h.elim
  | (_, .ro) :: _, [], _, _, _, h, _, _, _ => h.elim
  | (_, .own) :: _, [], _, _, _, h, _, _, _ => h.elim
  | (_, .mut) :: _, [], _, _, _, h, _, _, _ => h.elim
  | (_, .box) :: _, [], _, _, _, h, _, _, _ => h.elim
  | (_, .ro) :: _, _ :: _, [], _, _, h, _, _, _ => h.elim
  | (_, .own) :: _, _ :: _, [], _, _, h, _, _, _ => h.elim
  | (_, .mut) :: _, _ :: _, [], _, _, h, _, _, _ => h.elim
  | (_, .box) :: _, _ :: _, [], _, _, h, _, _, _ => h.elim
theorem rd_flat {m : Nat} {n : Nat} {pv : PV} {cs : List Value} (h : Rd P ok w n t pv cs) (hs : (∀ e, tk P t ≠ .slice e) ∧ ∀ fs, tk P t ≠ .struct fs) : SVc P M t (reifyRo P (m + 1) t pv) cs := by
  cases n with
  | zero => exact h.elim
  | succ n =>
    have : Rd P M.ok M.w 1 t pv cs := by
      unfold Rd at h ⊢
      cases ht : tk P t <;> simp only [ht] at h ⊢
      · exact h
      · exact h
      · exact h
      · exact absurd ht (hs.1 _)
      · exact absurd ht (hs.2 _)
      · exact h
    exact reifyRo_ok this
mutual
theorem con_svc : ∀ {m n : Nat} {t : TypeId} {pv : PV} {cs : List Value} {o : Nat}, Rd P ok w n t pv cs → M.w = w → (∀ k, ok k → M.ok k) → (∀ q u, cs[q]? = some u → M.G.cv (o + q) = u) → SVc P M t (conRo P m t pv o) cs
  | 0, n, t, pv, cs, o, h, _, _, _ => .junk _ _ h.len h.ones
  | m + 1, 0, t, pv, cs, o, h, _, _, _ => h.elim
  | m + 1, n + 1, t, pv, cs, o, h, hw, hok, hcv => by
    have h0 := h
    unfold conRo
    cases ht : tk P t with
    | slice e =>
      have hl := h.len
      have h1 := h.ones
      rw [tk_size (by rw [ht]; simp), ht] at hl
      obtain ⟨y, rfl⟩ : ∃ y, cs = [y] := by
        cases cs with
        | nil => simp [TK.sz] at hl
        | cons y r => cases r with
          | nil => exact ⟨y, rfl⟩
          | cons => simp [TK.sz] at hl
      have := hcv 0 y rfl
      rw [Nat.add_zero] at this
      subst hw
      exact .leaf _ _ _ ⟨this.symm, n + 1, e, ht, h0.mono hok⟩ (h1 y (by simp)) (by rw [tk_size (by rw [ht]; simp), ht]; rfl) (by rw [ht]; simp)
    | struct fs =>
      unfold Rd at h
      simp only [ht] at h
      obtain ⟨ps, rfl, h⟩ := h
      exact .agg t t fs _ _ ht (alike_refl ht) (conFlds_svc (k := 0) (qs := ps) h hw hok hcv (fun i => by simp [PV.fld, PV.parts]))
    | int k => exact rd_flat (m := 0) h0 (by rw [ht]; simp)
    | bool => exact rd_flat (m := 0) h0 (by rw [ht]; simp)
    | str => exact rd_flat (m := 0) h0 (by rw [ht]; simp)
    | other => exact rd_flat (m := 0) h0 (by rw [ht]; simp)
    | bad => exact absurd ht h.good
theorem conFlds_svc : ∀ {m n : Nat} {fs : List TypeId} {qs : List PV} {cs : List Value} {o k : Nat} {pv : PV}, Flds (Rd P ok w n) fs qs cs → M.w = w → (∀ k, ok k → M.ok k) → (∀ q u, cs[q]? = some u → M.G.cv (o + q) = u) → (∀ i, pv.fld (k + i) = qs.getD i default) → SVcL P M fs (fieldsCon (conRo P m) P fs pv k o) cs
  | m, n, [], qs, cs, o, k, pv, h, _, _, _, _ => by
    cases qs with
    | nil => have : cs = [] := h; subst this; exact .nil
    | cons => exact h.elim
  | m, n, t :: ts, qs, cs, o, k, pv, h, hw, hok, hcv, hq => by
    cases qs with
    | nil => exact h.elim
    | cons q qs =>
      obtain ⟨c, cs', rfl, h1, h2⟩ := h
      have hq0 : pv.fld k = q := by simpa using hq 0
      have hl := h1.len
      simp only [fieldsCon, hq0]
      refine .cons _ _ _ _ _ _ (con_svc h1 hw hok (fun j u hj => hcv j u (by rw [List.getElem?_append_left (List.getElem?_eq_some_iff.1 hj).1]; exact hj))) (conFlds_svc h2 hw hok (fun j u hj => ?_) (fun i => by
        have := hq (i + 1)
        rw [show k + 1 + i = k + (i + 1) by omega, this]; simp))
      have := hcv (sizeOf P t + j) u (by rw [List.getElem?_append_right (by omega), hl]; simpa using hj)
      rwa [show o + sizeOf P t + j = o + (sizeOf P t + j) by omega]
end
/-- One thing lent, as it is laid. -/
def LaidC (P : Program) (w : World) (ok : Nat → Prop) (i : Nat) (c : Chg) (r : Row) : Prop :=
  c.hd = r.hd ∧ c.ft = r.ft ∧ match r.box with
  | false => ∃ u q, c.ob = .row u q ∧ ∃ n, Ow P w n u q [c.hd] c.ft
  | true => ∃ p n, c.ob = .box r.t (conRo P 8 r.t p (i * 4096)) ∧ BoxC w r.t c.hd c.ft r.cs ∧ Rd P ok w n r.t p r.cs
def LaidL (P : Program) (w : World) (ok : Nat → Prop) : Nat → List (Nat × Chg) → List Row → Prop
  | _, [], [] => True
  | i, x :: K, r :: L => x.1 = i ∧ LaidC P w ok i x.2 r ∧ LaidL P w ok (i + 1) K L
  | _, _, _ => False
theorem LaidL.kl : ∀ {i : Nat} {K : List (Nat × Chg)} {L : List Row}, LaidL P w ok i K L → K.map (·.1) = List.range' i L.length ∧ K.flatMap (·.2.ft) = L.flatMap (·.ft)
  | _, [], [], _ => ⟨rfl, rfl⟩
  | i, x :: K, r :: L, ⟨h1, h2, h3⟩ => by
    have := h3.kl
    exact ⟨by rw [List.map_cons, this.1, h1, List.length_cons, List.range'_succ], by simp [this.2, h2.2.1]⟩
  | _, [], _ :: _, h => h.elim
  | _, _ :: _, [], h => h.elim
theorem LaidL.get : ∀ {i : Nat} {K : List (Nat × Chg)} {L : List Row}, LaidL P w ok i K L → ∀ j r, L[j]? = some r → ∃ x, x ∈ K ∧ x.1 = i + j ∧ LaidC P w ok (i + j) x.2 r
  | _, [], [], _, j, r, hj => by simp at hj
  | i, x :: K, r :: L, ⟨h1, h2, h3⟩, 0, r', hj => by simp at hj; subst hj; exact ⟨x, by simp, h1, h2⟩
  | i, x :: K, r :: L, ⟨h1, h2, h3⟩, j + 1, r', hj => by
    obtain ⟨y, e1, e2, e3⟩ := h3.get j r' (by simpa using hj)
    exact ⟨y, List.mem_cons_of_mem _ e1, by omega, by rwa [show i + 1 + j = i + (j + 1) by omega] at e3⟩
  | _, [], _ :: _, h, _, _, _ => h.elim
  | _, _ :: _, [], h, _, _, _ => h.elim
theorem LaidL.mem : ∀ {i : Nat} {K : List (Nat × Chg)} {L : List Row}, LaidL P w ok i K L → ∀ x ∈ K, ∃ j r, L[j]? = some r ∧ x.1 = i + j ∧ LaidC P w ok (i + j) x.2 r
  | _, [], [], _, x, hx => by cases hx
  | i, x :: K, r :: L, ⟨h1, h2, h3⟩, y, hy => by
    rcases List.mem_cons.1 hy with rfl | hy
    · exact ⟨0, r, rfl, h1, h2⟩
    · obtain ⟨j, r', e1, e2, e3⟩ := h3.mem y hy
      exact ⟨j + 1, r', by simpa using e1, by omega, by rwa [show i + 1 + j = i + (j + 1) by omega] at e3⟩
  | _, [], _ :: _, h, _, _ => h.elim
  | _, _ :: _, [], h, _, _ => h.elim
/-- The parameters laid out: KL, what is lent; KO, what is given. -/
structure Laid (P : Program) (w : World) (ok : Nat → Prop) (ws : List (Nat × Own)) (xs : List SV) (vs : List Value) (m fr : Nat) (F : List Nat) (L : List Row) (KL KO : List (Nat × Chg)) : Prop where
  lent : LaidL P w ok m KL L
  ko : KO.map (·.1) = List.range' fr KO.length
  kof : (KO.flatMap (·.2.ft)).Sublist F
  rows : ∀ x ∈ KO, ∃ u q, x.2.ob = .row u q ∧ ∃ n, Ow P w n u q [x.2.hd] x.2.ft
  ws : ∀ y, y ∈ ws ↔ ∃ x ∈ KL ++ KO, y = (x.1, x.2.ob)
  sl : ∀ M : Mm, M.w = w → Holds M KL → Holds M KO → (∀ k, ok k → M.ok k) → Slots P M xs vs
theorem cons_ws {y z : Nat × Own} {KL KO : List (Nat × Chg)} {ws : List (Nat × Own)} {x0 : Nat × Chg} (h : y ∈ ws ↔ ∃ x ∈ KL ++ KO, y = (x.1, x.2.ob)) (hz : z = (x0.1, x0.2.ob)) : y ∈ z :: ws ↔ ∃ x ∈ (x0 :: KL) ++ KO, y = (x.1, x.2.ob) := by
  rw [List.mem_cons, h]
  constructor
  · rintro (rfl | ⟨x, hx, rfl⟩)
    · exact ⟨x0, by simp, hz⟩
    · exact ⟨x, by rcases List.mem_append.1 hx with hx | hx <;> simp [hx], rfl⟩
  · rintro ⟨x, hx, rfl⟩
    rcases List.mem_append.1 hx with hx | hx
    · rcases List.mem_cons.1 hx with rfl | hx
      · exact .inl hz.symm
      · exact .inr ⟨x, by simp [hx], rfl⟩
    · exact .inr ⟨x, by simp [hx], rfl⟩
theorem LaidL.append : ∀ {i : Nat} {K K' : List (Nat × Chg)} {L L' : List Row}, LaidL P w ok i K L → LaidL P w ok (i + L.length) K' L' → LaidL P w ok i (K ++ K') (L ++ L')
  | _, [], K', [], L', _, h => by simpa using h
  | i, x :: K, K', r :: L, L', ⟨h1, h2, h3⟩, h => ⟨h1, h2, LaidL.append h3 (by rw [List.length_cons] at h; rwa [show i + 1 + L.length = i + (L.length + 1) by omega])⟩
  | _, [], _, _ :: _, _, h, _ => h.elim
  | _, _ :: _, _, [], _, h, _ => h.elim
mutual
theorem lend_laid : ∀ {n : Nat} {t : TypeId} {p : PV} {cs : List Value} {L : List Row} (m : Nat), LendAt P w n t p cs L →
    ∃ K, LaidL P w ok m K L ∧ (adopt P n t p m).2 = K.map (fun x => (x.1, x.2.ob)) ∧ ∀ M : Mm, M.w = w → Holds M K → SVc P M t (adopt P n t p m).1 cs
  | 0, t, p, cs, L, m, h => h.elim
  | n + 1, t, p, cs, L, m, h => by
    unfold LendAt at h
    unfold adopt
    cases ht : tk P t with
    | slice e =>
      simp only [ht] at h ⊢
      obtain ⟨v, r, rfl, rfl, ⟨h1, h2⟩, h3, q, h4⟩ := h
      have h1v : one v = true := h4.ones v (by simp)
      refine ⟨[(m, ⟨.row t p, v, r.ft⟩)], ⟨rfl, ⟨h3.symm, rfl, ?_⟩, trivial⟩, rfl, fun M hw hH => ?_⟩
      · simp only [h1]; exact ⟨t, p, rfl, q, h4⟩
      · obtain ⟨c1, c2, c3⟩ := hH (m, ⟨.row t p, v, r.ft⟩) (by simp)
        have l1 : Leaf P M (.ref m []) v := by simp only [Leaf, c1]; exact .inl ⟨rfl, c2.symm⟩
        exact .leaf t _ v l1 h1v (by rw [tk_size (by rw [ht]; simp), ht]; rfl) (by rw [ht]; simp)
    | struct fs =>
      simp only [ht] at h ⊢
      obtain ⟨ps, rfl, h⟩ := h
      obtain ⟨K, a1, a2, a3⟩ := lend_laids (k := 0) (pv := .agg ps) m h (fun i => by simp [PV.fld, PV.parts])
      exact ⟨K, a1, a2, fun M hw hH => .agg t t fs _ _ ht (alike_refl ht) (a3 M hw hH)⟩
    | int k =>
      simp only [ht] at h ⊢
      obtain ⟨⟨x, rfl, rfl⟩, rfl⟩ := h
      exact ⟨[], trivial, rfl, fun M hw hH => .leaf t _ _ rfl rfl (by rw [tk_size (by rw [ht]; simp), ht]; rfl) (by rw [ht]; simp)⟩
    | bool =>
      simp only [ht] at h ⊢
      obtain ⟨⟨x, rfl, rfl⟩, rfl⟩ := h
      exact ⟨[], trivial, rfl, fun M hw hH => .leaf t _ _ rfl rfl (by rw [tk_size (by rw [ht]; simp), ht]; rfl) (by rw [ht]; simp)⟩
    | str =>
      simp only [ht] at h ⊢
      obtain ⟨⟨x, rfl, rfl⟩, rfl⟩ := h
      exact ⟨[], trivial, rfl, fun M hw hH => .leaf t _ _ rfl rfl (by rw [tk_size (by rw [ht]; simp), ht]; rfl) (by rw [ht]; simp)⟩
    | other => simp only [ht] at h
    | bad => simp only [ht] at h
theorem lend_laids : ∀ {n : Nat} {fs : List TypeId} {qs : List PV} {cs : List Value} {L : List Row} {k : Nat} {pv : PV} (m : Nat), LendFs (LendAt P w n) fs qs cs L → (∀ i, pv.fld (k + i) = qs.getD i default) →
    ∃ K, LaidL P w ok m K L ∧ (fieldsAdopt (adopt P n) fs pv k m).2 = K.map (fun x => (x.1, x.2.ob)) ∧ ∀ M : Mm, M.w = w → Holds M K → SVcL P M fs (fieldsAdopt (adopt P n) fs pv k m).1 cs
  | n, [], [], cs, L, k, pv, m, h, _ => by
    obtain ⟨rfl, rfl⟩ := h
    exact ⟨[], trivial, rfl, fun _ _ _ => .nil⟩
  | n, t :: ts, q :: qs, cs, L, k, pv, m, ⟨c, cs', M1, M2, h1, h2, h3, h4⟩, hq => by
    subst h1 h2
    have hq0 : pv.fld k = q := by simpa using hq 0
    obtain ⟨K1, a1, a2, a3⟩ := lend_laid m h3
    have hl : (adopt P n t q m).2.length = M1.length := by
      rw [a2, List.length_map]
      have := congrArg List.length a1.kl.1
      simpa using this
    obtain ⟨K2, b1, b2, b3⟩ := lend_laids (k := k + 1) (pv := pv) (m + (adopt P n t q m).2.length) h4 (fun i => by
      have := hq (i + 1)
      rw [show k + 1 + i = k + (i + 1) by omega, this]; simp)
    refine ⟨K1 ++ K2, a1.append (by rw [← hl]; exact b1), ?_, fun M hw hH => ?_⟩
    · simp only [fieldsAdopt, hq0, a2, b2, List.map_append]
      rw [← b2, a2]
    · simp only [fieldsAdopt, hq0]
      exact .cons _ _ _ _ _ _ (a3 M hw hH.left) (b3 M hw hH.right)
  | n, [], _ :: _, _, _, _, _, _, h, _ => h.elim
  | n, _ :: _, [], _, _, _, _, _, h, _ => h.elim
end
theorem laid_ok : ∀ {ms : List (TypeId × Mode)} {vs : List Value} {ps : List PV} {F : List Nat} {L : List Row} (m fr : Nat), ArgsAt P ok w ms vs ps F L →
    ∃ KL KO, Laid P w ok (paramsOf P ms ps m fr).2 (paramsOf P ms ps m fr).1 vs m fr F L KL KO
  | [], [], [], _, _, m, fr, h => by
    obtain ⟨rfl, rfl⟩ := h
    exact ⟨[], [], trivial, rfl, by simp, by simp, by simp [paramsOf], fun _ _ _ _ _ => trivial⟩
  | (t, .ro) :: ms, v :: vs, p :: ps, F, L, m, fr, ⟨⟨n, cs, b1, b2⟩, h3⟩ => by
    obtain ⟨KL, KO, h⟩ := laid_ok m fr h3
    refine ⟨KL, KO, ⟨h.lent, h.ko, h.kof, h.rows, h.ws, fun M hw h1 h2 hok => ⟨?_, h.sl M hw h1 h2 hok⟩⟩⟩
    subst hw
    rw [b2]
    exact svc_slot (reifyRo_ok (b1.mono hok))
  | (t, .own) :: ms, v :: vs, p :: ps, _, L, m, fr, ⟨F1, F2, rfl, ⟨n, cs, b1, b2⟩, h3⟩ => by
    obtain ⟨K1, a1, a2⟩ := adopt_ok (m := 8) fr b1
    obtain ⟨KL, KO, h⟩ := laid_ok m (fr + (adopt P 8 t p fr).2.length) h3
    refine ⟨KL, K1 ++ KO, ⟨h.lent, ?_, ?_, fun x hx => ?_, fun y => ?_, fun M hw h1 h2 hok => ⟨?_, h.sl M hw h1 h2.right hok⟩⟩⟩
    · rw [List.map_append, a1.ids, h.ko, a1.len, List.length_append, ← List.range'_append]; simp
    · rw [List.flatMap_append]; exact a1.sub.append h.kof
    · rcases List.mem_append.1 hx with hx | hx
      · obtain ⟨u, q, c1, c2, _⟩ := a1.rows x hx; exact ⟨u, q, c1, c2⟩
      · exact h.rows x hx
    · have hw1 := h.ws y
      simp only [paramsOf, List.mem_append]
      rw [hw1, ← a1.ws]
      constructor
      · rintro (h1 | ⟨x, hx, rfl⟩)
        · obtain ⟨x, hx, rfl⟩ := List.mem_map.1 h1
          exact ⟨x, .inr (.inl hx), rfl⟩
        · rcases List.mem_append.1 hx with hx | hx
          · exact ⟨x, .inl hx, rfl⟩
          · exact ⟨x, .inr (.inr hx), rfl⟩
      · rintro ⟨x, hx | hx | hx, rfl⟩
        · exact .inr ⟨x, List.mem_append_left _ hx, rfl⟩
        · exact .inl (List.mem_map.2 ⟨x, hx, rfl⟩)
        · exact .inr ⟨x, List.mem_append_right _ hx, rfl⟩
    · rw [b2]; exact svc_slot (a2 M hw h2.left)
  | (t, .mut) :: ms, v :: vs, p :: ps, F, _, m, fr, ⟨r, L', rfl, ⟨hrb, hrt⟩, hrv, ⟨e, hsl⟩, ⟨n, hn⟩, h6⟩ => by
    obtain ⟨KL, KO, h⟩ := laid_ok (m + 1) fr h6
    have h1v : one v = true := hn.ones v (by simp)
    refine ⟨(m, ⟨.row t p, v, r.ft⟩) :: KL, KO, ⟨⟨rfl, ⟨hrv.symm, rfl, ?_⟩, h.lent⟩, h.ko, h.kof, h.rows, fun y => ?_, fun M hw h1 h2 hok => ⟨?_, h.sl M hw (fun x hx => h1 x (List.mem_cons_of_mem _ hx)) h2 hok⟩⟩⟩
    · simp only [hrb]; exact ⟨t, p, rfl, n, hn⟩
    · exact cons_ws (h.ws y) rfl
    · obtain ⟨c1, c2, c3⟩ := h1 (m, ⟨.row t p, v, r.ft⟩) (by simp)
      refine .leaf _ _ ?_ h1v
      simp only [Leaf, c1]
      exact .inl ⟨rfl, c2.symm⟩
  | (t, .box) :: ms, v :: vs, p :: ps, F, _, m, fr, ⟨r, L', rfl, ⟨hrb, hrt, hsz⟩, hrv, hbx, ⟨n, hn⟩, h6⟩ => by
    obtain ⟨KL, KO, h⟩ := laid_ok (m + 1) fr h6
    have hp : paramsOf P ((t, .box) :: ms) (p :: ps) m fr = (.ptr m [] :: (paramsOf P ms ps (m + 1) fr).1, (m, .box r.t (conRo P 8 r.t p (m * 4096))) :: (paramsOf P ms ps (m + 1) fr).2) := by
      simp only [paramsOf, hrt, Option.getD_some]
    rw [hp]
    refine ⟨(m, ⟨.box r.t (conRo P 8 r.t p (m * 4096)), v, r.ft⟩) :: KL, KO, ⟨⟨rfl, ⟨hrv.symm, rfl, ?_⟩, h.lent⟩, h.ko, h.kof, h.rows, fun y => ?_, fun M hw h1 h2 hok => ⟨?_, h.sl M hw (fun x hx => h1 x (List.mem_cons_of_mem _ hx)) h2 hok⟩⟩⟩
    · simp only [hrb]; exact ⟨p, n, rfl, hbx, hn⟩
    · exact cons_ws (h.ws y) rfl
    · obtain ⟨c1, c2, c3⟩ := h1 (m, ⟨.box r.t (conRo P 8 r.t p (m * 4096)), v, r.ft⟩) (by simp)
      obtain ⟨g, arr, hv, _⟩ := hbx
      refine .leaf _ _ ?_ (by rw [hv]; rfl)
      simp only [Leaf, c1]
      exact ⟨g, 0, r.t, c2.trans hv, hv, rfl, rfl⟩
  | (t, .mut2) :: ms, v :: vs, p :: ps, F, _, m, fr, ⟨r1, r2, L', t1, t2, a, b, p1, p2, rfl, ht, hpp, hvv, ⟨⟨hb1, hq1⟩, hb2, hq2⟩, ⟨hd1, hd2⟩, ⟨⟨e1, hs1⟩, e2, hs2⟩, ⟨⟨n1, hn1⟩, n2, hn2⟩, h9⟩ => by
    subst hpp hvv
    obtain ⟨KL, KO, h⟩ := laid_ok (m + 2) fr h9
    have h1v : one a = true := hn1.ones a (by simp)
    have h2v : one b = true := hn2.ones b (by simp)
    have hp : paramsOf P ((t, .mut2) :: ms) (.agg [p1, p2] :: ps) m fr = (.agg t [.ref m [], .ref (m + 1) []] :: (paramsOf P ms ps (m + 2) fr).1, (m, .row t1 p1) :: (m + 1, .row t2 p2) :: (paramsOf P ms ps (m + 2) fr).2) := by
      simp only [paramsOf, ht]; rfl
    rw [hp]
    refine ⟨(m, ⟨.row t1 p1, a, r1.ft⟩) :: (m + 1, ⟨.row t2 p2, b, r2.ft⟩) :: KL, KO, ⟨⟨rfl, ⟨hd1.symm, rfl, ?_⟩, rfl, ⟨hd2.symm, rfl, ?_⟩, h.lent⟩, h.ko, h.kof, h.rows, fun y => ?_, fun M hw h1 h2 hok => ⟨?_, h.sl M hw (fun x hx => h1 x (List.mem_cons_of_mem _ (List.mem_cons_of_mem _ hx))) h2 hok⟩⟩⟩
    · simp only [hb1]; exact ⟨t1, p1, rfl, n1, hn1⟩
    · simp only [hb2]; exact ⟨t2, p2, rfl, n2, hn2⟩
    · exact cons_ws (cons_ws (h.ws y) rfl) rfl
    · obtain ⟨c1, c2, c3⟩ := h1 (m, ⟨.row t1 p1, a, r1.ft⟩) (by simp)
      obtain ⟨d1, d2, d3⟩ := h1 (m + 1, ⟨.row t2 p2, b, r2.ft⟩) (by simp)
      have l1 : Leaf P M (.ref m []) a := by simp only [Leaf, c1]; exact .inl ⟨rfl, c2.symm⟩
      have l2 : Leaf P M (.ref (m + 1) []) b := by simp only [Leaf, d1]; exact .inl ⟨rfl, d2.symm⟩
      have z1 : sizeOf P t1 = 1 := by rw [tk_size (by rw [hs1]; simp), hs1]; rfl
      have z2 : sizeOf P t2 = 1 := by rw [tk_size (by rw [hs2]; simp), hs2]; rfl
      refine .agg t _ #[a, b] (.agg t t [t1, t2] _ _ ht (alike_refl ht) ?_)
      exact .cons t1 [t2] _ _ [a] [b] (.leaf t1 _ a l1 h1v z1 (by rw [hs1]; simp)) (.cons t2 [] _ _ [b] [] (.leaf t2 _ b l2 h2v z2 (by rw [hs2]; simp)) .nil)
  | (t, .muts) :: ms, v :: vs, p :: ps, F, _, m, fr, ⟨M1, L', cs, fs, rfl, ht, h3, hv, h5⟩ => by
    obtain ⟨K1, a1, a2, a3⟩ := lend_laid (ok := ok) m h3
    have hl : (adopt P 8 t p m).2.length = M1.length := by
      rw [a2, List.length_map]
      have := congrArg List.length a1.kl.1
      simpa using this
    obtain ⟨KL, KO, h⟩ := laid_ok (m + (adopt P 8 t p m).2.length) fr h5
    refine ⟨K1 ++ KL, KO, ⟨a1.append (by rw [← hl]; exact h.lent), h.ko, h.kof, h.rows, fun y => ?_, fun M hw h1 h2 hok => ⟨?_, h.sl M hw h1.right h2 hok⟩⟩⟩
    · have hw1 := h.ws y
      simp only [paramsOf, List.mem_append]
      rw [hw1, a2]
      constructor
      · rintro (h1 | ⟨x, hx, rfl⟩)
        · obtain ⟨x, hx, rfl⟩ := List.mem_map.1 h1
          exact ⟨x, .inl (.inl hx), rfl⟩
        · rcases List.mem_append.1 hx with hx | hx
          · exact ⟨x, .inl (.inr hx), rfl⟩
          · exact ⟨x, .inr hx, rfl⟩
      · rintro ⟨x, (hx | hx) | hx, rfl⟩
        · exact .inl (List.mem_map.2 ⟨x, hx, rfl⟩)
        · exact .inr ⟨x, List.mem_append_left _ hx, rfl⟩
        · exact .inr ⟨x, List.mem_append_right _ hx, rfl⟩
    · have hs := svc_slot (a3 M hw h1.left)
      have e : valOf P t cs = v := by unfold valOf; rw [ht, hv]
      rw [e] at hs
      exact hs
  | (_, .muts) :: _, [], _, _, _, _, _, h => h.elim
  | (_, .muts) :: _, _ :: _, [], _, _, _, _, h => h.elim
  | (_, .mut2) :: _, [], _, _, _, _, _, h => h.elim
  | (_, .mut2) :: _, _ :: _, [], _, _, _, _, h => h.elim
  | [], _ :: _, _, _, _, _, _, h => h.elim
  | [], [], _ :: _, _, _, _, _, h => h.elim
  | (_, .ro) :: _, [], _, _, _, _, _, h => h.elim
  | (_, .own) :: _, [], _, _, _, _, _, h => h.elim
  | (_, .mut) :: _, [], _, _, _, _, _, h => h.elim
  | (_, .box) :: _, [], _, _, _, _, _, h => h.elim
  | (_, .ro) :: _, _ :: _, [], _, _, _, _, h => h.elim
  | (_, .own) :: _, _ :: _, [], _, _, _, _, h => h.elim
  | (_, .mut) :: _, _ :: _, [], _, _, _, _, h => h.elim
  | (_, .box) :: _, _ :: _, [], _, _, _, _, h => h.elim
def cv0 (L : List Row) (k : Nat) : Value := (L[k / 4096]?).elim undef fun r => r.cs.getD (k % 4096) undef
theorem cv0_at {L : List Row} {j : Nat} {r : Row} (hj : L[j]? = some r) {q : Nat} {u : Value} (hq : r.cs[q]? = some u) (hl : q < 4096) : cv0 L (j * 4096 + q) = u := by
  unfold cv0
  rw [show (j * 4096 + q) / 4096 = j by omega, show (j * 4096 + q) % 4096 = q by omega, hj]
  simp [List.getD_eq_getElem?_getD, hq]
def cx0 (w : World) (ok : Nat → Prop) (F : List Nat) (L : List Row) : Cx := ⟨w, fun k => k ∈ F ++ L.flatMap (·.ft) ∨ w.heap.size ≤ k, L.length, fun i => (L[i]?).elim undef (·.hd), cv0 L, ok⟩
/-- All parameters are read alone. -/
def allRo : List (TypeId × Mode) → Bool
  | [] => true
  | (_, .ro) :: r => allRo r
  | _ => false
theorem allRo_args {w : World} : ∀ {ms : List (TypeId × Mode)} {vs : List Value} {ps : List PV} {F : List Nat} {L : List Row}, allRo ms = true → ArgsAt P ok w ms vs ps F L → F = [] ∧ L = []
  | [], [], [], _, _, _, h => h
  | (_, .ro) :: ms, v :: vs, p :: ps, F, L, ha, h => allRo_args (ms := ms) ha h.2
  | (_, .own) :: _, _, _, _, _, ha, _ => by simp [allRo] at ha
  | (_, .mut) :: _, _, _, _, _, ha, _ => by simp [allRo] at ha
  | (_, .box) :: _, _, _, _, _, ha, _ => by simp [allRo] at ha
  | (_, .muts) :: _, _, _, _, _, ha, _ => by simp [allRo] at ha
  | (_, .mut2) :: _, _, _, _, _, ha, _ => by simp [allRo] at ha
  | [], _ :: _, _, _, _, _, h => h.elim
  | [], [], _ :: _, _, _, _, h => h.elim
  | (_, .ro) :: _, [], _, _, _, _, h => h.elim
  | (_, .ro) :: _, _ :: _, [], _, _, _, h => h.elim
theorem allRo_rd {ok' : Nat → Prop} {w : World} (hok : ∀ k, ok k → ok' k) : ∀ {ms : List (TypeId × Mode)} {vs : List Value} {ps : List PV} {F : List Nat} {L : List Row}, allRo ms = true → ArgsAt P ok w ms vs ps F L → ArgsAt P ok' w ms vs ps F L
  | [], [], [], _, _, _, h => h
  | (_, .ro) :: ms, v :: vs, p :: ps, F, L, ha, h => by
    obtain ⟨⟨n, cs, h1, h2⟩, h3⟩ := h
    exact ⟨⟨n, cs, h1.mono hok, h2⟩, allRo_rd hok (ms := ms) ha h3⟩
  | (_, .own) :: _, _, _, _, _, ha, _ => by simp [allRo] at ha
  | (_, .mut) :: _, _, _, _, _, ha, _ => by simp [allRo] at ha
  | (_, .box) :: _, _, _, _, _, ha, _ => by simp [allRo] at ha
  | (_, .muts) :: _, _, _, _, _, ha, _ => by simp [allRo] at ha
  | (_, .mut2) :: _, _, _, _, _, ha, _ => by simp [allRo] at ha
  | [], _ :: _, _, _, _, _, h => h.elim
  | [], [], _ :: _, _, _, _, h => h.elim
  | (_, .ro) :: _, [], _, _, _, _, h => h.elim
  | (_, .ro) :: _, _ :: _, [], _, _, _, h => h.elim
theorem res_nobox {ok' : Nat → Prop} {w : World} : ∀ {rs : List (TypeId × RMode)} {outs : List PV} {vs : List Value} {F : List Nat}, boxRes rs = false → ResAt P ok w rs outs vs F → ResAt P ok' w rs outs vs F
  | [], _, _, _, _, h => h
  | (_, .val) :: rs, outs, v :: vs, F, hb, h => ⟨h.1, res_nobox (rs := rs) hb h.2⟩
  | (_, .own) :: rs, outs, v :: vs, F, hb, ⟨F1, F2, h1, h2, h3⟩ => ⟨F1, F2, h1, h2, res_nobox (rs := rs) hb h3⟩
  | (_, .nown) :: rs, outs, v :: vs, F, hb, ⟨F1, F2, h1, h2, h4, h3⟩ => ⟨F1, F2, h1, h2, h4, res_nobox (rs := rs) hb h3⟩
  | (_, .nown) :: _, _, [], _, _, h => h.elim
  | (_, .box) :: _, _, _, _, hb, _ => by simp [boxRes] at hb
  | (_, .any) :: rs, outs, v :: vs, F, hb, h => res_nobox (rs := rs) hb h
  | (_, .err) :: rs, outs, v :: vs, F, hb, h => ⟨h.1, res_nobox (rs := rs) hb h.2⟩
  | (_, .err) :: _, _, [], _, _, h => h.elim
  | (_, .any) :: _, _, [], _, _, h => h.elim
  | (_, .val) :: _, _, [], _, _, h => h.elim
  | (_, .own) :: _, _, [], _, _, h => h.elim
/-- The state at a function's start. -/
theorem start_ok {E : Env} {fn : Func} {ms : List (TypeId × Mode)} {vs : List Value} {ps : List PV} {F : List Nat} {L : List Row} (hE : E.pins = L.length) (h : ArgsAt P ok w ms vs ps F L) (hnd : (F ++ L.flatMap (·.ft)).Nodup) (hok : ∀ k ∈ F ++ L.flatMap (·.ft), ¬ ok k) (hglb : Glb.holds (P := P) ok w) :
    Rel P (cx0 w ok F L) (startOf P E fn ms ps) { tmps := vs.toArray ++ Array.replicate (fn.ntmps - vs.toArray.size) undef, defers := [] } w := by
  obtain ⟨KL, KO, hl⟩ := laid_ok 0 E.pins h
  have hlen := h.len
  have hkl := hl.lent.kl
  let K := KL ++ KO
  have hkeys : (K.map (·.1)).Nodup := by
    simp only [K, List.map_append]
    rw [hkl.1, hl.ko, List.nodup_append]
    refine ⟨List.nodup_range', List.nodup_range', fun i hi j hj he => ?_⟩
    rw [List.mem_range'_1] at hi hj
    omega
  let oh : Nat → Own := (startOf P E fn ms ps).oh
  have hoh : ∀ i, oh i = match lookC K i with | some c => c.ob | none => .free := fun i => by
    show ((paramsOf P ms ps 0 E.pins).2.find? fun x => Nat.beq x.1 i).elim .free (·.2) = _
    cases hf : (paramsOf P ms ps 0 E.pins).2.find? fun x => Nat.beq x.1 i with
    | some y =>
      obtain ⟨x, hx, rfl⟩ := (hl.ws y).1 (List.mem_of_find?_eq_some hf)
      have hi := List.find?_some hf
      have : x.1 = i := Nat.beq_eq.mp hi
      subst this
      have hlk : lookC K x.1 = some x.2 := lookC_of hkeys hx
      rw [hlk]; rfl
    | none =>
      cases hlk : lookC K i with
      | none => rfl
      | some c =>
        have := (hl.ws (i, c.ob)).2 ⟨(i, c), lookC_mem hlk, rfl⟩
        have h2 := List.find?_eq_none.1 hf _ this
        simp at h2
  let G : Gh := (⟨fun _ => undef, fun _ => [], cv0 L, ok⟩ : Gh).chg K
  have hft : ∀ i k, k ∈ G.ft i → ∃ c, lookC K i = some c ∧ k ∈ c.ft := fun i k hk => by
    cases hlk : lookC K i with
    | none => rw [(chg_none hlk).2] at hk; cases hk
    | some c => rw [(chg_some hlk).2] at hk; exact ⟨c, rfl, hk⟩
  have hKn : (K.flatMap (·.2.ft)).Nodup := by
    simp only [K, List.flatMap_append, hkl.2]
    rw [List.nodup_append] at hnd ⊢
    exact ⟨hnd.2.1, hnd.1.sublist hl.kof, fun i hi j hj he => hnd.2.2 j (hl.kof.subset hj) i hi he.symm⟩
  have hKF : ∀ i k, k ∈ G.ft i → k ∈ F ++ L.flatMap (·.ft) := fun i k hk => by
    obtain ⟨c, hc, hkc⟩ := hft i k hk
    have : k ∈ K.flatMap (·.2.ft) := List.mem_flatMap.2 ⟨_, lookC_mem hc, hkc⟩
    simp only [K, List.flatMap_append, hkl.2] at this
    rcases List.mem_append.1 this with h1 | h1
    · exact List.mem_append_right _ h1
    · exact List.mem_append_left _ (hl.kof.subset h1)
  have hMok : ∀ k, ok k → (⟨w, oh, G⟩ : Mm).ok k := fun k hk => ⟨hk, fun id hid => hok k (hKF id k hid) hk⟩
  have hrow : ∀ i c, lookC K i = some c → (∃ u q, c.ob = .row u q ∧ ∃ n, Ow P w n u q [c.hd] c.ft) ∨ (∃ u sv cs, c.ob = .box u sv ∧ BoxC w u c.hd c.ft cs ∧ SVc P ⟨w, oh, G⟩ u sv cs) := fun i c hc => by
    rcases List.mem_append.1 (lookC_mem hc) with hx | hx
    · obtain ⟨j, r, hj, e1, e2, e3, e4⟩ := hl.lent.mem _ hx
      cases hb : r.box with
      | false => simp only [hb] at e4; exact .inl e4
      | true =>
        simp only [hb] at e4
        obtain ⟨p, n, d1, d2, d3⟩ := e4
        have hbx := h.boxes r (List.mem_of_getElem? hj) hb
        refine .inr ⟨r.t, _, r.cs, d1, d2, con_svc d3 rfl hMok (fun q u hq => ?_)⟩
        have hq' := (List.getElem?_eq_some_iff.1 hq).1
        show cv0 L _ = u
        rw [Nat.zero_add]
        exact cv0_at hj hq (by omega)
    · exact .inl (hl.rows _ hx)
  have hpinG : ∀ id r, L[id]? = some r → ∃ c, lookC K id = some c ∧ c.hd = r.hd := fun id r hr => by
    obtain ⟨x, hx, e1, e2, _⟩ := hl.lent.get id r hr
    rw [Nat.zero_add] at e1
    have hmem : (id, x.2) ∈ K := by rw [← e1]; exact List.mem_append_left _ hx
    exact ⟨x.2, lookC_of hkeys hmem, e2⟩
  have hat : At P (cx0 w ok F L) ⟨w, oh, G⟩ := by
    refine ⟨⟨⟨rfl, rfl, rfl, Nat.le_refl _, fun _ _ _ => rfl⟩, fun id t pv hr => ?_, fun id t sv hr => ?_, fun id h1 h2 => ?_, fun id => ?_, fun i j hij k hk hk' => ?_, fun id k hk => .inl (hKF id k hk), fun id hid _ => ?_, fun k hk => .inr hk, ⟨rfl, rfl⟩⟩, fun id hid => ?_, hglb, fun k hk hko hm => hm.elim (fun h => hok k h hko) (fun h => absurd hk (Nat.not_lt.2 h))⟩
    · have hr' : oh id = .row t pv := hr
      rw [hoh] at hr'
      cases hlk : lookC K id with
      | none => rw [hlk] at hr'; cases hr'
      | some c =>
        rw [hlk] at hr'
        have hr2 : c.ob = .row t pv := hr'
        rcases hrow id c hlk with ⟨u, q, c1, n, c2⟩ | ⟨u, sv, cs, c1, _⟩
        · rw [c1] at hr2; injection hr2 with e1 e2; subst e1 e2
          refine ⟨n, ?_⟩
          show Ow P w n u q [G.hnd id] (G.ft id)
          rw [(chg_some hlk).1, (chg_some hlk).2]; exact c2
        · rw [c1] at hr2; cases hr2
    · have hr' : oh id = .box t sv := hr
      rw [hoh] at hr'
      cases hlk : lookC K id with
      | none => rw [hlk] at hr'; cases hr'
      | some c =>
        rw [hlk] at hr'
        have hr2 : c.ob = .box t sv := hr'
        rcases hrow id c hlk with ⟨u, q, c1, _⟩ | ⟨u, sv', cs, c1, ⟨g, arr, d1, d2, d3, d4⟩, c3⟩
        · rw [c1] at hr2; cases hr2
        · rw [c1] at hr2; injection hr2 with e1 e2; subst e1 e2
          exact ⟨g, arr, (chg_some hlk).1.trans d1, (chg_some hlk).2.trans d2, d3, d4 ▸ c3⟩
    · show G.ft id = []
      cases hlk : lookC K id with
      | none => exact (chg_none hlk).2
      | some c =>
        have := hoh id
        rw [hlk] at this
        rcases hrow id c hlk with ⟨u, q, c1, _⟩ | ⟨u, sv, cs, c1, _⟩
        · exact absurd (this.trans c1) (h1 u q)
        · exact absurd (this.trans c1) (h2 u sv)
    · show (G.ft id).Nodup
      cases hlk : lookC K id with
      | none => rw [(chg_none hlk).2]; simp
      | some c => rw [(chg_some hlk).2]; exact nodup_of_flat hKn _ (lookC_mem hlk)
    · obtain ⟨c, hc, hkc⟩ := hft i k hk
      obtain ⟨d, hd, hkd⟩ := hft j k hk'
      exact disj_of_nodup hKn _ (lookC_mem hc) _ (lookC_mem hd) hij k hkc hkd
    · have hid' : id < L.length := hid
      obtain ⟨c, hc, hhd⟩ := hpinG id L[id] (by simp [hid'])
      show G.hnd id = (L[id]?).elim undef (·.hd)
      rw [(chg_some hc).1, hhd]
      simp [hid']
    · have hid' : id < L.length := hid
      obtain ⟨c, hc, _⟩ := hpinG id L[id] (by simp [hid'])
      have := hoh id
      rw [hc] at this
      show oh id ≠ .free
      rw [this]
      rcases hrow id c hc with ⟨u, q, c1, _⟩ | ⟨u, sv, cs, c1, _⟩ <;> simp only [c1] <;> simp
  have hholds : ∀ K', (∀ x ∈ K', x ∈ K) → Holds (⟨w, oh, G⟩ : Mm) K' := fun K' hsub x hx => by
    have hlk := lookC_of hkeys (hsub x hx)
    refine ⟨?_, (chg_some hlk).1, (chg_some hlk).2⟩
    show oh x.1 = _
    rw [hoh, hlk]
  have hsl := hl.sl ⟨w, oh, G⟩ rfl (hholds KL (fun x hx => List.mem_append_left _ hx)) (hholds KO (fun x hx => List.mem_append_right _ hx)) hMok
  have hslen := hsl.length
  refine ⟨G, hat, rfl, ?_, fun t => ?_⟩
  · show ((paramsOf P ms ps 0 E.pins).1 ++ List.replicate (fn.ntmps - ps.length) SV.junk).length ≤ _
    simp [hslen, hlen.1]
  · show Slot P ⟨w, oh, G⟩ (((paramsOf P ms ps 0 E.pins).1 ++ List.replicate (fn.ntmps - ps.length) SV.junk).getD t .junk) ((vs.toArray ++ Array.replicate (fn.ntmps - vs.toArray.size) undef).getD t undef)
    by_cases ht : t < vs.length
    · obtain ⟨x, hx⟩ : ∃ x, (paramsOf P ms ps 0 E.pins).1[t]? = some x := ⟨_, List.getElem?_eq_getElem (by omega)⟩
      have hv : vs[t]? = some vs[t] := by simp [ht]
      have h1 : ((paramsOf P ms ps 0 E.pins).1 ++ List.replicate (fn.ntmps - ps.length) SV.junk).getD t .junk = x := by
        rw [List.getD_eq_getElem?_getD, List.getElem?_append_left (by omega), hx]; rfl
      have h2 : (vs.toArray ++ Array.replicate (fn.ntmps - vs.toArray.size) undef).getD t undef = vs[t] := by
        rw [Array.getD_eq_getD_getElem?, Array.getElem?_append_left (by simpa using ht)]
        simp [ht]
      rw [h1, h2]
      exact hsl.get t x vs[t] hx hv
    · have h1 : ((paramsOf P ms ps 0 E.pins).1 ++ List.replicate (fn.ntmps - ps.length) SV.junk).getD t .junk = .junk := by
        rw [List.getD_eq_getElem?_getD, List.getElem?_append_right (by omega), List.getElem?_replicate]
        split <;> rfl
      rw [h1]; exact .junk _
/-- THE WHOLE: what the machine says of a function is what the function does. -/
theorem fnOk_of_run {f : FuncId} {fn : Func} {c : Code} {s : ASpec} {E : Env} (hmix : P.follows .mixedOrders = true) (hf : P.funcs[f]? = some fn) (hb : fn.body = some c) (hname : (fn.name == "runtime.NumGoroutine") = false) (hc : codeOk c = true)
    (hT : ∀ f s, E.T f = some s → FnOk P f s) (hts : E.ts = lentT P s.params) (hfz : E.fz = true → allRo s.params = true ∧ boxRes s.res = false) (hden : ∀ args outs, s.den args = some outs → run P E fn s.params s.res args = some outs) : FnOk P f s := by
  refine ⟨⟨fn, hf, by rw [hb]; rfl, hname⟩, fun w ok1 vs ps F L outs hglb1 hargs1 hnd hok1 hd => ?_⟩
  let ok : Nat → Prop := fun k => ok1 k ∨ (E.fz = true ∧ w.heap.size ≤ k)
  have hglb : Glb.holds (P := P) ok w := Glb.step hglb1 (Nat.le_refl _) (fun k _ hk => ⟨.inl hk, rfl⟩)
  have hFL : E.fz = true → F = [] ∧ L = [] := fun h => allRo_args (hfz h).1 hargs1
  have hargs : ArgsAt P ok w s.params vs ps F L := by
    cases hf : E.fz with
    | false =>
      have : ok = ok1 := by funext k; simp [ok, hf]
      rw [this]; exact hargs1
    | true => exact allRo_rd (fun k hk => .inl hk) (hfz hf).1 hargs1
  have hok : ∀ k ∈ F ++ L.flatMap (·.ft), ¬ ok k := fun k hk ho => by
    rcases ho with h | ⟨h, _⟩
    · exact hok1 k hk h
    · obtain ⟨rfl, rfl⟩ := hFL h
      simp at hk
  have hres : ∀ {w' : World} {vs : List Value} {F' : List Nat}, ResAt P ok w' s.res outs vs F' → ResAt P ok1 w' s.res outs vs F' := fun {w' vs F'} h => by
    cases hf : E.fz with
    | false =>
      have : ok = ok1 := by funext k; simp [ok, hf]
      rw [this] at h; exact h
    | true => exact res_nobox (hfz hf).2 h
  have hrun := hden ps outs hd
  have hLt := hargs.len.2.2
  have hE : E.pins = L.length := by show E.ts.length = _; rw [hts, ← hLt]; simp
  have hstart := start_ok (fn := fn) hE hargs hnd hok hglb
  have hbody : bodyOf fn = c := by simp [bodyOf, hb]
  unfold run at hrun
  rw [hbody] at hrun
  refine calls_of_wp hf hb ?_
  have hend : ∀ (e : Ex) (σ' : St) (a' : Act) (w' : World), fin P E fn s.res e σ' = some outs → Rel P (cx0 w ok F L) σ' a' w' → (∀ id, e ≠ .exit id) ∧ a'.defers = [] ∧ ∃ v, (results fn a'.tmps).run P w' = .ok v w' ∧ ∃ v', Ending.returned v = .returned v' ∧ FnPost P ok1 w w' s.res outs L (F ++ L.flatMap (·.ft)) v' := fun e σ' a' w' hfin ⟨G, hG⟩ => by
    have hne : ∀ id, e ≠ .exit id := fun id he => by subst he; simp [fin] at hfin
    have hfin' : (match resultSVs P σ' fn.results.toList with
      | some xs => match results1 P σ'.oh s.res xs with
        | some (vs, l) => match outMuts P σ'.oh 0 E.ts with
          | some ms => bif nodupB (List.range E.pins ++ l) then some (vs ++ ms) else none
          | none => none
        | none => none
      | none => none) = some outs := by
      cases e with
      | exit id => exact absurd rfl (hne id)
      | normal => exact hfin
      | ret => exact hfin
    refine ⟨hne, hG.defers, ?_⟩
    split at hfin'
    case h_2 => cases hfin'
    rename_i xs hxs
    split at hfin'
    case h_2 => cases hfin'
    rename_i rs l hrs
    split at hfin'
    case h_2 => cases hfin'
    rename_i ms hms
    cases hnb : nodupB (List.range E.pins ++ l) <;> simp only [hnb, cond_true, cond_false] at hfin'
    · cases hfin'
    injection hfin' with hout
    obtain ⟨rvs, e1, e2⟩ := results_ok hG hxs
    have hm := hG.at_.mem
    obtain ⟨r1, r2⟩ := results1_ok (M := ⟨w', σ'.oh, G⟩) (rest := ms) hm e2 hrs
    have hlent := outMuts_ok (M := ⟨w', σ'.oh, G⟩) hm hms (by rw [hLt, hts]) (fun j r hj => by
      have hlt := (List.getElem?_eq_some_iff.1 hj).1
      refine ⟨by simpa [cx0] using hlt, by simp [cx0, hj], fun hb => ?_⟩
      have hbx := hargs.boxes r (List.mem_of_getElem? hj) hb
      refine ⟨hbx.1, fun q u hq => ?_⟩
      have hq' := (List.getElem?_eq_some_iff.1 hq).1
      show cv0 L _ = u
      rw [Nat.zero_add]
      exact cv0_at hj hq (by omega))
    have hids := ft_nodup (M := ⟨w', σ'.oh, G⟩) hm (nodupB_nodup hnb)
    rw [hE, List.flatMap_append, List.range_eq_range'] at hids
    refine ⟨retVal rvs, results_run e1, retVal rvs, rfl, rvs, l.flatMap G.ft, (List.range' 0 L.length).map G.ft, rfl, ?_, ?_, ?_, ?_, ?_⟩
    · refine hres ?_
      rw [← hout]; exact r1
    · rw [← hout, dropRes_append r2]; exact hlent
    · rw [← List.flatMap_def]
      rw [List.nodup_append] at hids ⊢
      exact ⟨hids.2.1, hids.1, fun i hi j hj he => hids.2.2 j hj i hi he.symm⟩
    · intro k hk
      have : ∃ id, k ∈ G.ft id := by
        rcases List.mem_append.1 hk with hk | hk
        · obtain ⟨i, _, hi⟩ := List.mem_flatMap.1 hk; exact ⟨i, hi⟩
        · obtain ⟨g, hg, hkg⟩ := List.mem_flatten.1 hk
          obtain ⟨i, _, rfl⟩ := List.mem_map.1 hg
          exact ⟨i, hkg⟩
      obtain ⟨id, hid⟩ := this
      rcases hm.own id k hid with h | h
      · exact .inr h
      · exact .inl h
    · exact ⟨hm.kept.os, hm.kept.tape, hm.kept.output, hm.kept.size, fun k hk hn => hm.kept.block k hk (fun hc => by
        rcases hc with hc | hc
        · exact hn hc
        · have h9 : w.heap.size ≤ k := hc
          omega)⟩
  refine exec_ok hmix hT (by rw [hE]; rfl) (fun h k hk => Or.inr (a := ok1 k) ⟨h, by
    rcases hk with hk | hk
    · obtain ⟨rfl, rfl⟩ := hFL h
      simp at hk
    · exact hk⟩) c hc hrun hstart (fun e σ' a' w' hk hR' => ?_)
  obtain ⟨hne, h2⟩ := hend e σ' a' w' hk hR'
  cases e with
  | exit id => exact absurd rfl (hne id)
  | normal => exact h2
  | ret => exact h2
end
end Go.Proofs.YtjfigkikhmffpaaGreatDoorAm

/-! A law's arguments, as trees; a law's end. -/
namespace Go.Proofs.YtjfigkikhmffpaaGreatDoorAm
open Go RowKit
/-- Arguments of this type are read in full. -/
def goodT (P : Program) : Nat → TypeId → Bool
  | 0, _ => false
  | n + 1, t => match tk P t with
    | .int _ | .bool | .str => true
    | .slice e => goodT P n e
    | .struct fs => !isArr P t && fs.all (goodT P n)
    | _ => false
def PvOkL (f : TypeId → PV → Prop) : List TypeId → List PV → Prop
  | [], [] => True
  | t :: ts, p :: ps => f t p ∧ PvOkL f ts ps
  | _, _ => False
/-- What an argument may be. -/
def PvOk (P : Program) : Nat → TypeId → PV → Prop
  | 0, _, _ => False
  | n + 1, t, pv => match tk P t with
    | .int k => ∃ x, pv = .sc (.int k x) ∧ (Lit.int k x).wf = true
    | .bool => ∃ b, pv = .sc (.bool b)
    | .str => ∃ s, pv = .sc (.string s) ∧ s.size ≤ reachBytes
    | .slice e => ∃ ps, pv = .list ps ∧ ps.length ≤ reachBytes ∧ ∀ p ∈ ps, PvOk P n e p
    | .struct fs => ∃ ps, pv = .agg ps ∧ PvOkL (PvOk P n) fs ps
    | _ => False
section
variable {P : Program} {W W' w : World} {H : Type} {enc : TypeId × Value → H} {ok : Nat → Prop}
variable [Glb P]
theorem cellsOf_eq (t : TypeId) : P.cellsOf t = sizeOf P t := by
  unfold Program.cellsOf sizeOf
  cases P.info? t <;> rfl
theorem list_of {α : Type} {n : Nat} {p : Nat → α → Prop} (h : ∀ i, i < n → ∃ x, p i x) : ∃ xs : List α, xs.length = n ∧ ∀ j a, xs[j]? = some a → p j a := by
  induction n with
  | zero => exact ⟨[], rfl, fun j a h => by simp at h⟩
  | succ n ih =>
    obtain ⟨xs, hl, hx⟩ := ih (fun i hi => h i (by omega))
    obtain ⟨x, hp⟩ := h n (by omega)
    refine ⟨xs ++ [x], by simp [hl], fun j a hj => ?_⟩
    by_cases hjn : j < n
    · rw [List.getElem?_append_left (by omega)] at hj
      exact hx j a hj
    · have hj2 : j = n := by
        have := (List.getElem?_eq_some_iff.1 hj).1
        simp [hl] at this
        omega
      subst hj2
      rw [List.getElem?_append_right (by omega), hl] at hj
      simp at hj
      subst hj
      exact hp
theorem flds_of {n N : Nat} {cs : List Value} (hN : cs.length = N) : ∀ (gs : List Field) (o : Nat), laid P o gs N = true →
    (∀ g ∈ gs, ∃ p, Rd P ok w n g.type p ((cs.drop g.offset).take (sizeOf P g.type)) ∧ PvOk P n g.type p) → ∃ ps, Flds (Rd P ok w n) (gs.map (·.type)) ps (cs.drop o) ∧ PvOkL (PvOk P n) (gs.map (·.type)) ps
  | [], o, hl, _ => by
    have : o = N := by simpa [laid] using hl
    exact ⟨[], by show cs.drop o = []; rw [List.drop_eq_nil_iff]; omega, trivial⟩
  | g :: gs, o, hl, h => by
    simp only [laid, Bool.and_eq_true] at hl
    have ho : g.offset = o := by simpa using hl.1
    obtain ⟨p, h1, h2⟩ := h g (by simp)
    obtain ⟨ps, h3, h4⟩ := flds_of hN gs (o + sizeOf P g.type) hl.2 (fun g' hg' => h g' (by simp [hg']))
    refine ⟨p :: ps, ⟨_, _, ?_, h1, h3⟩, h2, h4⟩
    rw [ho, ← List.drop_drop]
    exact (List.take_append_drop _ _).symm
theorem weightsAll_mem {e : TypeId} {b : Nat} : ∀ {ds : List (DataW H)} {d : DataW H}, d ∈ ds → b ∈ d.weights P e → b ∈ DataW.weightsAll P e ds
  | d0 :: ds, d, hd, hb => by
    simp only [DataW.weightsAll, List.mem_append]
    rcases List.mem_cons.1 hd with rfl | hd
    · exact .inl hb
    · exact .inr (weightsAll_mem hd hb)
theorem weights_more {us : List TypeId} {b : Nat} : ∀ {ts : List TypeId} {ds : List (DataW H)}, b ∈ DataW.weightsEach P ts ds → b ∈ DataW.weightsEach P (ts ++ us) ds
  | [], ds, h => by cases ds <;> simp [DataW.weightsEach] at h
  | t :: ts, [], h => by simp [DataW.weightsEach] at h
  | t :: ts, d :: ds, h => by
    simp only [List.cons_append, DataW.weightsEach, List.mem_append] at h ⊢
    exact h.imp id weights_more
theorem trod_rd : ∀ {n : Nat} {t : TypeId} {fuel : Nat} {cs : List Value} {x : DataW H × List MemPlace}, goodT P n t = true → DataW.trod enc P w 0 (fun _ => true) true fuel t cs = some x → (∀ b ∈ x.1.weights P t, b ≤ reachBytes) →
    ∃ pv, Rd P (fun _ => True) w n t pv cs ∧ PvOk P n t pv
  | 0, t, fuel, cs, x, hg, _, _ => by simp [goodT] at hg
  | n + 1, t, fuel, cs, x, hg, h, hb => by
    unfold goodT at hg
    unfold Rd PvOk
    cases ht : tk P t with
    | int k =>
      obtain ⟨z, rfl, _, hw⟩ := DataW.trod_int (tk_int ht) h
      exact ⟨_, ⟨z, rfl, rfl⟩, z, rfl, hw⟩
    | bool =>
      obtain ⟨z, rfl, _⟩ := DataW.trod_bool (tk_bool ht) h
      exact ⟨_, ⟨z, rfl, rfl⟩, z, rfl⟩
    | str =>
      obtain ⟨z, rfl, rfl, hs⟩ := DataW.trod_string (tk_str ht) h
      refine ⟨_, ⟨z, rfl, rfl⟩, z, rfl, ?_⟩
      have := hb z.data.toList.length (by simp [DataW.weights])
      simpa using this
    | other => rw [ht] at hg; simp at hg
    | bad => rw [ht] at hg; simp at hg
    | slice e =>
      rw [ht] at hg
      obtain ⟨hu, hel⟩ := tk_slice ht
      obtain ⟨i, z, hi, _, _, _, hby, _⟩ := elemOk_info hel
      rcases Deep.open_slice hu h with ⟨rfl, _⟩ | ⟨a, len, cap, m, n', D, Pl, rfl, _, hl, hm, hmm, rfl, hx⟩
      · exact ⟨.list [], ⟨none, 0, [], rfl, rfl, Nat.le_refl _, fun h => by simp at h⟩, [], rfl, by simp, by simp⟩
      · obtain ⟨xs, hxl, hxs⟩ := list_of (n := len) (p := fun i y => ∃ cs', w.cells? 0 (a.add (i * P.cellsOf e)) (P.cellsOf e) = some cs' ∧ Rd P (fun _ => True) w n e y cs' ∧ PvOk P n e y) (fun i hi => by
          obtain ⟨cs', h1, h2⟩ := hx i (by rw [hmm]; simp; omega)
          obtain ⟨y, hy, hp⟩ := trod_rd hg h2 (fun b hbb => hb b (by
            simp only [DataW.weights, hu]
            refine List.mem_cons_of_mem _ (List.mem_append_left _ (weightsAll_mem (d := D i) (List.mem_map.2 ⟨i, by simp [hi], rfl⟩) hbb))))
          exact ⟨y, cs', h1, hy, hp⟩)
        refine ⟨.list xs, ⟨some a, cap, xs, by rw [hxl], rfl, by omega, fun _ => ⟨a, rfl, trivial, fun j p hj => ?_⟩⟩, xs, rfl, ?_, fun p hp => ?_⟩
        · obtain ⟨cs', h1, h2, _⟩ := hxs j p hj
          obtain ⟨_, hcl, hcell⟩ := World.cells?_some h1
          rw [cellsOf_eq] at hcl hcell
          refine ⟨cs', hcl, fun q u hq => ?_, h2⟩
          have hi : q < sizeOf P e := by rw [← hcl]; exact (List.getElem?_eq_some_iff.1 hq).1
          have := hcell q hi
          rw [hq, add_add] at this
          exact this
        · have hw := hb _ (by simp only [DataW.weights, hu]; exact List.mem_cons_self)
          have hbp : 0 < P.bytesOf e := by simp [Program.bytesOf, hi]; exact hby
          simp only [List.length_map, List.length_range] at hw
          have : len ≤ (len + (m - len)) * P.bytesOf e := Nat.le_trans (Nat.le_add_right _ _) (Nat.le_mul_of_pos_right _ hbp)
          omega
        · obtain ⟨j, hj⟩ := List.mem_iff_getElem?.1 hp
          obtain ⟨_, _, _, h3⟩ := hxs j p hj
          exact h3
    | struct fs =>
      rw [ht] at hg
      simp only [Bool.and_eq_true, Bool.not_eq_true'] at hg
      obtain ⟨hna, hg⟩ := hg
      obtain ⟨gs, hu, hla, hfs⟩ := tk_struct ht hna
      obtain ⟨xs, n', _, hx0, hl, hxl, hf⟩ := DataW.trod_struct hu h
      subst hx0
      have := flds_of (P := P) (ok := fun _ => True) (w := w) (n := n) (N := sizeOf P t) (cs := cs) (by rw [hl, cellsOf_eq]) gs.toList 0 hla (fun g hg' => by
        obtain ⟨i, hi⟩ := List.mem_iff_getElem?.1 hg'
        have hgi : gs[i]? = some g := by simpa using hi
        have hlt : i < xs.length := by rw [hxl]; exact (Array.getElem?_eq_some_iff.1 hgi).1
        have h1 := hf i g hgi
        rw [List.getElem?_eq_getElem hlt, cellsOf_eq] at h1
        refine trod_rd (List.all_eq_true.1 hg g.type (by rw [hfs]; exact List.mem_map_of_mem hg')) h1 (fun b hbb => hb b ?_)
        simp only [DataW.weights, hu]
        exact DataW.weights_mem_each (j := i) (by simp [hgi]) (by simp [hlt]) b hbb)
      obtain ⟨ps, h3, h4⟩ := this
      rw [← hfs] at h3 h4
      exact ⟨.agg ps, ⟨ps, rfl, by simpa using h3⟩, ps, rfl, h4⟩
theorem okWide_val {n : Nat} {r : Reach} {base : Nat} {t : TypeId} {v : Value} (hg : goodT P n t = true) (h : Value.okWide P w r base t v) : v = valOf P t v.cells.toList := by
  cases n with
  | zero => simp [goodT] at hg
  | succ n =>
    unfold goodT at hg
    cases ht : tk P t with
    | int k => obtain ⟨z, rfl⟩ := WideShapes.okWide_int (tk_int ht) h; exact (valOf_one (by rw [ht]; simp) _).symm
    | bool => obtain ⟨z, rfl⟩ := WideShapes.okWide_bool (tk_bool ht) h; exact (valOf_one (by rw [ht]; simp) _).symm
    | str => obtain ⟨z, rfl⟩ := WideShapes.okWide_string (tk_str ht) h; exact (valOf_one (by rw [ht]; simp) _).symm
    | slice e => obtain ⟨a, l, c, rfl⟩ := WideShapes.okWide_slice (tk_slice ht).1 h; exact (valOf_one (by rw [ht]; simp) _).symm
    | struct fs =>
      rw [ht] at hg
      simp only [Bool.and_eq_true, Bool.not_eq_true'] at hg
      obtain ⟨gs, hu, _⟩ := tk_struct ht hg.1
      obtain ⟨cs, rfl, _⟩ := WideShapes.okWide_struct hu h
      exact (valOf_agg ht cs).symm
    | other => rw [ht] at hg; simp at hg
    | bad => rw [ht] at hg; simp at hg
theorem law_args {n : Nat} {r : Reach} {base : Nat} : ∀ {ts : List TypeId} {vs : List Value} {ds : List (DataW H)} {pl : List MemPlace}, ts.all (goodT P n) = true → DataW.TrodAll enc P w 0 (fun _ => true) true ts vs ds pl →
    (∀ (j : Nat) t v, ts[j]? = some t → vs[j]? = some v → Value.okWide P w r base t v) → (∀ b ∈ DataW.weightsEach P ts ds, b ≤ reachBytes) → ∃ ps, ArgsAt P (fun _ => True) w (ts.map fun t => (t, Mode.ro)) vs ps [] [] ∧ PvOkL (PvOk P n) ts ps
  | [], [], [], pl, _, _, _, _ => ⟨[], ⟨rfl, rfl⟩, trivial⟩
  | t :: ts, v :: vs, d :: ds, pl, hg, ⟨p, q, ⟨fuel, h1⟩, h2, _⟩, hv, hb => by
    simp only [List.all_cons, Bool.and_eq_true] at hg
    obtain ⟨ps, a1, a2⟩ := law_args hg.2 h2 (fun j t v h3 h4 => hv (j + 1) t v (by simpa using h3) (by simpa using h4)) (fun b hbb => hb b (by simp [DataW.weightsEach, hbb]))
    obtain ⟨p, b1, b2⟩ := trod_rd hg.1 h1 (fun b hbb => hb b (by simp only [DataW.weightsEach, List.mem_append]; exact .inl hbb))
    exact ⟨p :: ps, ⟨⟨n, _, b1, okWide_val hg.1 (hv 0 t v rfl rfl)⟩, a1⟩, b2, a2⟩
  | [], _ :: _, _, _, _, h, _, _ => h.elim
  | [], [], _ :: _, _, _, h, _, _ => h.elim
  | _ :: _, [], _, _, _, h, _, _ => h.elim
  | _ :: _, _ :: _, [], _, _, h, _, _ => h.elim
theorem law_back (hl : laidOutB P = true) (bel : Below W.heap.size W W') : ∀ {ts : List TypeId} {vs : List Value} {ds : List (DataW H)} {pl : List MemPlace}, ts.all (fun t => P.readableRec t && decide (t < P.types.size)) = true → DataW.TrodAll enc P W 0 (fun _ => true) true ts vs ds pl →
    DataW.TrodAll enc P W' 0 (fun b => decide (b < W.heap.size)) true ts vs ds pl
  | [], [], [], pl, _, h => h
  | t :: ts, v :: vs, d :: ds, pl, hr, ⟨p, q, h1, h2, h3⟩ => by
    simp only [List.all_cons, Bool.and_eq_true, decide_eq_true_eq] at hr
    have hlt : ∀ x ∈ p, x.block < W.heap.size := by obtain ⟨m, hm⟩ := h1; exact DataW.trod_lt m _ _ _ hm
    exact ⟨p, q, Below.trod hl hr.1.1 hr.1.2 h1 bel hlt, law_back hl bel hr.2 h2, h3⟩
  | [], _ :: _, _, _, _, h => h.elim
  | [], [], _ :: _, _, _, h => h.elim
  | _ :: _, [], _, _, _, h => h.elim
  | _ :: _, _ :: _, [], _, _, h => h.elim
/-- A law's end: it has said true. -/
theorem law_end {t : TypeId} {v : Value} (ht : tk P t = .bool) (h : FnPost P ok W W' [(t, .val)] [.sc (.bool true)] [] [] v) : v = .bool true ∧ Below W.heap.size W W' := by
  obtain ⟨vs, F, Gs, rfl, hr, _, _, _, hs⟩ := h
  match vs, hr with
  | u :: us, ⟨⟨n, cs, h1, h2⟩, h3⟩ =>
    obtain ⟨rfl, _⟩ := h3
    refine ⟨?_, hs.os, hs.tape, hs.output, hs.size, fun k hk => hs.block k hk (by simp)⟩
    cases n with
    | zero => exact h1.elim
    | succ n =>
      unfold Rd at h1
      simp only [ht] at h1
      obtain ⟨b, hb, rfl⟩ := h1
      simp at hb; subst hb
      rw [valOf_one (by rw [ht]; simp)] at h2
      show u = _
      rw [h2]
  | [], h => exact h.elim
theorem lk_ok {l : List (FuncId × ASpec)} (h : ∀ x ∈ l, FnOk P x.1 x.2) : ∀ f s, lk l f = some s → FnOk P f s := by
  induction l with
  | nil => intro f s h; simp [lk] at h
  | cons x r ih =>
    intro f s hs
    unfold lk at hs
    cases hb : Nat.beq x.1 f
    · rw [hb] at hs; exact ih (fun y hy => h y (List.mem_cons_of_mem _ hy)) f s hs
    · rw [hb] at hs
      injection hs with hs
      have : x.1 = f := Nat.beq_eq.mp hb
      subst this hs
      exact h x (by simp)
theorem fnOk_of {f : FuncId} {fn : Func} {s : ASpec} {E : Env} (hmix : P.follows .mixedOrders = true) (hf : P.funcs[f]? = some fn) (hb : fn.body.isSome = true) (hname : (fn.name == "runtime.NumGoroutine") = false) (hc : codeOk (bodyOf fn) = true)
    (hT : ∀ f s, E.T f = some s → FnOk P f s) (hts : E.ts = lentT P s.params) (hden : ∀ args outs, s.den args = some outs → run P E fn s.params s.res args = some outs) (hfz : E.fz = false := by rfl) : FnOk P f s := by
  obtain ⟨c, hc'⟩ := Option.isSome_iff_exists.1 hb
  exact fnOk_of_run hmix hf hc' hname (by simpa [bodyOf, hc'] using hc) hT hts (fun h => by rw [hfz] at h; cases h) hden
theorem fnOk_ofz {f : FuncId} {fn : Func} {s : ASpec} {E : Env} (hmix : P.follows .mixedOrders = true) (hf : P.funcs[f]? = some fn) (hb : fn.body.isSome = true) (hname : (fn.name == "runtime.NumGoroutine") = false) (hc : codeOk (bodyOf fn) = true)
    (hT : ∀ f s, E.T f = some s → FnOk P f s) (hts : E.ts = lentT P s.params) (hden : ∀ args outs, s.den args = some outs → run P E fn s.params s.res args = some outs) (hro : allRo s.params = true := by rfl) (hbr : boxRes s.res = false := by rfl) : FnOk P f s := by
  obtain ⟨c, hc'⟩ := Option.isSome_iff_exists.1 hb
  exact fnOk_of_run hmix hf hc' hname (by simpa [bodyOf, hc'] using hc) hT hts (fun _ => ⟨hro, hbr⟩) hden
/-- A function that calls itself: rounds of calls, d deep. -/
theorem fnOk_rec {f : FuncId} {fn : Func} {ps : List (TypeId × Mode)} {res : List (TypeId × RMode)} (hmix : P.follows .mixedOrders = true) (hf : P.funcs[f]? = some fn) (hb : fn.body.isSome = true) (hname : (fn.name == "runtime.NumGoroutine") = false) (hc : codeOk (bodyOf fn) = true)
    (g : Nat → List PV → Option Res) (E : Nat → Env) (h0 : ∀ a, g 0 a = none) (hT : ∀ d, FnOk P f ⟨ps, res, g d⟩ → ∀ f' s, (E d).T f' = some s → FnOk P f' s) (hts : ∀ d, (E d).ts = lentT P ps)
    (hden : ∀ d args outs, g (d + 1) args = some outs → run P (E d) fn ps res args = some outs) (hfz : ∀ d, (E d).fz = false := by intro _; rfl) : ∀ d, FnOk P f ⟨ps, res, g d⟩
  | 0 => ⟨⟨fn, hf, by obtain ⟨c, h⟩ := Option.isSome_iff_exists.1 hb; rw [h]; rfl, hname⟩, fun _ _ _ _ _ _ _ _ _ _ _ h => by
      have h' : g 0 _ = some _ := h
      rw [h0] at h'; cases h'⟩
  | d + 1 => fnOk_of (s := ⟨ps, res, g (d + 1)⟩) (E := E d) hmix hf hb hname hc (hT d (fnOk_rec hmix hf hb hname hc g E h0 hT hts hden hfz d)) (hts d) (hden d) (hfz d)
theorem all_nil {Q : FuncId × ASpec → Prop} : ∀ x ∈ ([] : List (FuncId × ASpec)), Q x := fun _ h => by cases h
theorem all_cons {Q : FuncId × ASpec → Prop} {x : FuncId × ASpec} {l : List (FuncId × ASpec)} (h : Q x) (hl : ∀ y ∈ l, Q y) : ∀ y ∈ x :: l, Q y := fun y hy => by
  rcases List.mem_cons.1 hy with rfl | hy
  · exact h
  · exact hl y hy
end
end Go.Proofs.YtjfigkikhmffpaaGreatDoorAm

/-! A kit of small plain laws: rounds, numbers, lists, trees of plain values. -/
namespace Go.Proofs.YtjfigkikhmffpaaGreatDoorAm
open Go RowKit
/-! ### Rounds -/
def Ev {α : Type} (g : Nat → Option α) (r : α) : Prop := ∃ k0, ∀ k, k0 ≤ k → g k = some r
def Ev2 {α : Type} (g : Nat → Nat → Option α) (r : α) : Prop := ∃ k0, ∀ N n, k0 ≤ N → k0 ≤ n → g N n = some r
def Ev3 {α : Type} (g : Nat → Nat → Nat → Option α) (r : α) : Prop := ∃ k0, ∀ N m n, k0 ≤ N → k0 ≤ m → k0 ≤ n → g N m n = some r
def Ev4 {α : Type} (g : Nat → Nat → Nat → Nat → Option α) (r : α) : Prop := ∃ k0, ∀ N l m n, k0 ≤ N → k0 ≤ l → k0 ≤ m → k0 ≤ n → g N l m n = some r
section
variable {α β : Type} {r : α} {s : β}
theorem Ev.now (r : α) : Ev (fun _ => some r) r := ⟨0, fun _ _ => rfl⟩
theorem Ev2.now (r : α) : Ev2 (fun _ _ => some r) r := ⟨0, fun _ _ _ _ => rfl⟩
theorem Ev3.now (r : α) : Ev3 (fun _ _ _ => some r) r := ⟨0, fun _ _ _ _ _ _ => rfl⟩
theorem Ev4.now (r : α) : Ev4 (fun _ _ _ _ => some r) r := ⟨0, fun _ _ _ _ _ _ _ _ => rfl⟩
theorem Ev.of {g : Nat → Option α} (h : ∀ N, g N = some r) : Ev g r := ⟨0, fun N _ => h N⟩
theorem Ev.congr {g g' : Nat → Option α} (h : ∀ N, g N = g' N) (h' : Ev g' r) : Ev g r := by
  obtain ⟨k, hk⟩ := h'; exact ⟨k, fun N hN => (h N).trans (hk N hN)⟩
theorem Ev2.congr {g g' : Nat → Nat → Option α} (h : ∀ N n, g N n = g' N n) (h' : Ev2 g' r) : Ev2 g r := by
  obtain ⟨k, hk⟩ := h'; exact ⟨k, fun N n hN hn => (h N n).trans (hk N n hN hn)⟩
theorem Ev3.congr {g g' : Nat → Nat → Nat → Option α} (h : ∀ N m n, g N m n = g' N m n) (h' : Ev3 g' r) : Ev3 g r := by
  obtain ⟨k, hk⟩ := h'; exact ⟨k, fun N m n hN hm hn => (h N m n).trans (hk N m n hN hm hn)⟩
theorem Ev.up {g : Nat → Option α} (h : Ev g r) : Ev2 (fun N _ => g N) r := by obtain ⟨k, hk⟩ := h; exact ⟨k, fun N _ hN _ => hk N hN⟩
theorem Ev.up3 {g : Nat → Option α} (h : Ev g r) : Ev3 (fun N _ _ => g N) r := by obtain ⟨k, hk⟩ := h; exact ⟨k, fun N _ _ hN _ _ => hk N hN⟩
theorem Ev.up4 {g : Nat → Option α} (h : Ev g r) : Ev4 (fun N _ _ _ => g N) r := by obtain ⟨k, hk⟩ := h; exact ⟨k, fun N _ _ _ hN _ _ _ => hk N hN⟩
theorem Ev2.diag {g : Nat → Nat → Option α} (h : Ev2 g r) : Ev (fun N => g N N) r := by obtain ⟨k, hk⟩ := h; exact ⟨k, fun N hN => hk N N hN hN⟩
/-- A loop inside a loop, from its start. -/
theorem Ev3.start {g : Nat → Nat → Nat → Option α} (h : Ev3 g r) : Ev2 (fun N n => g N n N) r := by obtain ⟨k, hk⟩ := h; exact ⟨k, fun N n hN hn => hk N n N hN hn hN⟩
theorem Ev4.start {g : Nat → Nat → Nat → Nat → Option α} (h : Ev4 g r) : Ev3 (fun N m n => g N m n N) r := by obtain ⟨k, hk⟩ := h; exact ⟨k, fun N m n hN hm hn => hk N m n N hN hm hn hN⟩
/-- A loop behind a loop. -/
theorem Ev2.after {g : Nat → Nat → Option α} (h : Ev2 g r) : Ev2 (fun N _ => g N N) r := by obtain ⟨k, hk⟩ := h; exact ⟨k, fun N _ hN _ => hk N N hN hN⟩
theorem Ev2.after3 {g : Nat → Nat → Option α} (h : Ev2 g r) : Ev3 (fun N _ _ => g N N) r := by obtain ⟨k, hk⟩ := h; exact ⟨k, fun N _ _ hN _ _ => hk N N hN hN⟩
/-- The loop around goes on. -/
theorem Ev2.outer {g : Nat → Nat → Option α} (h : Ev2 g r) : Ev3 (fun N m _ => g N m) r := by obtain ⟨k, hk⟩ := h; exact ⟨k, fun N m _ hN hm _ => hk N m hN hm⟩
theorem Ev3.outer {g : Nat → Nat → Nat → Option α} (h : Ev3 g r) : Ev4 (fun N l m _ => g N l m) r := by obtain ⟨k, hk⟩ := h; exact ⟨k, fun N l m _ hN hl hm _ => hk N l m hN hl hm⟩
theorem Ev2.outer4 {g : Nat → Nat → Option α} (h : Ev2 g r) : Ev4 (fun N l _ _ => g N l) r := by obtain ⟨k, hk⟩ := h; exact ⟨k, fun N l _ _ hN hl _ _ => hk N l hN hl⟩
theorem Ev3.after {g : Nat → Nat → Nat → Option α} (h : Ev3 g r) : Ev3 (fun N m _ => g N m N) r := by obtain ⟨k, hk⟩ := h; exact ⟨k, fun N m _ hN hm _ => hk N m N hN hm hN⟩
theorem Ev2.succ {g : Nat → Nat → Option α} (h : Ev2 (fun N n => g N (n + 1)) r) : Ev2 g r := by
  obtain ⟨k, hk⟩ := h
  refine ⟨k + 1, fun N n hN hn => ?_⟩
  obtain ⟨m, rfl⟩ : ∃ m, n = m + 1 := ⟨n - 1, by omega⟩
  exact hk N m (by omega) (by omega)
theorem Ev3.succ {g : Nat → Nat → Nat → Option α} (h : Ev3 (fun N m n => g N m (n + 1)) r) : Ev3 g r := by
  obtain ⟨k, hk⟩ := h
  refine ⟨k + 1, fun N m n hN hm hn => ?_⟩
  obtain ⟨n, rfl⟩ : ∃ n', n = n' + 1 := ⟨n - 1, by omega⟩
  exact hk N m n (by omega) (by omega) (by omega)
theorem Ev4.succ {g : Nat → Nat → Nat → Nat → Option α} (h : Ev4 (fun N l m n => g N l m (n + 1)) r) : Ev4 g r := by
  obtain ⟨k, hk⟩ := h
  refine ⟨k + 1, fun N l m n hN hl hm hn => ?_⟩
  obtain ⟨n, rfl⟩ : ∃ n', n = n' + 1 := ⟨n - 1, by omega⟩
  exact hk N l m n (by omega) (by omega) (by omega) (by omega)
theorem Ev.bind {g : Nat → Option β} {f : Nat → β → Option α} (h : Ev g s) (k : Ev (fun N => f N s) r) : Ev (fun N => (g N).bind (f N)) r := by
  obtain ⟨k1, h1⟩ := h; obtain ⟨k2, h2⟩ := k
  exact ⟨max k1 k2, fun N hN => by
    show (g N).bind (f N) = _
    rw [h1 N (by omega), Option.bind_some]; exact h2 N (by omega)⟩
theorem Ev2.bind {g : Nat → Option β} {f : Nat → Nat → β → Option α} (h : Ev g s) (k : Ev2 (fun N n => f N n s) r) : Ev2 (fun N n => (g N).bind (f N n)) r := by
  obtain ⟨k1, h1⟩ := h; obtain ⟨k2, h2⟩ := k
  exact ⟨max k1 k2, fun N n hN hn => by
    show (g N).bind (f N n) = _
    rw [h1 N (by omega), Option.bind_some]; exact h2 N n (by omega) (by omega)⟩
theorem Ev3.bind {g : Nat → Option β} {f : Nat → Nat → Nat → β → Option α} (h : Ev g s) (k : Ev3 (fun N m n => f N m n s) r) : Ev3 (fun N m n => (g N).bind (f N m n)) r := by
  obtain ⟨k1, h1⟩ := h; obtain ⟨k2, h2⟩ := k
  exact ⟨max k1 k2, fun N m n hN hm hn => by
    show (g N).bind (f N m n) = _
    rw [h1 N (by omega), Option.bind_some]; exact h2 N m n (by omega) (by omega) (by omega)⟩
theorem Ev4.bind {g : Nat → Option β} {f : Nat → Nat → Nat → Nat → β → Option α} (h : Ev g s) (k : Ev4 (fun N l m n => f N l m n s) r) : Ev4 (fun N l m n => (g N).bind (f N l m n)) r := by
  obtain ⟨k1, h1⟩ := h; obtain ⟨k2, h2⟩ := k
  exact ⟨max k1 k2, fun N l m n hN hl hm hn => by
    show (g N).bind (f N l m n) = _
    rw [h1 N (by omega), Option.bind_some]; exact h2 N l m n (by omega) (by omega) (by omega) (by omega)⟩
theorem Ev.ext {g : Nat → Option α} {r' : α} (h : Ev g r) (e : r = r') : Ev g r' := e ▸ h
theorem Ev2.ext {g : Nat → Nat → Option α} {r' : α} (h : Ev2 g r) (e : r = r') : Ev2 g r' := e ▸ h
theorem Ev3.ext {g : Nat → Nat → Nat → Option α} {r' : α} (h : Ev3 g r) (e : r = r') : Ev3 g r' := e ▸ h
theorem Ev.some {g : Nat → Option α} (h : Ev g r) : ∃ N, g N = Option.some r := by obtain ⟨k, hk⟩ := h; exact ⟨k, hk k (Nat.le_refl _)⟩
end
/-! ### Plain values as trees -/
abbrev strP (s : ByteArray) : PV := .sc (.string s)
abbrev intP (n : Int) : PV := .sc (.int .i64 n)
abbrev boolP (b : Bool) : PV := .sc (.bool b)
def strsP (l : List ByteArray) : PV := .list (l.map strP)
def intsP (l : List Int) : PV := .list (l.map intP)
theorem items_list (l : List PV) : (PV.list l).items = l := rfl
/-- Whole numbers of 32 bits, as trees. -/
def numsL (l : List Int) : List PV := l.map fun x => .sc (.int .u32 x)
theorem fld_agg (l : List PV) (i : Nat) : (PV.agg l).fld i = l.getD i default := rfl
theorem elem_list (l : List PV) (i : Nat) : (PV.list l).elem i = l.getD i default := rfl
theorem toStr_sc (s : ByteArray) : (PV.sc (.string s)).toStr = s := rfl
theorem toInt_sc (k : IntKind) (n : Int) : (PV.sc (.int k n)).toInt = n := rfl
theorem toBool_sc (b : Bool) : (PV.sc (.bool b)).toBool = b := rfl
theorem headD_one (v : PV) (l : List PV) : (v :: l).headD default = v := rfl
theorem strs_len (l : List ByteArray) : (strsP l).items.length = l.length := by simp [strsP, PV.items]
theorem ints_len (l : List Int) : (intsP l).items.length = l.length := by simp [intsP, PV.items]
theorem strs_elem (l : List ByteArray) (i : Nat) : ((strsP l).elem i).toStr = l.getD i ByteArray.empty := by
  simp only [strsP, elem_list, List.getD_eq_getElem?_getD, List.getElem?_map]
  cases l[i]? <;> rfl
theorem ints_elem (l : List Int) (i : Nat) : ((intsP l).elem i).toInt = l.getD i 0 := by
  simp only [intsP, elem_list, List.getD_eq_getElem?_getD, List.getElem?_map]
  cases l[i]? <;> rfl
theorem strs_take (l : List ByteArray) (i j : Nat) : PV.list (((strsP l).items.drop i).take j) = strsP ((l.drop i).take j) := by simp [strsP, PV.items]
theorem ints_take (l : List Int) (i j : Nat) : PV.list (((intsP l).items.drop i).take j) = intsP ((l.drop i).take j) := by simp [intsP, PV.items]
/-! ### Numbers -/
theorem wrap_id {n : Int} (h0 : -9223372036854775808 ≤ n) (h1 : n < 9223372036854775808) : IntKind.i64.wrap n = n := by
  have h : IntKind.i64.wrap n = if (n % 18446744073709551616) ≥ 9223372036854775808 then n % 18446744073709551616 - 18446744073709551616 else n % 18446744073709551616 := by
    simp [IntKind.wrap, IntKind.signed, IntKind.bits]
  rw [h]; split <;> omega
theorem nn {n : Nat} : (0 : Int) ≤ (n : Int) := Int.natCast_nonneg n
theorem nat_int (n : Nat) : ((n : Int)).toNat = n := rfl
theorem dec_true {p : Prop} [Decidable p] (h : p) : (decide p = true) = True := by simp [h]
theorem dec_false {p : Prop} [Decidable p] (h : ¬ p) : (decide p = true) = False := by simp [h]
/-! ### Texts -/
theorem toList_inj {s t : ByteArray} : s.toList = t.toList ↔ s = t := by
  constructor
  · intro h
    have h1 : s.data.toList = t.data.toList := by simpa [ByteArray.toList_eq] using h
    cases s; cases t; simp at h1; simp [h1]
  · rintro rfl; rfl
instance decText : DecidableEq ByteArray := fun a b => decidable_of_iff (a.toList = b.toList) toList_inj
instance decIn (c : ByteArray) : (l : List ByteArray) → Decidable (c ∈ l)
  | [] => isFalse (by simp)
  | x :: r => match decText c x, decIn c r with
    | isTrue h, _ => isTrue (by simp [h])
    | isFalse _, isTrue h => isTrue (by simp [h])
    | isFalse h1, isFalse h2 => isFalse (by simp [h1, h2])
/-- A text's byte, as a number. -/
def bt (s : ByteArray) (i : Nat) : Int := ((s.get! i).toNat : Int)
theorem get_bt (s : ByteArray) (i : Nat) : (((s.get! i).toNat : Nat) : Int) = bt s i := rfl
def bytesOf (s : ByteArray) : List Int := s.data.toList.map fun b => (b.toNat : Int)
theorem bytesOf_len (s : ByteArray) : (bytesOf s).length = s.size := by simp [bytesOf]
theorem bt_bytes (s : ByteArray) (i : Nat) : bt s i = (bytesOf s).getD i 0 := by
  unfold bt bytesOf ByteArray.get!
  rw [List.getD_eq_getElem?_getD, List.getElem?_map]
  by_cases h : i < s.size
  · simp [getElem!_def, h, Array.getElem?_eq_getElem (show i < s.data.size from h)]
  · rw [List.getElem?_eq_none (by simpa using h)]
    have : s.data[i]? = none := Array.getElem?_eq_none (by simpa using h)
    simp [getElem!_def, this]; rfl
theorem bytesOf_inj {s t : ByteArray} (h : bytesOf s = bytesOf t) : s = t := by
  have : s.data.toList = t.data.toList := by
    have := (List.map_inj_right (f := fun b : UInt8 => (b.toNat : Int)) (fun x y h => by
      have h' : x.toNat = y.toNat := Int.ofNat.inj h
      exact UInt8.toNat_inj.1 h')).1 h
    exact this
  cases s; cases t; simp at this; simp [this]
/-! ### A place in a list: what stands there, and the next place -/
section
variable {α : Type} {xs pre rest : List α} {c : α}
theorem at_lt (hp : xs = pre ++ c :: rest) : (pre.length : Int) < (xs.length : Int) := by subst hp; simp; omega
theorem at_ltN (hp : xs = pre ++ c :: rest) : pre.length < xs.length := by subst hp; simp
theorem at_end (hp : xs = pre ++ []) : ¬ (pre.length : Int) < (xs.length : Int) := by subst hp; simp
theorem at_step (hp : xs = pre ++ c :: rest) : xs = (pre ++ [c]) ++ rest := by subst hp; simp
theorem at_next (hp : xs = pre ++ c :: rest) (hx : xs.length ≤ 9223372036854775807) : IntKind.i64.wrap ((pre.length : Int) + 1) = ((pre ++ [c]).length : Int) := by
  have := at_lt hp
  rw [wrap_id (by omega) (by omega)]; simp
theorem at_getD {d : α} (hp : xs = pre ++ c :: rest) : xs.getD pre.length d = c := by subst hp; simp
theorem at_bt {s : ByteArray} {pre rest : List Int} {c : Int} (hp : bytesOf s = pre ++ c :: rest) : bt s pre.length = c := by rw [bt_bytes]; exact at_getD hp
theorem at_size {s : ByteArray} {pre rest : List Int} {c : Int} (hp : bytesOf s = pre ++ c :: rest) : (pre.length : Int) < (s.size : Int) := by have := at_lt hp; rwa [bytesOf_len] at this
theorem at_sizeE {s : ByteArray} {pre : List Int} (hp : bytesOf s = pre ++ []) : ¬ (pre.length : Int) < (s.size : Int) := by have := at_end hp; rwa [bytesOf_len] at this
theorem set_mid (pre : List α) (c x : α) (rest : List α) : (pre ++ c :: rest).set pre.length x = pre ++ x :: rest := by simp [List.set_append]
theorem zero_len : (0 : Int) = (([] : List α).length : Int) := rfl
end
/-! ### Arguments of plain types -/
section
variable {P : Program} {n : Nat} {t e : TypeId} {p : PV}
theorem pvOk_int {k : IntKind} (ht : tk P t = .int k) (h : PvOk P (n + 1) t p) : ∃ x, p = .sc (.int k x) ∧ (Lit.int k x).wf = true := by unfold PvOk at h; simpa only [ht] using h
theorem pvOk_bool (ht : tk P t = .bool) (h : PvOk P (n + 1) t p) : ∃ b, p = boolP b := by unfold PvOk at h; simpa only [ht] using h
theorem pvOk_str (ht : tk P t = .str) (h : PvOk P (n + 1) t p) : ∃ s, p = strP s ∧ s.size ≤ reachBytes := by unfold PvOk at h; simpa only [ht] using h
theorem pvOk_slice (ht : tk P t = .slice e) (h : PvOk P (n + 1) t p) : ∃ ps, p = .list ps ∧ ps.length ≤ reachBytes ∧ ∀ q ∈ ps, PvOk P n e q := by unfold PvOk at h; simpa only [ht] using h
theorem pvOk_struct {fs : List TypeId} (ht : tk P t = .struct fs) (h : PvOk P (n + 1) t p) : ∃ ps, p = .agg ps ∧ PvOkL (PvOk P n) fs ps := by unfold PvOk at h; simpa only [ht] using h
theorem pvOkL_cons {f : TypeId → PV → Prop} {t : TypeId} {ts : List TypeId} {ps : List PV} (h : PvOkL f (t :: ts) ps) : ∃ p qs, ps = p :: qs ∧ f t p ∧ PvOkL f ts qs := by
  cases ps with
  | nil => exact h.elim
  | cons p qs => exact ⟨p, qs, rfl, h.1, h.2⟩
theorem pvOkL_nil {f : TypeId → PV → Prop} {ps : List PV} (h : PvOkL f [] ps) : ps = [] := by
  cases ps with
  | nil => rfl
  | cons p qs => exact h.elim
theorem pvOkL1 {f : TypeId → PV → Prop} {t : TypeId} {ps : List PV} (h : PvOkL f [t] ps) : ∃ p, ps = [p] ∧ f t p := by
  obtain ⟨p, qs, rfl, h1, h2⟩ := pvOkL_cons h
  exact ⟨p, by rw [pvOkL_nil h2], h1⟩
theorem pvOkL2 {f : TypeId → PV → Prop} {t u : TypeId} {ps : List PV} (h : PvOkL f [t, u] ps) : ∃ p q, ps = [p, q] ∧ f t p ∧ f u q := by
  obtain ⟨p, qs, rfl, h1, h2⟩ := pvOkL_cons h
  obtain ⟨q, rfl, h3⟩ := pvOkL1 h2
  exact ⟨p, q, rfl, h1, h3⟩
theorem pvOkL3 {f : TypeId → PV → Prop} {t u v : TypeId} {ps : List PV} (h : PvOkL f [t, u, v] ps) : ∃ p q r, ps = [p, q, r] ∧ f t p ∧ f u q ∧ f v r := by
  obtain ⟨p, qs, rfl, h1, h2⟩ := pvOkL_cons h
  obtain ⟨q, r, rfl, h3, h4⟩ := pvOkL2 h2
  exact ⟨p, q, r, rfl, h1, h3, h4⟩
theorem map_of {α : Type} {f : α → PV} {φ : α → Prop} : ∀ {ps : List PV}, (∀ q ∈ ps, ∃ x, q = f x ∧ φ x) → ∃ xs : List α, ps = xs.map f ∧ ∀ x ∈ xs, φ x
  | [], _ => ⟨[], rfl, by simp⟩
  | p :: ps, h => by
    obtain ⟨x, hx, hp⟩ := h p (by simp)
    obtain ⟨xs, hxs, hps⟩ := map_of (f := f) (φ := φ) (ps := ps) (fun q hq => h q (by simp [hq]))
    exact ⟨x :: xs, by simp [hx, hxs], fun y hy => (List.mem_cons.1 hy).elim (fun he => he ▸ hp) (hps y)⟩
theorem pvOk_strs (ht : tk P t = .slice e) (he : tk P e = .str) (h : PvOk P (n + 2) t p) : ∃ l, p = strsP l ∧ l.length ≤ reachBytes ∧ ∀ s ∈ l, s.size ≤ reachBytes := by
  obtain ⟨ps, rfl, h1, h2⟩ := pvOk_slice ht h
  obtain ⟨xs, rfl, h3⟩ := map_of (f := strP) (φ := fun s => s.size ≤ reachBytes) (fun q hq => pvOk_str he (h2 q hq))
  exact ⟨xs, rfl, by simpa using h1, h3⟩
theorem pvOk_ints (ht : tk P t = .slice e) (he : tk P e = .int .i64) (h : PvOk P (n + 2) t p) : ∃ l, p = intsP l ∧ l.length ≤ reachBytes ∧ ∀ x ∈ l, (Lit.int .i64 x).wf = true := by
  obtain ⟨ps, rfl, h1, h2⟩ := pvOk_slice ht h
  obtain ⟨xs, rfl, h3⟩ := map_of (f := intP) (φ := fun x => (Lit.int .i64 x).wf = true) (fun q hq => pvOk_int he (h2 q hq))
  exact ⟨xs, rfl, by simpa using h1, h3⟩
theorem wf_i64 {x : Int} (h : (Lit.int .i64 x).wf = true) : -9223372036854775808 ≤ x ∧ x < 9223372036854775808 := by
  simp [Lit.wf, IntKind.min, IntKind.max, IntKind.signed, IntKind.bits] at h
  omega
end
end Go.Proofs.YtjfigkikhmffpaaGreatDoorAm

/-! Package-level variables whose initial contents a row lists. -/
namespace Go.Proofs.YtjfigkikhmffpaaGreatDoorAm
open Go RowKit
def goodS (P : Program) : Nat → TypeId → Bool
  | 0, _ => false
  | n + 1, t => match tk P t with
    | .int _ | .bool | .str => true
    | .slice e => goodS P n e
    | .struct _ => (match arrOf P t with | some (_, e) => goodS P n e | none => false)
    | _ => false
/-- A datum as a tree. -/
def pvD {H : Type} (P : Program) : Nat → TypeId → DataW H → PV
  | 0, _, _ => default
  | n + 1, t, d => match tk P t, d with
    | .int k, .lit (.int k' x) => .sc (.int k' x)
    | .bool, .lit (.bool b) => .sc (.bool b)
    | .str, .lit (.string l) => .sc (.string ⟨l.toArray⟩)
    | .slice e, .nil => .list []
    | .slice e, .slice es _ => .list (es.map (pvD P n e))
    | .struct _, .agg ds => (match arrOf P t with | some (_, e) => .agg (ds.map (pvD P n e)) | none => default)
    | _, _ => default
section
variable {P : Program} [Glb P] {w : World} {H : Type} {enc : TypeId × Value → H} {spare : Nat → Bool} {held : Bool}
theorem flds_chunks {R : TypeId → PV → List Value → Prop} {e : TypeId} {f : DataW H × List MemPlace → PV} : ∀ (xs : List (DataW H × List MemPlace)) (cs : List Value), cs.length = xs.length → (∀ i x, xs[i]? = some x → R e (f x) ((cs.drop i).take 1)) → Flds R (List.replicate xs.length e) (xs.map f) cs
  | [], cs, hl, _ => by
    have : cs = [] := List.eq_nil_of_length_eq_zero hl
    subst this; rfl
  | x :: xs, [], hl, _ => by simp at hl
  | x :: xs, c :: cs, hl, h => by
    have h0 := h 0 x rfl
    refine ⟨[c], cs, rfl, by simpa using h0, flds_chunks xs cs (by simpa using hl) (fun i y hy => ?_)⟩
    have := h (i + 1) y (by simpa using hy)
    simpa using this
theorem trod_pvD : ∀ {n : Nat} {t : TypeId} {fuel : Nat} {cs : List Value} {x : DataW H × List MemPlace}, goodS P n t = true → DataW.trod enc P w 0 spare held fuel t cs = some x → Rd P (fun _ => True) w n t (pvD P n t x.1) cs
  | 0, t, fuel, cs, x, hg, _ => by simp [goodS] at hg
  | n + 1, t, fuel, cs, x, hg, h => by
    unfold goodS at hg
    unfold Rd pvD
    cases ht : tk P t with
    | int k =>
      obtain ⟨z, rfl, rfl, hw⟩ := DataW.trod_int (tk_int ht) h
      exact ⟨z, rfl, rfl⟩
    | bool =>
      obtain ⟨z, rfl, rfl⟩ := DataW.trod_bool (tk_bool ht) h
      exact ⟨z, rfl, rfl⟩
    | str =>
      obtain ⟨z, rfl, rfl, hs⟩ := DataW.trod_string (tk_str ht) h
      exact ⟨z, by simp, rfl⟩
    | other => rw [ht] at hg; simp at hg
    | bad => rw [ht] at hg; simp at hg
    | struct fs =>
      rw [ht] at hg
      cases hao : arrOf P t with
      | none => rw [hao] at hg; cases hg
      | some na =>
        obtain ⟨na, e⟩ := na
        rw [hao] at hg
        obtain ⟨c1, c2, c3, _⟩ := tk_arr hao ht
        subst c1
        obtain ⟨xs, m, rfl, rfl, hcl, hxl, hx⟩ := DataW.trod_array (arrOf_some hao) h
        rw [cellsOf_eq, c2] at hcl
        refine ⟨xs.map (fun x => pvD P n e x.1), by simp, ?_⟩
        have := flds_chunks (R := Rd P (fun _ => True) w n) (e := e) (f := fun x => pvD P n e x.1) xs cs (by omega) (fun i x hi => ?_)
        · rw [hxl] at this; exact this
        · have hin : i < na := by rw [← hxl]; exact (List.getElem?_eq_some_iff.1 hi).1
          have h2 := hx i hin
          rw [hi, cellsOf_eq, c3, Nat.mul_one] at h2
          exact trod_pvD hg h2
    | slice e =>
      rw [ht] at hg
      obtain ⟨hu, hel⟩ := tk_slice ht
      rcases Deep.open_slice hu h with ⟨rfl, rfl⟩ | ⟨a, len, cap, m, n', D, Pl, rfl, _, hl, hm, hmm, rfl, hx⟩
      · exact ⟨none, 0, [], rfl, rfl, Nat.le_refl _, fun h => by simp at h⟩
      · have hlen : (((List.range len).map D).map (pvD P n e)).length = len := by simp
        refine ⟨some a, cap, ((List.range len).map D).map (pvD P n e), by rw [hlen], rfl, by rw [hlen]; exact hl, fun _ => ⟨a, rfl, trivial, fun j p hj => ?_⟩⟩
        have hj' : j < len := by
          have := (List.getElem?_eq_some_iff.1 hj).1
          rwa [hlen] at this
        have hp : p = pvD P n e (D j) := by
          simp [hj'] at hj
          exact hj.symm
        subst hp
        obtain ⟨cs', h1, h2⟩ := hx j (by rw [hmm]; split <;> omega)
        obtain ⟨_, hcl, hcell⟩ := World.cells?_some h1
        rw [cellsOf_eq] at hcl hcell
        refine ⟨cs', hcl, fun q u hq => ?_, trod_pvD hg h2⟩
        have hi : q < sizeOf P e := by rw [← hcl]; exact (List.getElem?_eq_some_iff.1 hq).1
        have := hcell q hi
        rw [hq, add_add] at this
        exact this
theorem loc_var {g : Nat} {cs : Array Value} {t : TypeId} {fz : Nat × Nat} (h : w.heap[g]? = some (.cells cs t fz)) : Loc w ⟨g, 0, none⟩ cs.toList := fun q u hq => by
  have hq' : cs[q]? = some u := by simpa using hq
  unfold Addr.add
  split <;> simp_all [World.cell?]
theorem glAt_laid {n : String} {d : DataW Unit} {g : Nat} {t : TypeId} {k : Nat} (hg : P.globalNamed n = some g) (ht : (P.globals[g]?).map (·.type) = some t) (hgood : goodS P k t = true) : ∀ {laid : List (String × DataW Unit)} {ps : List MemPlace},
    DataW.LaidVars P w laid ps → (n, d) ∈ laid → GlAt P (fun _ => True) w g t (pvD P k t d)
  | [], _, _, hm => by cases hm
  | (n', d') :: r, ps, ⟨g', t', cs, fuel, p, q, h1, h2, h3, h4, h5, h6⟩, hm => by
    rcases List.mem_cons.1 hm with he | hm
    · injection he with e1 e2; subst e1 e2
      rw [hg] at h1; injection h1 with h1; subst h1
      rw [ht] at h2; injection h2 with h2; subst h2
      unfold World.var? at h3
      rw [hg] at h3
      simp only [Option.bind_some] at h3
      split at h3
      · rename_i cs' t0 fz hh
        injection h3 with h3; subst h3
        exact ⟨trivial, (Array.getElem?_eq_some_iff.1 hh).1, k, _, loc_var hh, trod_pvD hgood h4⟩
      · cases h3
    · exact glAt_laid hg ht hgood h5 hm
/-- A block of a table of whole numbers. -/
def tabObj (k : IntKind) (zs : List Int) (o : Obj) : Prop := ∃ t fz, o = .cells (zs.map fun z => Value.int k z).toArray t fz
theorem tab_laid {n : String} {d : DataW Unit} {g : Nat} {t : TypeId} {k : Nat} {kd : IntKind} {zs : List Int} {na : Nat} {e : TypeId} {fs : List TypeId} (hao : arrOf P t = some (na, e)) (hts : tk P t = .struct fs) (hte : tk P e = .int kd) (hg : P.globalNamed n = some g) (ht : (P.globals[g]?).map (·.type) = some t) (hgood : goodS P k t = true) (hpv : pvD P k t d = .agg (zs.map fun z => .sc (.int kd z))) : ∀ {laid : List (String × DataW Unit)} {ps : List MemPlace},
    DataW.LaidVars P w laid ps → (n, d) ∈ laid → ∃ o, w.heap[g]? = some o ∧ tabObj kd zs o
  | [], _, _, hm => by cases hm
  | (n', d') :: r, ps, ⟨g', t', cs, fuel, p, q, h1, h2, h3, h4, h5, h6⟩, hm => by
    rcases List.mem_cons.1 hm with he | hm
    · injection he with e1 e2; subst e1 e2
      rw [hg] at h1; injection h1 with h1; subst h1
      rw [ht] at h2; injection h2 with h2; subst h2
      unfold World.var? at h3
      rw [hg] at h3
      simp only [Option.bind_some] at h3
      split at h3
      · rename_i cs' t0 fz hh
        injection h3 with h3; subst h3
        have hr := trod_pvD hgood h4
        obtain ⟨c1, _⟩ := tk_arr hao hts
        subst c1
        have ha := rd_arr (arrOf_some hao) hts hte hr
        obtain ⟨_, _, ps, _, _, _, b4, _, _, b7⟩ := ha
        have hpv' : pvD P k t d = .agg ps := b4
        rw [hpv] at hpv'
        injection hpv' with hpv'
        subst hpv'
        refine ⟨_, hh, t0, fz, ?_⟩
        have : cs' = (zs.map fun z => Value.int kd z).toArray := by
          apply Array.toList_inj.1
          rw [b7]
          simp [PV.toVal, Function.comp_def]
        rw [this]
      · cases h3
    · exact tab_laid hao hts hte hg ht hgood hpv h5 hm
theorem var_of_tab {n : String} {g : Nat} {kd : IntKind} {zs : List Int} (hg : P.globalNamed n = some g) (h : ∃ o, w.heap[g]? = some o ∧ tabObj kd zs o) : w.var? P n = some (zs.map fun z => Value.int kd z).toArray := by
  obtain ⟨o, h1, t, fz, rfl⟩ := h
  unfold World.var?
  rw [hg]
  simp only [Option.bind_some, h1]
theorem someI64_of {g : Nat} (h : ∃ m, w.cell? ⟨g, 0, none⟩ = some (.int .i64 m)) : ∃ o, w.heap[g]? = some o ∧ someI64 o := by
  obtain ⟨m, hm⟩ := h
  unfold World.cell? at hm
  cases ho : w.heap[g]? with
  | none => simp [ho] at hm
  | some o =>
    refine ⟨o, rfl, ?_⟩
    cases o with
    | cells cs t fz => simp [ho] at hm; exact ⟨cs, t, fz, m, rfl, hm⟩
    | _ => simp [ho] at hm
theorem cell_of_someI64 {g : Nat} (h : ∃ o, w.heap[g]? = some o ∧ someI64 o) : ∃ m, w.cell? ⟨g, 0, none⟩ = some (.int .i64 m) := by
  obtain ⟨o, h1, cs, t, fz, m, rfl, h2⟩ := h
  exact ⟨m, by simp [World.cell?, h1, h2]⟩
end
theorem all_nil' {α : Type} {Q : α → Prop} : ∀ x ∈ ([] : List α), Q x := fun _ h => by cases h
theorem all_cons' {α : Type} {Q : α → Prop} {x : α} {l : List α} (h : Q x) (hl : ∀ y ∈ l, Q y) : ∀ y ∈ x :: l, Q y := fun y hy => by
  rcases List.mem_cons.1 hy with rfl | hy
  · exact h
  · exact hl y hy
def HasFn (P : Program) (f : FuncId) : Prop := ∃ fn, P.funcs[f]? = some fn ∧ fn.body.isNone = false ∧ (fn.name == "runtime.NumGoroutine") = false
/-- A row that lists variables, with the world's shape. -/
theorem returns_am {H : Type} {enc : TypeId × Value → H} {a : Assume} {C : Checked} {os : Os} {f : FuncId} {fn : Func} {s : ChangeSpec} {conds : List PathCond} {apart fresh handsOn again : Bool} {X : World → Array Value → Prop}
    (hX : ∀ (w w' : World) (args : Array Value), w.heap = w'.heap → X w args → X w' args)
    (own : ownKnob C.prog.godebug = none) (started : os.Started) (noInit : C.prog.inits.idxOf? f = none) (hfn : C.prog.funcs[f]? = some fn)
    (witness : ∃ (w : World) (tape : Tape) (i : Input), w.os = os ∧ (w.forCall tape i).Shaped C.prog ∧ i.vars = [] ∧ Input.okWide C.prog (w.forCall tape i) .any w.heap.size f i ∧
      ((s.pre enc C.prog fn conds apart (w.forCall tape i).memory i.args ∧ X (w.forCall tape i).memory i.args) ∧ sizedMet enc C.prog fn (OpenSpec.ofChange s) apart (w.forCall tape i).memory i.args) ∧ a.holds C.prog (lone (Frame.enter C.prog f i.args .normal) [] (w.forCall tape i)))
    (contract : ∀ (W : World) (base : Nat) (args : Array Value) (ds gs : List (DataW H)) (before : List MemPlace),
      (∀ (j : Nat) t v, fn.params[j]? = some t → args[j]? = some v → Value.okWide C.prog W .any base t v) →
      DataW.Whole enc C.prog fn.params.toList s.vars apart W args.toList ds gs before →
      conds.all (PathCond.test C.prog ⟨fn.params.toList, ds, s.plain.varTypes C.prog, gs⟩) = true →
      (DataW.weightsEach C.prog (fn.params.toList ++ s.plain.varTypes C.prog) (ds ++ gs)).all (· ≤ reachBytes) = true → X W args → W.ShapedOpen C.prog →
      Calls C.prog f args W fun e W' => ∃ v, e = .returned v ∧ s.post enc C.prog fn apart fresh handsOn again W args v W') :
    ReturnsInHanded a C os f .any (fun w args => (s.pre enc C.prog fn conds apart w args ∧ X w args) ∧ sizedMet enc C.prog fn (OpenSpec.ofChange s) apart w args) (s.post enc C.prog fn apart fresh handsOn again) := by
  refine returnsInHanded_of_calls own started noInit witness fun w tape i _ hsh _ hok hpre _ => ?_
  obtain ⟨_, _, _, fn2, hfn2, _, _, _, _, hval⟩ := hok
  obtain rfl : fn2 = fn := Option.some.inj (hfn2.symm.trans hfn)
  obtain ⟨⟨⟨ds, gs, before, h1, h2⟩, h3⟩, h4⟩ := hpre
  refine (contract (w.forCall tape i) w.heap.size i.args ds gs before hval (DataW.Whole.of_heap (w' := w.forCall tape i) (by rfl) h1) h2 (h4.weights h1) (hX _ _ _ (by rfl) h3) hsh).mono ?_
  rintro e W' ⟨v, rfl, hp⟩
  exact ChangeSpec.post_blind hp
/-- A row without variables, with the world's shape. -/
theorem returns_am6 {H : Type} {enc : TypeId × Value → H} {a : Assume} {C : Checked} {os : Os} {f : FuncId} {fn : Func} {s : ChangeSpec} {conds : List PathCond} {apart fresh handsOn again : Bool}
    (own : ownKnob C.prog.godebug = none) (started : os.Started) (noInit : C.prog.inits.idxOf? f = none) (hfn : C.prog.funcs[f]? = some fn)
    (witness : ∃ (w : World) (tape : Tape) (i : Input), w.os = os ∧ (w.forCall tape i).Shaped C.prog ∧ i.vars = [] ∧ Input.okWide C.prog (w.forCall tape i) .any w.heap.size f i ∧
      s.pre6 enc C.prog fn conds apart (w.forCall tape i).memory i.args ∧ a.holds C.prog (lone (Frame.enter C.prog f i.args .normal) [] (w.forCall tape i)))
    (contract : ∀ (W : World) (base : Nat) (args : Array Value) (ds gs : List (DataW H)) (before : List MemPlace),
      (∀ (j : Nat) t v, fn.params[j]? = some t → args[j]? = some v → Value.okWide C.prog W .any base t v) →
      DataW.Whole enc C.prog fn.params.toList s.vars apart W args.toList ds gs before →
      conds.all (PathCond.test C.prog ⟨fn.params.toList, ds, s.plain.varTypes C.prog, gs⟩) = true →
      (DataW.weightsEach C.prog (fn.params.toList ++ s.plain.varTypes C.prog) (ds ++ gs)).all (· ≤ reachBytes) = true → W.ShapedOpen C.prog →
      Calls C.prog f args W fun e W' => ∃ v, e = .returned v ∧ s.post enc C.prog fn apart fresh handsOn again W args v W') :
    ReturnsInHanded a C os f .any (s.pre6 enc C.prog fn conds apart) (s.post enc C.prog fn apart fresh handsOn again) := by
  refine returnsInHanded_of_calls own started noInit witness fun w tape i _ hsh _ hok hpre _ => ?_
  obtain ⟨_, _, _, fn2, hfn2, _, _, _, _, hval⟩ := hok
  obtain rfl : fn2 = fn := Option.some.inj (hfn2.symm.trans hfn)
  obtain ⟨⟨ds, gs, before, h1, h2⟩, h4⟩ := hpre
  refine (contract (w.forCall tape i) w.heap.size i.args ds gs before hval (DataW.Whole.of_heap (w' := w.forCall tape i) (by rfl) h1) h2 (h4.weights h1) hsh).mono ?_
  rintro e W' ⟨v, rfl, hp⟩
  exact ChangeSpec.post_blind hp
/-! What a call leaves of listed variables. -/
def varOk (P : Program) (n : String) : Bool := match P.globalNamed n with
  | some g => (match (P.globals[g]?).map (·.type) with | some t => P.readableRec t && decide (t < P.types.size) | none => false)
  | none => false
theorem vars_back {H : Type} {enc : TypeId × Value → H} {P : Program} {W W' : World} (hl : laidOutB P = true) (bel : Below W.heap.size W W') : ∀ {ns : List String} {gs : List (DataW H)} {q : List MemPlace}, ns.all (varOk P) = true →
    DataW.TrodVars enc P W (fun _ => true) ns gs q → DataW.TrodVars enc P W' (fun b => decide (b < W.heap.size)) ns gs q
  | [], [], q, _, h => h
  | n :: ns, d :: ds, q, hr, ⟨g, t, cs, fuel, p, q', h1, h2, h3, h4, h5, h6⟩ => by
    simp only [List.all_cons, Bool.and_eq_true] at hr
    have hv : P.readableRec t = true ∧ t < P.types.size := by
      have := hr.1
      unfold varOk at this
      rw [h1] at this
      simp only [h2, Bool.and_eq_true, decide_eq_true_eq] at this
      exact this
    have h3' : W'.var? P n = some cs := by
      unfold World.var? at h3 ⊢
      rw [h1] at h3 ⊢
      simp only [Option.bind_some] at h3 ⊢
      split at h3
      · rename_i c t0 fr hb
        have hlt : g < W.heap.size := (Array.getElem?_eq_some_iff.1 hb).1
        rw [bel.block g hlt, hb]
        exact h3
      · cases h3
    have hlt : ∀ x ∈ p, x.block < W.heap.size := DataW.trod_lt fuel _ _ _ h4
    obtain ⟨fuel', h7⟩ := Below.trod (v := .agg cs) hl hv.1 hv.2 ⟨fuel, h4⟩ bel hlt
    exact ⟨g, t, cs, fuel', p, q', h1, h2, h3', h7, vars_back hl bel hr.2 h5, h6⟩
  | [], _ :: _, _, _, h => h.elim
  | _ :: _, [], _, _, h => h.elim
theorem vars_len {H : Type} {enc : TypeId × Value → H} {P : Program} {W : World} {sp : Nat → Bool} : ∀ {ns : List String} {gs : List (DataW H)} {q : List MemPlace}, DataW.TrodVars enc P W sp ns gs q → gs.length = ns.length
  | [], [], _, _ => rfl
  | _ :: _, _ :: _, _, ⟨_, _, _, _, _, _, _, _, _, _, h5, _⟩ => by rw [List.length_cons, List.length_cons, vars_len h5]
  | [], _ :: _, _, h => h.elim
  | _ :: _, [], _, h => h.elim
theorem weights_more2 {H : Type} {P : Program} {us : List TypeId} {es : List (DataW H)} {b : Nat} : ∀ {ts : List TypeId} {ds : List (DataW H)}, b ∈ DataW.weightsEach P ts ds → b ∈ DataW.weightsEach P (ts ++ us) (ds ++ es)
  | [], ds, h => by cases ds <;> simp [DataW.weightsEach] at h
  | t :: ts, [], h => by simp [DataW.weightsEach] at h
  | t :: ts, d :: ds, h => by
    simp only [List.cons_append, DataW.weightsEach, List.mem_append] at h ⊢
    exact h.imp id weights_more2
end Go.Proofs.YtjfigkikhmffpaaGreatDoorAm

