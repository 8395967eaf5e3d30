/- An abstract machine for the loaded code, proved sound, part 5 of 5: no conditions. -/
import Derived.Test.YtfbkfhdlingedaaAm4
import Derived.LaidLaws
import Derived.Handed
import Derived.Shelf.Vars
set_option linter.unusedVariables false
set_option linter.unusedSimpArgs false
set_option linter.unusedSectionVars false
/-! Package-level variables whose initial contents a row lists. -/
namespace Go.Proofs.YtfbkfhdlingedaaAm
open Go RowKit
def goodS (P : Program) : Nat → TypeId → Bool
  | 0, _ => false
  | n + 1, t => match tk P t with
    | .int _ | .bool | .str => true
    | .slice e => goodS P n e
    | .struct _ => (match arrOf P t with | some (_, e) => goodS P n e | none => false)
    | _ => false
/-- A datum as a tree. -/
def pvD {H : Type} (P : Program) : Nat → TypeId → DataW H → PV
  | 0, _, _ => default
  | n + 1, t, d => match tk P t, d with
    | .int k, .lit (.int k' x) => .sc (.int k' x)
    | .bool, .lit (.bool b) => .sc (.bool b)
    | .str, .lit (.string l) => .sc (.string ⟨l.toArray⟩)
    | .slice e, .nil => .list []
    | .slice e, .slice es _ => .list (es.map (pvD P n e))
    | .struct _, .agg ds => (match arrOf P t with | some (_, e) => .agg (ds.map (pvD P n e)) | none => default)
    | _, _ => default
section
variable {P : Program} [Glb P] {w : World} {H : Type} {enc : TypeId × Value → H} {spare : Nat → Bool} {held : Bool}
theorem flds_chunks {R : TypeId → PV → List Value → Prop} {e : TypeId} {f : DataW H × List MemPlace → PV} : ∀ (xs : List (DataW H × List MemPlace)) (cs : List Value), cs.length = xs.length → (∀ i x, xs[i]? = some x → R e (f x) ((cs.drop i).take 1)) → Flds R (List.replicate xs.length e) (xs.map f) cs
  | [], cs, hl, _ => by
    have : cs = [] := List.eq_nil_of_length_eq_zero hl
    subst this; rfl
  | x :: xs, [], hl, _ => by simp at hl
  | x :: xs, c :: cs, hl, h => by
    have h0 := h 0 x rfl
    refine ⟨[c], cs, rfl, by simpa using h0, flds_chunks xs cs (by simpa using hl) (fun i y hy => ?_)⟩
    have := h (i + 1) y (by simpa using hy)
    simpa using this
theorem trod_pvD : ∀ {n : Nat} {t : TypeId} {fuel : Nat} {cs : List Value} {x : DataW H × List MemPlace}, goodS P n t = true → DataW.trod enc P w 0 spare held fuel t cs = some x → Rd P (fun _ => True) w n t (pvD P n t x.1) cs
  | 0, t, fuel, cs, x, hg, _ => by simp [goodS] at hg
  | n + 1, t, fuel, cs, x, hg, h => by
    unfold goodS at hg
    unfold Rd pvD
    cases ht : tk P t with
    | int k =>
      obtain ⟨z, rfl, rfl, hw⟩ := DataW.trod_int (tk_int ht) h
      exact ⟨z, rfl, rfl⟩
    | bool =>
      obtain ⟨z, rfl, rfl⟩ := DataW.trod_bool (tk_bool ht) h
      exact ⟨z, rfl, rfl⟩
    | str =>
      obtain ⟨z, rfl, rfl, hs⟩ := DataW.trod_string (tk_str ht) h
      exact ⟨z, by simp, rfl⟩
    | other => rw [ht] at hg; simp at hg
    | bad => rw [ht] at hg; simp at hg
    | struct fs =>
      rw [ht] at hg
      cases hao : arrOf P t with
      | none => rw [hao] at hg; cases hg
      | some na =>
        obtain ⟨na, e⟩ := na
        rw [hao] at hg
        obtain ⟨c1, c2, c3, _⟩ := tk_arr hao ht
        subst c1
        obtain ⟨xs, m, rfl, rfl, hcl, hxl, hx⟩ := DataW.trod_array (arrOf_some hao) h
        rw [cellsOf_eq, c2] at hcl
        refine ⟨xs.map (fun x => pvD P n e x.1), by simp, ?_⟩
        have := flds_chunks (R := Rd P (fun _ => True) w n) (e := e) (f := fun x => pvD P n e x.1) xs cs (by omega) (fun i x hi => ?_)
        · rw [hxl] at this; exact this
        · have hin : i < na := by rw [← hxl]; exact (List.getElem?_eq_some_iff.1 hi).1
          have h2 := hx i hin
          rw [hi, cellsOf_eq, c3, Nat.mul_one] at h2
          exact trod_pvD hg h2
    | slice e =>
      rw [ht] at hg
      obtain ⟨hu, hel⟩ := tk_slice ht
      rcases Deep.open_slice hu h with ⟨rfl, rfl⟩ | ⟨a, len, cap, m, n', D, Pl, rfl, _, hl, hm, hmm, rfl, hx⟩
      · exact ⟨none, 0, [], rfl, rfl, Nat.le_refl _, fun h => by simp at h⟩
      · have hlen : (((List.range len).map D).map (pvD P n e)).length = len := by simp
        refine ⟨some a, cap, ((List.range len).map D).map (pvD P n e), by rw [hlen], rfl, by rw [hlen]; exact hl, fun _ => ⟨a, rfl, trivial, fun j p hj => ?_⟩⟩
        have hj' : j < len := by
          have := (List.getElem?_eq_some_iff.1 hj).1
          rwa [hlen] at this
        have hp : p = pvD P n e (D j) := by
          simp [hj'] at hj
          exact hj.symm
        subst hp
        obtain ⟨cs', h1, h2⟩ := hx j (by rw [hmm]; split <;> omega)
        obtain ⟨_, hcl, hcell⟩ := World.cells?_some h1
        rw [cellsOf_eq] at hcl hcell
        refine ⟨cs', hcl, fun q u hq => ?_, trod_pvD hg h2⟩
        have hi : q < sizeOf P e := by rw [← hcl]; exact (List.getElem?_eq_some_iff.1 hq).1
        have := hcell q hi
        rw [hq, add_add] at this
        exact this
theorem loc_var {g : Nat} {cs : Array Value} {t : TypeId} {fz : Nat × Nat} (h : w.heap[g]? = some (.cells cs t fz)) : Loc w ⟨g, 0, none⟩ cs.toList := fun q u hq => by
  have hq' : cs[q]? = some u := by simpa using hq
  unfold Addr.add
  split <;> simp_all [World.cell?]
theorem glAt_laid {n : String} {d : DataW Unit} {g : Nat} {t : TypeId} {k : Nat} (hg : P.globalNamed n = some g) (ht : (P.globals[g]?).map (·.type) = some t) (hgood : goodS P k t = true) : ∀ {laid : List (String × DataW Unit)} {ps : List MemPlace},
    DataW.LaidVars P w laid ps → (n, d) ∈ laid → GlAt P (fun _ => True) w g t (pvD P k t d)
  | [], _, _, hm => by cases hm
  | (n', d') :: r, ps, ⟨g', t', cs, fuel, p, q, h1, h2, h3, h4, h5, h6⟩, hm => by
    rcases List.mem_cons.1 hm with he | hm
    · injection he with e1 e2; subst e1 e2
      rw [hg] at h1; injection h1 with h1; subst h1
      rw [ht] at h2; injection h2 with h2; subst h2
      unfold World.var? at h3
      rw [hg] at h3
      simp only [Option.bind_some] at h3
      split at h3
      · rename_i cs' t0 fz hh
        injection h3 with h3; subst h3
        exact ⟨trivial, (Array.getElem?_eq_some_iff.1 hh).1, k, _, loc_var hh, trod_pvD hgood h4⟩
      · cases h3
    · exact glAt_laid hg ht hgood h5 hm
/-- A block of a table of whole numbers. -/
def tabObj (k : IntKind) (zs : List Int) (o : Obj) : Prop := ∃ t fz, o = .cells (zs.map fun z => Value.int k z).toArray t fz
theorem tab_laid {n : String} {d : DataW Unit} {g : Nat} {t : TypeId} {k : Nat} {kd : IntKind} {zs : List Int} {na : Nat} {e : TypeId} {fs : List TypeId} (hao : arrOf P t = some (na, e)) (hts : tk P t = .struct fs) (hte : tk P e = .int kd) (hg : P.globalNamed n = some g) (ht : (P.globals[g]?).map (·.type) = some t) (hgood : goodS P k t = true) (hpv : pvD P k t d = .agg (zs.map fun z => .sc (.int kd z))) : ∀ {laid : List (String × DataW Unit)} {ps : List MemPlace},
    DataW.LaidVars P w laid ps → (n, d) ∈ laid → ∃ o, w.heap[g]? = some o ∧ tabObj kd zs o
  | [], _, _, hm => by cases hm
  | (n', d') :: r, ps, ⟨g', t', cs, fuel, p, q, h1, h2, h3, h4, h5, h6⟩, hm => by
    rcases List.mem_cons.1 hm with he | hm
    · injection he with e1 e2; subst e1 e2
      rw [hg] at h1; injection h1 with h1; subst h1
      rw [ht] at h2; injection h2 with h2; subst h2
      unfold World.var? at h3
      rw [hg] at h3
      simp only [Option.bind_some] at h3
      split at h3
      · rename_i cs' t0 fz hh
        injection h3 with h3; subst h3
        have hr := trod_pvD hgood h4
        obtain ⟨c1, _⟩ := tk_arr hao hts
        subst c1
        have ha := rd_arr (arrOf_some hao) hts hte hr
        obtain ⟨_, _, ps, _, _, _, b4, _, _, b7⟩ := ha
        have hpv' : pvD P k t d = .agg ps := b4
        rw [hpv] at hpv'
        injection hpv' with hpv'
        subst hpv'
        refine ⟨_, hh, t0, fz, ?_⟩
        have : cs' = (zs.map fun z => Value.int kd z).toArray := by
          apply Array.toList_inj.1
          rw [b7]
          simp [PV.toVal, Function.comp_def]
        rw [this]
      · cases h3
    · exact tab_laid hao hts hte hg ht hgood hpv h5 hm
theorem var_of_tab {n : String} {g : Nat} {kd : IntKind} {zs : List Int} (hg : P.globalNamed n = some g) (h : ∃ o, w.heap[g]? = some o ∧ tabObj kd zs o) : w.var? P n = some (zs.map fun z => Value.int kd z).toArray := by
  obtain ⟨o, h1, t, fz, rfl⟩ := h
  unfold World.var?
  rw [hg]
  simp only [Option.bind_some, h1]
theorem someI64_of {g : Nat} (h : ∃ m, w.cell? ⟨g, 0, none⟩ = some (.int .i64 m)) : ∃ o, w.heap[g]? = some o ∧ someI64 o := by
  obtain ⟨m, hm⟩ := h
  unfold World.cell? at hm
  cases ho : w.heap[g]? with
  | none => simp [ho] at hm
  | some o =>
    refine ⟨o, rfl, ?_⟩
    cases o with
    | cells cs t fz => simp [ho] at hm; exact ⟨cs, t, fz, m, rfl, hm⟩
    | _ => simp [ho] at hm
theorem cell_of_someI64 {g : Nat} (h : ∃ o, w.heap[g]? = some o ∧ someI64 o) : ∃ m, w.cell? ⟨g, 0, none⟩ = some (.int .i64 m) := by
  obtain ⟨o, h1, cs, t, fz, m, rfl, h2⟩ := h
  exact ⟨m, by simp [World.cell?, h1, h2]⟩
end
theorem all_nil' {α : Type} {Q : α → Prop} : ∀ x ∈ ([] : List α), Q x := fun _ h => by cases h
theorem all_cons' {α : Type} {Q : α → Prop} {x : α} {l : List α} (h : Q x) (hl : ∀ y ∈ l, Q y) : ∀ y ∈ x :: l, Q y := fun y hy => by
  rcases List.mem_cons.1 hy with rfl | hy
  · exact h
  · exact hl y hy
def HasFn (P : Program) (f : FuncId) : Prop := ∃ fn, P.funcs[f]? = some fn ∧ fn.body.isNone = false ∧ (fn.name == "runtime.NumGoroutine") = false
/-- A row that lists variables, with the world's shape. -/
theorem returns_am {H : Type} {enc : TypeId × Value → H} {a : Assume} {C : Checked} {os : Os} {f : FuncId} {fn : Func} {s : ChangeSpec} {conds : List PathCond} {apart fresh handsOn again : Bool} {X : World → Array Value → Prop}
    (hX : ∀ (w w' : World) (args : Array Value), w.heap = w'.heap → X w args → X w' args)
    (own : ownKnob C.prog.godebug = none) (started : os.Started) (noInit : C.prog.inits.idxOf? f = none) (hfn : C.prog.funcs[f]? = some fn)
    (witness : ∃ (w : World) (tape : Tape) (i : Input), w.os = os ∧ (w.forCall tape i).Shaped C.prog ∧ i.vars = [] ∧ Input.okWide C.prog (w.forCall tape i) .any w.heap.size f i ∧
      ((s.pre enc C.prog fn conds apart (w.forCall tape i).memory i.args ∧ X (w.forCall tape i).memory i.args) ∧ sizedMet enc C.prog fn (OpenSpec.ofChange s) apart (w.forCall tape i).memory i.args) ∧ a.holds C.prog (lone (Frame.enter C.prog f i.args .normal) [] (w.forCall tape i)))
    (contract : ∀ (W : World) (base : Nat) (args : Array Value) (ds gs : List (DataW H)) (before : List MemPlace),
      (∀ (j : Nat) t v, fn.params[j]? = some t → args[j]? = some v → Value.okWide C.prog W .any base t v) →
      DataW.Whole enc C.prog fn.params.toList s.vars apart W args.toList ds gs before →
      conds.all (PathCond.test C.prog ⟨fn.params.toList, ds, s.plain.varTypes C.prog, gs⟩) = true →
      (DataW.weightsEach C.prog (fn.params.toList ++ s.plain.varTypes C.prog) (ds ++ gs)).all (· ≤ reachBytes) = true → X W args → W.ShapedOpen C.prog →
      Calls C.prog f args W fun e W' => ∃ v, e = .returned v ∧ s.post enc C.prog fn apart fresh handsOn again W args v W') :
    ReturnsInHanded a C os f .any (fun w args => (s.pre enc C.prog fn conds apart w args ∧ X w args) ∧ sizedMet enc C.prog fn (OpenSpec.ofChange s) apart w args) (s.post enc C.prog fn apart fresh handsOn again) := by
  refine returnsInHanded_of_calls own started noInit witness fun w tape i _ hsh _ hok hpre _ => ?_
  obtain ⟨_, _, _, fn2, hfn2, _, _, _, _, hval⟩ := hok
  obtain rfl : fn2 = fn := Option.some.inj (hfn2.symm.trans hfn)
  obtain ⟨⟨⟨ds, gs, before, h1, h2⟩, h3⟩, h4⟩ := hpre
  refine (contract (w.forCall tape i) w.heap.size i.args ds gs before hval (DataW.Whole.of_heap (w' := w.forCall tape i) (by rfl) h1) h2 (h4.weights h1) (hX _ _ _ (by rfl) h3) hsh).mono ?_
  rintro e W' ⟨v, rfl, hp⟩
  exact ChangeSpec.post_blind hp
/-- A row without variables, with the world's shape. -/
theorem returns_am6 {H : Type} {enc : TypeId × Value → H} {a : Assume} {C : Checked} {os : Os} {f : FuncId} {fn : Func} {s : ChangeSpec} {conds : List PathCond} {apart fresh handsOn again : Bool}
    (own : ownKnob C.prog.godebug = none) (started : os.Started) (noInit : C.prog.inits.idxOf? f = none) (hfn : C.prog.funcs[f]? = some fn)
    (witness : ∃ (w : World) (tape : Tape) (i : Input), w.os = os ∧ (w.forCall tape i).Shaped C.prog ∧ i.vars = [] ∧ Input.okWide C.prog (w.forCall tape i) .any w.heap.size f i ∧
      s.pre6 enc C.prog fn conds apart (w.forCall tape i).memory i.args ∧ a.holds C.prog (lone (Frame.enter C.prog f i.args .normal) [] (w.forCall tape i)))
    (contract : ∀ (W : World) (base : Nat) (args : Array Value) (ds gs : List (DataW H)) (before : List MemPlace),
      (∀ (j : Nat) t v, fn.params[j]? = some t → args[j]? = some v → Value.okWide C.prog W .any base t v) →
      DataW.Whole enc C.prog fn.params.toList s.vars apart W args.toList ds gs before →
      conds.all (PathCond.test C.prog ⟨fn.params.toList, ds, s.plain.varTypes C.prog, gs⟩) = true →
      (DataW.weightsEach C.prog (fn.params.toList ++ s.plain.varTypes C.prog) (ds ++ gs)).all (· ≤ reachBytes) = true → W.ShapedOpen C.prog →
      Calls C.prog f args W fun e W' => ∃ v, e = .returned v ∧ s.post enc C.prog fn apart fresh handsOn again W args v W') :
    ReturnsInHanded a C os f .any (s.pre6 enc C.prog fn conds apart) (s.post enc C.prog fn apart fresh handsOn again) := by
  refine returnsInHanded_of_calls own started noInit witness fun w tape i _ hsh _ hok hpre _ => ?_
  obtain ⟨_, _, _, fn2, hfn2, _, _, _, _, hval⟩ := hok
  obtain rfl : fn2 = fn := Option.some.inj (hfn2.symm.trans hfn)
  obtain ⟨⟨ds, gs, before, h1, h2⟩, h4⟩ := hpre
  refine (contract (w.forCall tape i) w.heap.size i.args ds gs before hval (DataW.Whole.of_heap (w' := w.forCall tape i) (by rfl) h1) h2 (h4.weights h1) hsh).mono ?_
  rintro e W' ⟨v, rfl, hp⟩
  exact ChangeSpec.post_blind hp
/-! What a call leaves of listed variables. -/
def varOk (P : Program) (n : String) : Bool := match P.globalNamed n with
  | some g => (match (P.globals[g]?).map (·.type) with | some t => P.readableRec t && decide (t < P.types.size) | none => false)
  | none => false
theorem vars_back {H : Type} {enc : TypeId × Value → H} {P : Program} {W W' : World} (hl : laidOutB P = true) (bel : Below W.heap.size W W') : ∀ {ns : List String} {gs : List (DataW H)} {q : List MemPlace}, ns.all (varOk P) = true →
    DataW.TrodVars enc P W (fun _ => true) ns gs q → DataW.TrodVars enc P W' (fun b => decide (b < W.heap.size)) ns gs q
  | [], [], q, _, h => h
  | n :: ns, d :: ds, q, hr, ⟨g, t, cs, fuel, p, q', h1, h2, h3, h4, h5, h6⟩ => by
    simp only [List.all_cons, Bool.and_eq_true] at hr
    have hv : P.readableRec t = true ∧ t < P.types.size := by
      have := hr.1
      unfold varOk at this
      rw [h1] at this
      simp only [h2, Bool.and_eq_true, decide_eq_true_eq] at this
      exact this
    have h3' : W'.var? P n = some cs := by
      unfold World.var? at h3 ⊢
      rw [h1] at h3 ⊢
      simp only [Option.bind_some] at h3 ⊢
      split at h3
      · rename_i c t0 fr hb
        have hlt : g < W.heap.size := (Array.getElem?_eq_some_iff.1 hb).1
        rw [bel.block g hlt, hb]
        exact h3
      · cases h3
    have hlt : ∀ x ∈ p, x.block < W.heap.size := DataW.trod_lt fuel _ _ _ h4
    obtain ⟨fuel', h7⟩ := Below.trod (v := .agg cs) hl hv.1 hv.2 ⟨fuel, h4⟩ bel hlt
    exact ⟨g, t, cs, fuel', p, q', h1, h2, h3', h7, vars_back hl bel hr.2 h5, h6⟩
  | [], _ :: _, _, _, h => h.elim
  | _ :: _, [], _, _, h => h.elim
theorem vars_len {H : Type} {enc : TypeId × Value → H} {P : Program} {W : World} {sp : Nat → Bool} : ∀ {ns : List String} {gs : List (DataW H)} {q : List MemPlace}, DataW.TrodVars enc P W sp ns gs q → gs.length = ns.length
  | [], [], _, _ => rfl
  | _ :: _, _ :: _, _, ⟨_, _, _, _, _, _, _, _, _, _, h5, _⟩ => by rw [List.length_cons, List.length_cons, vars_len h5]
  | [], _ :: _, _, h => h.elim
  | _ :: _, [], _, h => h.elim
theorem weights_more2 {H : Type} {P : Program} {us : List TypeId} {es : List (DataW H)} {b : Nat} : ∀ {ts : List TypeId} {ds : List (DataW H)}, b ∈ DataW.weightsEach P ts ds → b ∈ DataW.weightsEach P (ts ++ us) (ds ++ es)
  | [], ds, h => by cases ds <;> simp [DataW.weightsEach] at h
  | t :: ts, [], h => by simp [DataW.weightsEach] at h
  | t :: ts, d :: ds, h => by
    simp only [List.cons_append, DataW.weightsEach, List.mem_append] at h ⊢
    exact h.imp id weights_more2
end Go.Proofs.YtfbkfhdlingedaaAm

