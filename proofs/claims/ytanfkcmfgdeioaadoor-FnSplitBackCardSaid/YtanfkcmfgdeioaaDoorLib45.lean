/- Functions of the library, as functions of trees, by the contracts of the shelf: no conditions. -/
import Derived.Test.YtanfkcmfgdeioaaDoorAm3
import Derived.Shelf.Strings.Search3
import Derived.Shelf.Strings.Replace
set_option linter.unusedVariables false
set_option linter.unusedSimpArgs false
/-! Functions of the library from plain values to plain values. -/
namespace Go.Proofs.YtanfkcmfgdeioaaDoorAm
open Go RowKit Go.Shelf Go.Proofs
section
variable {P : Program} [Glb P] {w w' : World} {t u : TypeId} {ρ : Shelf.Ren} {f : FuncId} {ok : Nat → Prop} {p : PV} {v : Value}
def scal (P : Program) (t : TypeId) : Bool := match tk P t with | .int _ | .bool | .str => true | _ => false
def kindB (P : Program) (t : TypeId) (v : Value) : Bool := match tk P t, v with | .int k, .int k' _ => decide (k = k') | .bool, .bool _ => true | .str, .string _ => true | _, _ => false
def kindsB (P : Program) : List TypeId → List Value → Bool
  | [], [] => true
  | t :: ts, v :: vs => kindB P t v && kindsB P ts vs
  | _, _ => false
theorem rdV_scal (h : scal P t = true) (hr : RdV P ok w t p v) : p = .sc v ∧ kindB P t v = true := by
  obtain ⟨n, cs, h1, h2⟩ := hr
  cases n with
  | zero => exact h1.elim
  | succ n =>
    unfold Rd at h1
    unfold scal at h
    unfold kindB
    cases ht : tk P t with
    | int k => simp only [ht] at h1; obtain ⟨x, rfl, rfl⟩ := h1; rw [valOf_one (by rw [ht]; simp)] at h2; subst h2; simp
    | bool => simp only [ht] at h1; obtain ⟨x, rfl, rfl⟩ := h1; rw [valOf_one (by rw [ht]; simp)] at h2; subst h2; simp
    | str => simp only [ht] at h1; obtain ⟨x, rfl, rfl⟩ := h1; rw [valOf_one (by rw [ht]; simp)] at h2; subst h2; simp
    | slice e => rw [ht] at h; cases h
    | struct fs => rw [ht] at h; cases h
    | other => rw [ht] at h; cases h
    | bad => rw [ht] at h; cases h
theorem rdV_of (h : kindB P t v = true) : RdV P ok w t (.sc v) v := by
  unfold kindB at h
  cases ht : tk P t with
  | int k =>
    rw [ht] at h
    cases v <;> simp at h
    subst h
    exact ⟨1, [_], by unfold Rd; simp only [ht]; exact ⟨_, rfl, rfl⟩, (valOf_one (fun fs => by rw [ht]; simp) _).symm⟩
  | bool =>
    rw [ht] at h
    cases v <;> simp at h
    exact ⟨1, [_], by unfold Rd; simp only [ht]; exact ⟨_, rfl, rfl⟩, (valOf_one (fun fs => by rw [ht]; simp) _).symm⟩
  | str =>
    rw [ht] at h
    cases v <;> simp at h
    exact ⟨1, [_], by unfold Rd; simp only [ht]; exact ⟨_, rfl, rfl⟩, (valOf_one (fun fs => by rw [ht]; simp) _).symm⟩
  | slice e => rw [ht] at h; simp at h
  | struct fs => rw [ht] at h; simp at h
  | other => rw [ht] at h; simp at h
  | bad => rw [ht] at h; simp at h
theorem args_scal : ∀ {ts : List TypeId} {vs : List Value} {ps : List PV} {F : List Nat} {L : List Row}, (ts.all (scal P)) = true → ArgsAt P ok w (ts.map fun t => (t, Mode.ro)) vs ps F L → ps = vs.map PV.sc ∧ F = [] ∧ L = [] ∧ kindsB P ts vs = true
  | [], [], [], F, L, _, h => ⟨rfl, h.1, h.2, rfl⟩
  | t :: ts, v :: vs, p :: ps, F, L, hs, h => by
    simp only [List.all_cons, Bool.and_eq_true] at hs
    obtain ⟨h1, h2⟩ := h
    obtain ⟨rfl, h3⟩ := rdV_scal hs.1 h1
    obtain ⟨rfl, h4, h5, h6⟩ := args_scal hs.2 h2
    exact ⟨rfl, h4, h5, by simp [kindsB, h3, h6]⟩
  | [], _ :: _, _, _, _, _, h => h.elim
  | [], [], _ :: _, _, _, _, h => h.elim
  | _ :: _, [], _, _, _, _, h => h.elim
  | _ :: _, _ :: _, [], _, _, _, h => h.elim
theorem res_scal : ∀ {us : List TypeId} {rs : List Value}, kindsB P us rs = true → ResAt P ok w (us.map fun t => (t, RMode.val)) (rs.map PV.sc) rs []
  | [], [], _ => ⟨rfl, rfl⟩
  | t :: ts, v :: vs, h => by
    simp only [kindsB, Bool.and_eq_true] at h
    exact ⟨rdV_of h.1, res_scal h.2⟩
  | [], _ :: _, h => by cases h
  | _ :: _, [], h => by cases h
theorem dropRes_len {α β : Type} : ∀ {l : List β} {m : List α}, l.length = m.length → dropRes l m = []
  | [], [], _ => rfl
  | _ :: l, _ :: m, h => dropRes_len (l := l) (m := m) (by simpa using h)
  | [], _ :: _, h => by simp at h
  | _ :: _, [], h => by simp at h
omit [Glb P] in
theorem kindsB_len : ∀ {us : List TypeId} {rs : List Value}, kindsB P us rs = true → us.length = rs.length
  | [], [], _ => rfl
  | t :: ts, v :: vs, h => by simp only [kindsB, Bool.and_eq_true] at h; simp [kindsB_len h.2]
  | [], _ :: _, h => by cases h
  | _ :: _, [], h => by cases h
/-- A function from plain values to plain values. -/
theorem fnOk_scal {ts us : List TypeId} {den : List PV → Option (List PV)} (hfn : HasFn P f) (hts : ts.all (scal P) = true)
    (h : ∀ (w : World) (ok : Nat → Prop) (vs : List Value) (outs : List PV), Glb.holds (P := P) ok w → kindsB P ts vs = true → den (vs.map PV.sc) = some outs → ∃ rs : List Value, outs = rs.map PV.sc ∧ kindsB P us rs = true ∧ Calls P f vs.toArray w fun e w' => e = .returned (retVal rs) ∧ Step w w' (fun _ => False)) :
    FnOk P f ⟨ts.map fun t => (t, Mode.ro), us.map fun t => (t, RMode.val), den⟩ := by
  refine ⟨hfn, fun w ok vs ps F L outs hglb ha hnd hok hd => ?_⟩
  obtain ⟨rfl, rfl, rfl, hk⟩ := args_scal hts ha
  obtain ⟨rs, rfl, hr, hc⟩ := h w ok vs outs hglb hk hd
  refine hc.mono fun e w' ⟨he, hs⟩ => ?_
  refine ⟨retVal rs, he, rs, [], [], rfl, res_scal hr, ?_, by simp, by simp, ⟨hs.os, hs.tape, hs.output, hs.size, fun k hk hn => hs.block k hk (fun h => h)⟩⟩
  show LentAt P w' [] _ []
  rfl
theorem step_refl {Z : Nat → Prop} : Step w w Z := ⟨rfl, rfl, rfl, Nat.le_refl _, fun _ _ _ => rfl⟩
omit [Glb P] in
theorem kinds2 {a b : TypeId} {vs : List Value} (h : kindsB P [a, b] vs = true) : ∃ x y, vs = [x, y] ∧ kindB P a x = true ∧ kindB P b y = true := by
  match vs, h with
  | [x, y], h => simp [kindsB] at h; exact ⟨x, y, rfl, h.1, h.2⟩
  | [], h => cases h
  | [_], h => simp [kindsB] at h
  | _ :: _ :: _ :: _, h => simp [kindsB] at h
omit [Glb P] in
theorem kinds1 {a : TypeId} {vs : List Value} (h : kindsB P [a] vs = true) : ∃ x, vs = [x] ∧ kindB P a x = true := by
  match vs, h with
  | [x], h => simp [kindsB] at h; exact ⟨x, rfl, h⟩
  | [], h => cases h
  | _ :: _ :: _, h => simp [kindsB] at h
omit [Glb P] in
theorem kind_str (ht : tk P t = .str) (h : kindB P t v = true) : ∃ s, v = .string s := by
  unfold kindB at h; rw [ht] at h
  cases v <;> simp at h
  exact ⟨_, rfl⟩
omit [Glb P] in
theorem scal_str (ht : tk P t = .str) : scal P t = true := by simp [scal, ht]
/-! ### strings.Index, of one byte -/
def indexDen : List PV → Option (List PV)
  | [.sc (.string s), .sc (.string p)] => if p.size = 1 then some [intP (Lib.indexByte s.data.toList (p.get! 0))] else none
  | _ => none
theorem one_bytes (p : ByteArray) (h : p.size = 1) : p = ⟨#[p.get! 0]⟩ := by
  obtain ⟨⟨l⟩⟩ := p
  match l, h with
  | [x], _ => rfl
  | [], h => simp [ByteArray.size] at h
  | _ :: _ :: _, h => simp [ByteArray.size] at h
theorem fnOk_index (L : Lays.n143 P ρ) (hf : ρ.f 143 = f) (hfn : HasFn P f) (ht : tk P t = .str) (hu : tk P u = .int .i64) : FnOk P f ⟨[(t, .ro), (t, .ro)], [(u, .val)], indexDen⟩ := by
  refine fnOk_scal (ts := [t, t]) (us := [u]) hfn (by simp [scal_str ht]) (fun w ok vs outs _ hk hd => ?_)
  obtain ⟨x, y, rfl, hx, hy⟩ := kinds2 hk
  obtain ⟨s, rfl⟩ := kind_str ht hx
  obtain ⟨p, rfl⟩ := kind_str ht hy
  have hd' : (if p.size = 1 then some [intP (Lib.indexByte s.data.toList (p.get! 0))] else none) = some outs := hd
  split at hd'
  case isFalse => cases hd'
  rename_i hp
  injection hd' with hd'; subst hd'
  have hc := Any.strings_Index_one L s (p.get! 0) w
  rw [hf, ← one_bytes p hp] at hc
  exact ⟨[.int .i64 (Lib.indexByte s.data.toList (p.get! 0))], rfl, by simp [kindsB, kindB, hu], hc.mono fun e w' ⟨h1, h2⟩ => ⟨h1, by rw [h2]; exact step_refl⟩⟩
end
end Go.Proofs.YtanfkcmfgdeioaaDoorAm

/-! strings.ReplaceAll, of one byte by none. -/
namespace Go.Proofs.YtanfkcmfgdeioaaDoorAm
open Go RowKit Go.Shelf Go.Proofs
section
variable {P : Program} [Glb P] {w w' : World} {t u : TypeId} {ρ : Shelf.Ren} {f : FuncId} {ok : Nat → Prop}
theorem replaceK_ne {b x : UInt8} (h : x ≠ b) (l : List UInt8) : ∀ k, Lib.replaceK [b] [] k (x :: l) = x :: Lib.replaceK [b] [] k l
  | 0 => rfl
  | k + 1 => by
    have hp : ([b] : List UInt8).isPrefixOf (x :: l) = false := by simp [List.isPrefixOf]; exact fun e => h e.symm
    have hi : Lib.index (x :: l) [b] = if Lib.index l [b] == -1 then -1 else Lib.index l [b] + 1 := by
      rw [Lib.index, if_neg (by simp [hp])]
    have hg := Lib.index_ge l [b]
    rw [Lib.replaceK, Lib.replaceK, hi]
    by_cases h1 : Lib.index l [b] = -1
    · simp [h1]
    · have h2 : (Lib.index l [b] == -1) = false := by simpa using h1
      have h3 : (Lib.index l [b] + 1 == -1) = false := by simp; omega
      have h4 : (Lib.index l [b] + 1).toNat = (Lib.index l [b]).toNat + 1 := by omega
      simp [h2, h3, h4]
theorem replaceK_eq {b : UInt8} (l : List UInt8) (k : Nat) : Lib.replaceK [b] [] (k + 1) (b :: l) = Lib.replaceK [b] [] k l := by
  have hi : Lib.index (b :: l) [b] = 0 := by rw [Lib.index, if_pos (by simp [List.isPrefixOf])]
  rw [Lib.replaceK, hi]; simp
theorem replaceAll_one (b : UInt8) (s : List UInt8) : Lib.replaceAll s [b] [] = s.filter (· != b) := by
  have key : ∀ s : List UInt8, Lib.replaceK [b] [] (s.count b) s = s.filter (· != b) := by
    intro s
    induction s with
    | nil => rfl
    | cons x l ih =>
      by_cases h : x = b
      · subst h
        rw [List.count_cons_self, replaceK_eq, ih]; simp
      · rw [List.count_cons_of_ne h, replaceK_ne h, ih]; simp [h]
  unfold Lib.replaceAll Lib.replace
  rw [if_neg (by simp)]
  unfold Lib.replaceNum
  rw [if_pos (.inl (by omega)), Lib.count_one, key]
def dropB (s : ByteArray) (b : UInt8) : ByteArray := ⟨(s.data.toList.filter (· != b)).toArray⟩
def dropDen : List PV → Option (List PV)
  | [.sc (.string s), .sc (.string p), .sc (.string q)] => if p.size = 1 then (if q.size = 0 then (if s.size ≤ 4294967280 then some [strP (dropB s (p.get! 0))] else none) else none) else none
  | _ => none
omit [Glb P] in
theorem kinds3 {a b c : TypeId} {vs : List Value} (h : kindsB P [a, b, c] vs = true) : ∃ x y z, vs = [x, y, z] ∧ kindB P a x = true ∧ kindB P b y = true ∧ kindB P c z = true := by
  match vs, h with
  | [x, y, z], h => simp [kindsB] at h; exact ⟨x, y, z, rfl, h.1, h.2.1, h.2.2⟩
  | [], h => cases h
  | [_], h => simp [kindsB] at h
  | [_, _], h => simp [kindsB] at h
  | _ :: _ :: _ :: _ :: _, h => simp [kindsB] at h
theorem empty_bytes (q : ByteArray) (h : q.size = 0) : q.data.toList = [] := by
  obtain ⟨⟨l⟩⟩ := q
  match l, h with
  | [], _ => rfl
  | _ :: _, h => simp [ByteArray.size] at h
omit [Glb P] in
theorem fact_of {gs : List (Nat × TypeId × PV)} {fs : List (Nat × (Obj → Prop))} {g : Nat} (h : (glbOf P gs fs).holds ok w) (hg : (g, someI64) ∈ fs) : ∃ m, w.cell? ⟨g, 0, none⟩ = some (.int .i64 m) := cell_of_someI64 (h.2 _ hg).2
theorem fnOk_drop (L : Lays.n155 P ρ) (X : Builder.Extra P ρ) (hf : ρ.f 155 = f) (hfn : HasFn P f) (hm : ∀ (ok : Nat → Prop) (w : World), Glb.holds (P := P) ok w → ∃ m, w.cell? ⟨ρ.g 1, 0, none⟩ = some (.int .i64 m)) (ht : tk P t = .str) (hu : tk P u = .str) :
    FnOk P f ⟨[(t, .ro), (t, .ro), (t, .ro)], [(u, .val)], dropDen⟩ := by
  refine fnOk_scal (ts := [t, t, t]) (us := [u]) hfn (by simp [scal_str ht]) (fun w ok vs outs hglb hk hd => ?_)
  obtain ⟨x, y, z, rfl, hx, hy, hz⟩ := kinds3 hk
  obtain ⟨s, rfl⟩ := kind_str ht hx
  obtain ⟨p, rfl⟩ := kind_str ht hy
  obtain ⟨q, rfl⟩ := kind_str ht hz
  have hd' : (if p.size = 1 then (if q.size = 0 then (if s.size ≤ 4294967280 then some [strP (dropB s (p.get! 0))] else none) else none) else none) = some outs := hd
  split at hd'
  case isFalse => cases hd'
  rename_i hp
  split at hd'
  case isFalse => cases hd'
  rename_i hq
  split at hd'
  case isFalse => cases hd'
  rename_i hs
  injection hd' with hd'; subst hd'
  obtain ⟨m, hm⟩ := hm ok w hglb
  have hc := Any.strings_ReplaceAll L X s p q m w (by omega) hm (by omega) (by rw [hq]; omega)
  have hpe : p.data.toList = [p.get! 0] := by
    have := one_bytes p hp
    exact congrArg (fun b : ByteArray => b.data.toList) this
  rw [hf, hpe, empty_bytes q hq, replaceAll_one] at hc
  exact ⟨[.string (dropB s (p.get! 0))], rfl, by simp [kindsB, kindB, hu], hc.mono fun e w' ⟨h1, h2⟩ => ⟨h1, ⟨h2.os, h2.tape, h2.output, h2.size, fun k hk _ => h2.block k hk⟩⟩⟩
end
end Go.Proofs.YtanfkcmfgdeioaaDoorAm

