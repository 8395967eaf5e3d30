/- Functions of the library, as functions of trees, by the contracts of the shelf: no conditions. -/
import Derived.Test.YtpnbhcifhbnaaaaDoorAm4
import Derived.Shelf.Strings.Search3
import Derived.Shelf.Strconv.Itoa3
set_option linter.unusedVariables false
set_option linter.unusedSimpArgs false
/-! Functions of the library from plain values to plain values. -/
namespace Go.Proofs.YtpnbhcifhbnaaaaDoorAm
open Go RowKit Go.Shelf Go.Proofs
section
variable {P : Program} [Glb P] {w w' : World} {t u : TypeId} {ρ : Shelf.Ren} {f : FuncId} {ok : Nat → Prop} {p : PV} {v : Value}
def scal (P : Program) (t : TypeId) : Bool := match tk P t with | .int _ | .bool | .str => true | _ => false
def kindB (P : Program) (t : TypeId) (v : Value) : Bool := match tk P t, v with | .int k, .int k' _ => decide (k = k') | .bool, .bool _ => true | .str, .string _ => true | _, _ => false
def kindsB (P : Program) : List TypeId → List Value → Bool
  | [], [] => true
  | t :: ts, v :: vs => kindB P t v && kindsB P ts vs
  | _, _ => false
theorem rdV_scal (h : scal P t = true) (hr : RdV P ok w t p v) : p = .sc v ∧ kindB P t v = true := by
  obtain ⟨n, cs, h1, h2⟩ := hr
  cases n with
  | zero => exact h1.elim
  | succ n =>
    unfold Rd at h1
    unfold scal at h
    unfold kindB
    cases ht : tk P t with
    | int k => simp only [ht] at h1; obtain ⟨x, rfl, rfl⟩ := h1; rw [valOf_one (by rw [ht]; simp)] at h2; subst h2; simp
    | bool => simp only [ht] at h1; obtain ⟨x, rfl, rfl⟩ := h1; rw [valOf_one (by rw [ht]; simp)] at h2; subst h2; simp
    | str => simp only [ht] at h1; obtain ⟨x, rfl, rfl⟩ := h1; rw [valOf_one (by rw [ht]; simp)] at h2; subst h2; simp
    | slice e => rw [ht] at h; cases h
    | struct fs => rw [ht] at h; cases h
    | other => rw [ht] at h; cases h
    | bad => rw [ht] at h; cases h
theorem rdV_of (h : kindB P t v = true) : RdV P ok w t (.sc v) v := by
  unfold kindB at h
  cases ht : tk P t with
  | int k =>
    rw [ht] at h
    cases v <;> simp at h
    subst h
    exact ⟨1, [_], by unfold Rd; simp only [ht]; exact ⟨_, rfl, rfl⟩, (valOf_one (fun fs => by rw [ht]; simp) _).symm⟩
  | bool =>
    rw [ht] at h
    cases v <;> simp at h
    exact ⟨1, [_], by unfold Rd; simp only [ht]; exact ⟨_, rfl, rfl⟩, (valOf_one (fun fs => by rw [ht]; simp) _).symm⟩
  | str =>
    rw [ht] at h
    cases v <;> simp at h
    exact ⟨1, [_], by unfold Rd; simp only [ht]; exact ⟨_, rfl, rfl⟩, (valOf_one (fun fs => by rw [ht]; simp) _).symm⟩
  | slice e => rw [ht] at h; simp at h
  | struct fs => rw [ht] at h; simp at h
  | other => rw [ht] at h; simp at h
  | bad => rw [ht] at h; simp at h
theorem args_scal : ∀ {ts : List TypeId} {vs : List Value} {ps : List PV} {F : List Nat} {L : List Row}, (ts.all (scal P)) = true → ArgsAt P ok w (ts.map fun t => (t, Mode.ro)) vs ps F L → ps = vs.map PV.sc ∧ F = [] ∧ L = [] ∧ kindsB P ts vs = true
  | [], [], [], F, L, _, h => ⟨rfl, h.1, h.2, rfl⟩
  | t :: ts, v :: vs, p :: ps, F, L, hs, h => by
    simp only [List.all_cons, Bool.and_eq_true] at hs
    obtain ⟨h1, h2⟩ := h
    obtain ⟨rfl, h3⟩ := rdV_scal hs.1 h1
    obtain ⟨rfl, h4, h5, h6⟩ := args_scal hs.2 h2
    exact ⟨rfl, h4, h5, by simp [kindsB, h3, h6]⟩
  | [], _ :: _, _, _, _, _, h => h.elim
  | [], [], _ :: _, _, _, _, h => h.elim
  | _ :: _, [], _, _, _, _, h => h.elim
  | _ :: _, _ :: _, [], _, _, _, h => h.elim
theorem res_scal : ∀ {us : List TypeId} {rs : List Value}, kindsB P us rs = true → ResAt P ok w (us.map fun t => (t, RMode.val)) (rs.map PV.sc) rs []
  | [], [], _ => ⟨rfl, rfl⟩
  | t :: ts, v :: vs, h => by
    simp only [kindsB, Bool.and_eq_true] at h
    exact ⟨rdV_of h.1, res_scal h.2⟩
  | [], _ :: _, h => by cases h
  | _ :: _, [], h => by cases h
theorem dropRes_len {α β : Type} : ∀ {l : List β} {m : List α}, l.length = m.length → dropRes l m = []
  | [], [], _ => rfl
  | _ :: l, _ :: m, h => dropRes_len (l := l) (m := m) (by simpa using h)
  | [], _ :: _, h => by simp at h
  | _ :: _, [], h => by simp at h
omit [Glb P] in
theorem kindsB_len : ∀ {us : List TypeId} {rs : List Value}, kindsB P us rs = true → us.length = rs.length
  | [], [], _ => rfl
  | t :: ts, v :: vs, h => by simp only [kindsB, Bool.and_eq_true] at h; simp [kindsB_len h.2]
  | [], _ :: _, h => by cases h
  | _ :: _, [], h => by cases h
/-- A function from plain values to plain values. -/
theorem fnOk_scal {ts us : List TypeId} {den : List PV → Option (List PV)} (hfn : HasFn P f) (hts : ts.all (scal P) = true)
    (h : ∀ (w : World) (ok : Nat → Prop) (vs : List Value) (outs : List PV), Glb.holds (P := P) ok w → kindsB P ts vs = true → den (vs.map PV.sc) = some outs → ∃ rs : List Value, outs = rs.map PV.sc ∧ kindsB P us rs = true ∧ Calls P f vs.toArray w fun e w' => e = .returned (retVal rs) ∧ Step w w' (fun _ => False)) :
    FnOk P f ⟨ts.map fun t => (t, Mode.ro), us.map fun t => (t, RMode.val), den⟩ := by
  refine ⟨hfn, fun w ok vs ps F L outs hglb ha hnd hok hd => ?_⟩
  obtain ⟨rfl, rfl, rfl, hk⟩ := args_scal hts ha
  obtain ⟨rs, rfl, hr, hc⟩ := h w ok vs outs hglb hk hd
  refine hc.mono fun e w' ⟨he, hs⟩ => ?_
  refine ⟨retVal rs, he, rs, [], [], rfl, res_scal hr, ?_, by simp, by simp, ⟨hs.os, hs.tape, hs.output, hs.size, fun k hk hn => hs.block k hk (fun h => h)⟩⟩
  show LentAt P w' [] _ []
  rfl
theorem step_refl {Z : Nat → Prop} : Step w w Z := ⟨rfl, rfl, rfl, Nat.le_refl _, fun _ _ _ => rfl⟩
omit [Glb P] in
theorem kinds2 {a b : TypeId} {vs : List Value} (h : kindsB P [a, b] vs = true) : ∃ x y, vs = [x, y] ∧ kindB P a x = true ∧ kindB P b y = true := by
  match vs, h with
  | [x, y], h => simp [kindsB] at h; exact ⟨x, y, rfl, h.1, h.2⟩
  | [], h => cases h
  | [_], h => simp [kindsB] at h
  | _ :: _ :: _ :: _, h => simp [kindsB] at h
omit [Glb P] in
theorem kinds1 {a : TypeId} {vs : List Value} (h : kindsB P [a] vs = true) : ∃ x, vs = [x] ∧ kindB P a x = true := by
  match vs, h with
  | [x], h => simp [kindsB] at h; exact ⟨x, rfl, h⟩
  | [], h => cases h
  | _ :: _ :: _, h => simp [kindsB] at h
omit [Glb P] in
theorem kind_str (ht : tk P t = .str) (h : kindB P t v = true) : ∃ s, v = .string s := by
  unfold kindB at h; rw [ht] at h
  cases v <;> simp at h
  exact ⟨_, rfl⟩
omit [Glb P] in
theorem scal_str (ht : tk P t = .str) : scal P t = true := by simp [scal, ht]
/-! ### strings.Index, of one byte -/
def indexDen : List PV → Option (List PV)
  | [.sc (.string s), .sc (.string p)] => if p.size = 1 then some [intP (Lib.indexByte s.data.toList (p.get! 0))] else none
  | _ => none
theorem one_bytes (p : ByteArray) (h : p.size = 1) : p = ⟨#[p.get! 0]⟩ := by
  obtain ⟨⟨l⟩⟩ := p
  match l, h with
  | [x], _ => rfl
  | [], h => simp [ByteArray.size] at h
  | _ :: _ :: _, h => simp [ByteArray.size] at h
theorem fnOk_index (L : Lays.n143 P ρ) (hf : ρ.f 143 = f) (hfn : HasFn P f) (ht : tk P t = .str) (hu : tk P u = .int .i64) : FnOk P f ⟨[(t, .ro), (t, .ro)], [(u, .val)], indexDen⟩ := by
  refine fnOk_scal (ts := [t, t]) (us := [u]) hfn (by simp [scal_str ht]) (fun w ok vs outs _ hk hd => ?_)
  obtain ⟨x, y, rfl, hx, hy⟩ := kinds2 hk
  obtain ⟨s, rfl⟩ := kind_str ht hx
  obtain ⟨p, rfl⟩ := kind_str ht hy
  have hd' : (if p.size = 1 then some [intP (Lib.indexByte s.data.toList (p.get! 0))] else none) = some outs := hd
  split at hd'
  case isFalse => cases hd'
  rename_i hp
  injection hd' with hd'; subst hd'
  have hc := Any.strings_Index_one L s (p.get! 0) w
  rw [hf, ← one_bytes p hp] at hc
  exact ⟨[.int .i64 (Lib.indexByte s.data.toList (p.get! 0))], rfl, by simp [kindsB, kindB, hu], hc.mono fun e w' ⟨h1, h2⟩ => ⟨h1, by rw [h2]; exact step_refl⟩⟩
end
end Go.Proofs.YtpnbhcifhbnaaaaDoorAm

/-! strconv.Itoa. -/
namespace Go.Proofs.YtpnbhcifhbnaaaaDoorAm
open Go RowKit Go.Shelf Go.Proofs
section
variable {P : Program} [Glb P] {w w' : World} {t u : TypeId} {ρ : Shelf.Ren} {f : FuncId} {ok : Nat → Prop} {p : PV} {v : Value}
def itoaB (n : Int) : ByteArray := ⟨(Lib.itoa n).toArray⟩
def itoaDen : List PV → Option (List PV)
  | [.sc (.int .i64 n)] => if -9223372036854775808 ≤ n ∧ n ≤ 9223372036854775807 then some [strP (itoaB n)] else none
  | _ => none
omit [Glb P] in
theorem kind_i64 (ht : tk P t = .int .i64) (h : kindB P t v = true) : ∃ n, v = .int .i64 n := by
  unfold kindB at h; rw [ht] at h
  cases v <;> simp at h
  subst h
  exact ⟨_, rfl⟩
theorem tab_of {gs : List (Nat × TypeId × PV)} {fs : List (Nat × (Obj → Prop))} {n : String} {g : Nat} {kd : IntKind} {zs : List Int} (hn : P.globalNamed n = some g) (h : (glbOf P gs fs).holds ok w) (hg : (g, tabObj kd zs) ∈ fs) : Lib.TabIs P w n kd zs :=
  var_of_tab hn (h.2 _ hg).2
theorem fnOk_itoa (L : LaysM.n171 P ρ) (hf : ρ.f 171 = f) (hfn : HasFn P f) (hm : ∀ (ok : Nat → Prop) (w : World), Glb.holds (P := P) ok w → Lib.TabIs P w "internal/strconv.uint64pow10" .u64 Lib.pow10Tab) (ht : tk P t = .int .i64) (hu : tk P u = .str) :
    FnOk P f ⟨[(t, .ro)], [(u, .val)], itoaDen⟩ := by
  refine fnOk_scal (ts := [t]) (us := [u]) hfn (by simp [scal, ht]) (fun w ok vs outs hglb hk hd => ?_)
  obtain ⟨x, rfl, hx⟩ := kinds1 hk
  obtain ⟨n, rfl⟩ := kind_i64 ht hx
  have hd' : (if -9223372036854775808 ≤ n ∧ n ≤ 9223372036854775807 then some [strP (itoaB n)] else none) = some outs := hd
  split at hd'
  case isFalse => cases hd'
  rename_i hb
  injection hd' with hd'; subst hd'
  refine ⟨[.string (itoaB n)], rfl, by simp [kindsB, kindB, hu], ?_⟩
  have hc := Any.strconv_Itoa L n hb.1 hb.2 w (hm ok w hglb)
  rw [hf] at hc
  refine Calls.mono hc ?_
  rintro e w' ⟨rfl, k, os, rfl⟩
  refine ⟨rfl, ?_, ?_, ?_, ?_, ?_⟩
  · simp [Go.Sort.grow, World.drewN]
  · simp [Go.Sort.grow, World.drewN]
  · simp [Go.Sort.grow, World.drewN]
  · simp [Go.Sort.grow, World.drewN]
  · intro j hj _
    simp [Go.Sort.grow, World.drewN, Array.getElem?_append_left hj]
end
end Go.Proofs.YtpnbhcifhbnaaaaDoorAm

