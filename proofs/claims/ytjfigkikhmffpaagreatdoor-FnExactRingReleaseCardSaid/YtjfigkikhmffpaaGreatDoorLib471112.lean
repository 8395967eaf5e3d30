/- Functions of the library, as functions of trees, by the contracts of the shelf: no conditions. -/
import Derived.Test.YtjfigkikhmffpaaGreatDoorAm4
import Derived.Shelf.Strings.Search3
import Derived.Shelf.Strconv.Itoa3
import Derived.Shelf.Strings.SlTrimAscii
import Derived.Shelf.Strings.OnBuilder
set_option linter.unusedVariables false
set_option linter.unusedSimpArgs false
/-! Functions of the library from plain values to plain values. -/
namespace Go.Proofs.YtjfigkikhmffpaaGreatDoorAm
open Go RowKit Go.Shelf Go.Proofs
section
variable {P : Program} [Glb P] {w w' : World} {t u : TypeId} {ρ : Shelf.Ren} {f : FuncId} {ok : Nat → Prop} {p : PV} {v : Value}
def scal (P : Program) (t : TypeId) : Bool := match tk P t with | .int _ | .bool | .str => true | _ => false
def kindB (P : Program) (t : TypeId) (v : Value) : Bool := match tk P t, v with | .int k, .int k' _ => decide (k = k') | .bool, .bool _ => true | .str, .string _ => true | _, _ => false
def kindsB (P : Program) : List TypeId → List Value → Bool
  | [], [] => true
  | t :: ts, v :: vs => kindB P t v && kindsB P ts vs
  | _, _ => false
theorem rdV_scal (h : scal P t = true) (hr : RdV P ok w t p v) : p = .sc v ∧ kindB P t v = true := by
  obtain ⟨n, cs, h1, h2⟩ := hr
  cases n with
  | zero => exact h1.elim
  | succ n =>
    unfold Rd at h1
    unfold scal at h
    unfold kindB
    cases ht : tk P t with
    | int k => simp only [ht] at h1; obtain ⟨x, rfl, rfl⟩ := h1; rw [valOf_one (by rw [ht]; simp)] at h2; subst h2; simp
    | bool => simp only [ht] at h1; obtain ⟨x, rfl, rfl⟩ := h1; rw [valOf_one (by rw [ht]; simp)] at h2; subst h2; simp
    | str => simp only [ht] at h1; obtain ⟨x, rfl, rfl⟩ := h1; rw [valOf_one (by rw [ht]; simp)] at h2; subst h2; simp
    | slice e => rw [ht] at h; cases h
    | struct fs => rw [ht] at h; cases h
    | other => rw [ht] at h; cases h
    | bad => rw [ht] at h; cases h
theorem rdV_of (h : kindB P t v = true) : RdV P ok w t (.sc v) v := by
  unfold kindB at h
  cases ht : tk P t with
  | int k =>
    rw [ht] at h
    cases v <;> simp at h
    subst h
    exact ⟨1, [_], by unfold Rd; simp only [ht]; exact ⟨_, rfl, rfl⟩, (valOf_one (fun fs => by rw [ht]; simp) _).symm⟩
  | bool =>
    rw [ht] at h
    cases v <;> simp at h
    exact ⟨1, [_], by unfold Rd; simp only [ht]; exact ⟨_, rfl, rfl⟩, (valOf_one (fun fs => by rw [ht]; simp) _).symm⟩
  | str =>
    rw [ht] at h
    cases v <;> simp at h
    exact ⟨1, [_], by unfold Rd; simp only [ht]; exact ⟨_, rfl, rfl⟩, (valOf_one (fun fs => by rw [ht]; simp) _).symm⟩
  | slice e => rw [ht] at h; simp at h
  | struct fs => rw [ht] at h; simp at h
  | other => rw [ht] at h; simp at h
  | bad => rw [ht] at h; simp at h
theorem args_scal : ∀ {ts : List TypeId} {vs : List Value} {ps : List PV} {F : List Nat} {L : List Row}, (ts.all (scal P)) = true → ArgsAt P ok w (ts.map fun t => (t, Mode.ro)) vs ps F L → ps = vs.map PV.sc ∧ F = [] ∧ L = [] ∧ kindsB P ts vs = true
  | [], [], [], F, L, _, h => ⟨rfl, h.1, h.2, rfl⟩
  | t :: ts, v :: vs, p :: ps, F, L, hs, h => by
    simp only [List.all_cons, Bool.and_eq_true] at hs
    obtain ⟨h1, h2⟩ := h
    obtain ⟨rfl, h3⟩ := rdV_scal hs.1 h1
    obtain ⟨rfl, h4, h5, h6⟩ := args_scal hs.2 h2
    exact ⟨rfl, h4, h5, by simp [kindsB, h3, h6]⟩
  | [], _ :: _, _, _, _, _, h => h.elim
  | [], [], _ :: _, _, _, _, h => h.elim
  | _ :: _, [], _, _, _, _, h => h.elim
  | _ :: _, _ :: _, [], _, _, _, h => h.elim
theorem res_scal : ∀ {us : List TypeId} {rs : List Value}, kindsB P us rs = true → ResAt P ok w (us.map fun t => (t, RMode.val)) (rs.map PV.sc) rs []
  | [], [], _ => ⟨rfl, rfl⟩
  | t :: ts, v :: vs, h => by
    simp only [kindsB, Bool.and_eq_true] at h
    exact ⟨rdV_of h.1, res_scal h.2⟩
  | [], _ :: _, h => by cases h
  | _ :: _, [], h => by cases h
theorem dropRes_len {α β : Type} : ∀ {l : List β} {m : List α}, l.length = m.length → dropRes l m = []
  | [], [], _ => rfl
  | _ :: l, _ :: m, h => dropRes_len (l := l) (m := m) (by simpa using h)
  | [], _ :: _, h => by simp at h
  | _ :: _, [], h => by simp at h
omit [Glb P] in
theorem kindsB_len : ∀ {us : List TypeId} {rs : List Value}, kindsB P us rs = true → us.length = rs.length
  | [], [], _ => rfl
  | t :: ts, v :: vs, h => by simp only [kindsB, Bool.and_eq_true] at h; simp [kindsB_len h.2]
  | [], _ :: _, h => by cases h
  | _ :: _, [], h => by cases h
/-- A function from plain values to plain values. -/
theorem fnOk_scal {ts us : List TypeId} {den : List PV → Option (List PV)} (hfn : HasFn P f) (hts : ts.all (scal P) = true)
    (h : ∀ (w : World) (ok : Nat → Prop) (vs : List Value) (outs : List PV), Glb.holds (P := P) ok w → kindsB P ts vs = true → den (vs.map PV.sc) = some outs → ∃ rs : List Value, outs = rs.map PV.sc ∧ kindsB P us rs = true ∧ Calls P f vs.toArray w fun e w' => e = .returned (retVal rs) ∧ Step w w' (fun _ => False)) :
    FnOk P f ⟨ts.map fun t => (t, Mode.ro), us.map fun t => (t, RMode.val), den⟩ := by
  refine ⟨hfn, fun w ok vs ps F L outs hglb ha hnd hok hd => ?_⟩
  obtain ⟨rfl, rfl, rfl, hk⟩ := args_scal hts ha
  obtain ⟨rs, rfl, hr, hc⟩ := h w ok vs outs hglb hk hd
  refine hc.mono fun e w' ⟨he, hs⟩ => ?_
  refine ⟨retVal rs, he, rs, [], [], rfl, res_scal hr, ?_, by simp, by simp, ⟨hs.os, hs.tape, hs.output, hs.size, fun k hk hn => hs.block k hk (fun h => h)⟩⟩
  show LentAt P w' [] _ []
  rfl
theorem step_refl {Z : Nat → Prop} : Step w w Z := ⟨rfl, rfl, rfl, Nat.le_refl _, fun _ _ _ => rfl⟩
omit [Glb P] in
theorem kinds2 {a b : TypeId} {vs : List Value} (h : kindsB P [a, b] vs = true) : ∃ x y, vs = [x, y] ∧ kindB P a x = true ∧ kindB P b y = true := by
  match vs, h with
  | [x, y], h => simp [kindsB] at h; exact ⟨x, y, rfl, h.1, h.2⟩
  | [], h => cases h
  | [_], h => simp [kindsB] at h
  | _ :: _ :: _ :: _, h => simp [kindsB] at h
omit [Glb P] in
theorem kinds1 {a : TypeId} {vs : List Value} (h : kindsB P [a] vs = true) : ∃ x, vs = [x] ∧ kindB P a x = true := by
  match vs, h with
  | [x], h => simp [kindsB] at h; exact ⟨x, rfl, h⟩
  | [], h => cases h
  | _ :: _ :: _, h => simp [kindsB] at h
omit [Glb P] in
theorem kind_str (ht : tk P t = .str) (h : kindB P t v = true) : ∃ s, v = .string s := by
  unfold kindB at h; rw [ht] at h
  cases v <;> simp at h
  exact ⟨_, rfl⟩
omit [Glb P] in
theorem scal_str (ht : tk P t = .str) : scal P t = true := by simp [scal, ht]
/-! ### strings.Index, of one byte -/
def indexDen : List PV → Option (List PV)
  | [.sc (.string s), .sc (.string p)] => if p.size = 1 then some [intP (Lib.indexByte s.data.toList (p.get! 0))] else none
  | _ => none
theorem one_bytes (p : ByteArray) (h : p.size = 1) : p = ⟨#[p.get! 0]⟩ := by
  obtain ⟨⟨l⟩⟩ := p
  match l, h with
  | [x], _ => rfl
  | [], h => simp [ByteArray.size] at h
  | _ :: _ :: _, h => simp [ByteArray.size] at h
theorem fnOk_index (L : Lays.n143 P ρ) (hf : ρ.f 143 = f) (hfn : HasFn P f) (ht : tk P t = .str) (hu : tk P u = .int .i64) : FnOk P f ⟨[(t, .ro), (t, .ro)], [(u, .val)], indexDen⟩ := by
  refine fnOk_scal (ts := [t, t]) (us := [u]) hfn (by simp [scal_str ht]) (fun w ok vs outs _ hk hd => ?_)
  obtain ⟨x, y, rfl, hx, hy⟩ := kinds2 hk
  obtain ⟨s, rfl⟩ := kind_str ht hx
  obtain ⟨p, rfl⟩ := kind_str ht hy
  have hd' : (if p.size = 1 then some [intP (Lib.indexByte s.data.toList (p.get! 0))] else none) = some outs := hd
  split at hd'
  case isFalse => cases hd'
  rename_i hp
  injection hd' with hd'; subst hd'
  have hc := Any.strings_Index_one L s (p.get! 0) w
  rw [hf, ← one_bytes p hp] at hc
  exact ⟨[.int .i64 (Lib.indexByte s.data.toList (p.get! 0))], rfl, by simp [kindsB, kindB, hu], hc.mono fun e w' ⟨h1, h2⟩ => ⟨h1, by rw [h2]; exact step_refl⟩⟩
end
end Go.Proofs.YtjfigkikhmffpaaGreatDoorAm

/-! strconv.Itoa. -/
namespace Go.Proofs.YtjfigkikhmffpaaGreatDoorAm
open Go RowKit Go.Shelf Go.Proofs
section
variable {P : Program} [Glb P] {w w' : World} {t u : TypeId} {ρ : Shelf.Ren} {f : FuncId} {ok : Nat → Prop} {p : PV} {v : Value}
def itoaB (n : Int) : ByteArray := ⟨(Lib.itoa n).toArray⟩
def itoaDen : List PV → Option (List PV)
  | [.sc (.int .i64 n)] => if -9223372036854775808 ≤ n ∧ n ≤ 9223372036854775807 then some [strP (itoaB n)] else none
  | _ => none
omit [Glb P] in
theorem kind_i64 (ht : tk P t = .int .i64) (h : kindB P t v = true) : ∃ n, v = .int .i64 n := by
  unfold kindB at h; rw [ht] at h
  cases v <;> simp at h
  subst h
  exact ⟨_, rfl⟩
theorem tab_of {gs : List (Nat × TypeId × PV)} {fs : List (Nat × (Obj → Prop))} {n : String} {g : Nat} {kd : IntKind} {zs : List Int} (hn : P.globalNamed n = some g) (h : (glbOf P gs fs).holds ok w) (hg : (g, tabObj kd zs) ∈ fs) : Lib.TabIs P w n kd zs :=
  var_of_tab hn (h.2 _ hg).2
theorem fnOk_itoa (L : LaysM.n171 P ρ) (hf : ρ.f 171 = f) (hfn : HasFn P f) (hm : ∀ (ok : Nat → Prop) (w : World), Glb.holds (P := P) ok w → Lib.TabIs P w "internal/strconv.uint64pow10" .u64 Lib.pow10Tab) (ht : tk P t = .int .i64) (hu : tk P u = .str) :
    FnOk P f ⟨[(t, .ro)], [(u, .val)], itoaDen⟩ := by
  refine fnOk_scal (ts := [t]) (us := [u]) hfn (by simp [scal, ht]) (fun w ok vs outs hglb hk hd => ?_)
  obtain ⟨x, rfl, hx⟩ := kinds1 hk
  obtain ⟨n, rfl⟩ := kind_i64 ht hx
  have hd' : (if -9223372036854775808 ≤ n ∧ n ≤ 9223372036854775807 then some [strP (itoaB n)] else none) = some outs := hd
  split at hd'
  case isFalse => cases hd'
  rename_i hb
  injection hd' with hd'; subst hd'
  refine ⟨[.string (itoaB n)], rfl, by simp [kindsB, kindB, hu], ?_⟩
  have hc := Any.strconv_Itoa L n hb.1 hb.2 w (hm ok w hglb)
  rw [hf] at hc
  refine Calls.mono hc ?_
  rintro e w' ⟨rfl, k, os, rfl⟩
  refine ⟨rfl, ?_, ?_, ?_, ?_, ?_⟩
  · simp [Go.Sort.grow, World.drewN]
  · simp [Go.Sort.grow, World.drewN]
  · simp [Go.Sort.grow, World.drewN]
  · simp [Go.Sort.grow, World.drewN]
  · intro j hj _
    simp [Go.Sort.grow, World.drewN, Array.getElem?_append_left hj]
end
end Go.Proofs.YtjfigkikhmffpaaGreatDoorAm

/-! strings.Trim, of a set of bytes below 128. -/
namespace Go.Proofs.YtjfigkikhmffpaaGreatDoorAm
open Go RowKit Go.Shelf Go.Proofs
section
variable {P : Program} [Glb P] {w w' : World} {t u e : TypeId} {ρ : Shelf.Ren} {f : FuncId} {ok : Nat → Prop} {p : PV} {v : Value}
def trimBoth (s c : ByteArray) : ByteArray := ⟨(Lib.trimS s.data.toList c.data.toList).toArray⟩
def trimBothDen : List PV → Option (List PV)
  | [.sc (.string s), .sc (.string c)] => if c.data.toList.all (fun b => decide (b.toNat < 128)) = true then (if c.size < 4294967281 ∧ s.size ≤ 9223372036854775807 then some [strP (trimBoth s c)] else none) else none
  | _ => none
theorem fnOk_trimBoth (L : Lays.n160 P ρ) (hf : ρ.f 160 = f) (hfn : HasFn P f) (h116 : (P.info? (ρ.t 116)).map (fun i => (i.zero, i.size)) = some (some (.agg (Array.replicate 256 (.bool false))), 256)) (ht : tk P t = .str) (hu : tk P u = .str) :
    FnOk P f ⟨[(t, .ro), (t, .ro)], [(u, .val)], trimBothDen⟩ := by
  refine fnOk_scal (ts := [t, t]) (us := [u]) hfn (by simp [scal_str ht]) (fun w ok vs outs _ hk hd => ?_)
  obtain ⟨x, y, rfl, hx, hy⟩ := kinds2 hk
  obtain ⟨s, rfl⟩ := kind_str ht hx
  obtain ⟨c, rfl⟩ := kind_str ht hy
  have hd' : (if c.data.toList.all (fun b => decide (b.toNat < 128)) = true then (if c.size < 4294967281 ∧ s.size ≤ 9223372036854775807 then some [strP (trimBoth s c)] else none) else none) = some outs := hd
  split at hd'
  case isFalse => cases hd'
  rename_i hc
  split at hd'
  case isFalse => cases hd'
  rename_i hcs
  injection hd' with hd'; subst hd'
  have hcall := Any.strings_Trim_laid L h116 s c w hcs.2 hcs.1 (fun j b hj => by
    have := List.all_eq_true.1 hc b (List.mem_of_getElem? hj)
    simpa using this)
  rw [hf] at hcall
  refine ⟨[.string (trimBoth s c)], rfl, by simp [kindsB, kindB, hu], ?_⟩
  refine Calls.mono hcall ?_
  rintro e w' ⟨rfl, hb⟩
  exact ⟨rfl, hb.os, hb.tape, hb.output, hb.size, fun k hk _ => hb.block k hk⟩
end
end Go.Proofs.YtjfigkikhmffpaaGreatDoorAm

/-! strings.Join. -/
namespace Go.Proofs.YtjfigkikhmffpaaGreatDoorAm
open Go RowKit Go.Shelf Go.Proofs
section
variable {P : Program} [Glb P] {w w' : World} {t u e : TypeId} {ρ : Shelf.Ren} {f : FuncId} {ok : Nat → Prop} {p : PV} {v : Value}
theorem rd_strsJ (h : RdV P ok w t p v) (ht : tk P t = .slice e) (he : tk P e = .str) :
    ∃ A cap ns, v = .slice A ns.length cap ∧ p = strsP ns ∧ ns.length ≤ cap ∧ (0 < ns.length → ∃ b o, A = some ⟨b, o, none⟩ ∧ b < w.heap.size ∧ ∀ j s, ns[j]? = some s → w.cell? ⟨b, o + j, none⟩ = some (.string s)) := by
  obtain ⟨n, cs, h1, h2⟩ := h
  cases n with
  | zero => exact h1.elim
  | succ n =>
    unfold Rd at h1
    simp only [ht] at h1
    obtain ⟨A, cap, ps, rfl, rfl, hc, hr⟩ := h1
    rw [valOf_one (fun fs => by rw [ht]; simp)] at h2
    have hsz : YtjfigkikhmffpaaGreatDoorAm.sizeOf P e = 1 := by
      have := tk_size (P := P) (t := e) (by rw [he]; simp)
      rw [this, he]; rfl
    have hps : 0 < ps.length → ∃ ad, A = some ad ∧ ∀ j q, ps[j]? = some q → ∃ s, q = strP s ∧ w.cell? (ad.add j) = some (.string s) := fun h0 => by
      obtain ⟨ad, a1, a2, a3⟩ := hr h0
      refine ⟨ad, a1, fun j q hj => ?_⟩
      obtain ⟨c, c1, c2, c3⟩ := a3 j q hj
      cases n with
      | zero => exact c3.elim
      | succ n =>
        unfold Rd at c3
        simp only [he] at c3
        obtain ⟨s, rfl, rfl⟩ := c3
        refine ⟨s, rfl, ?_⟩
        have := c2 0 (.string s) rfl
        rw [hsz] at this
        simpa using this
    obtain ⟨ns, rfl⟩ : ∃ ns : List ByteArray, ps = ns.map strP := by
      by_cases h0 : 0 < ps.length
      · obtain ⟨ad, -, a3⟩ := hps h0
        refine ⟨ps.map PV.toStr, List.ext_getElem? fun j => ?_⟩
        cases hj : ps[j]? with
        | none => simp [hj]
        | some q =>
          obtain ⟨s, rfl, -⟩ := a3 j q hj
          simp [hj, PV.toStr, strP]
      · have : ps = [] := List.eq_nil_of_length_eq_zero (by omega)
        exact ⟨[], by simp [this]⟩
    refine ⟨A, cap, ns, by rw [h2, List.length_map], rfl, by simpa using hc, fun h0 => ?_⟩
    obtain ⟨ad, a1, a3⟩ := hps (by simpa using h0)
    have hcell : ∀ j s, ns[j]? = some s → w.cell? (ad.add j) = some (.string s) := fun j s hj => by
      obtain ⟨s', h1, h2⟩ := a3 j (strP s) (by simp [hj])
      injection h1 with h1
      injection h1 with h1
      rw [h1]; exact h2
    obtain ⟨b, o, sp⟩ := ad
    have h00 := hcell 0 ns[0] (by simp [h0])
    have hsp : sp = none := by
      cases sp with
      | none => rfl
      | some q => simp [World.cell?, Addr.add] at h00; split at h00 <;> simp_all
    subst hsp
    have hb : b < w.heap.size := by
      by_cases hb : b < w.heap.size
      · exact hb
      · simp [World.cell?, Addr.add, Array.getElem?_eq_none (Nat.le_of_not_lt hb)] at h00
    exact ⟨b, o, a1, hb, fun j s hj => by
      have := hcell j s hj
      rwa [Addr.add_lit] at this⟩
def joinB (l : List ByteArray) (sep : ByteArray) : ByteArray := ⟨(Lib.join (l.map (·.data.toList)) sep.data.toList).toArray⟩
def joinDen : List PV → Option (List PV)
  | [.list ps, .sc (.string sep)] => if ps.length ≤ 140737488355328 ∧ (joinB (ps.map PV.toStr) sep).size ≤ 140737488355328 then some [strP (joinB (ps.map PV.toStr) sep)] else none
  | _ => none
theorem fnOk_join (L : Lays.n156 P ρ) (X : Builder.Extra P ρ) (hf : ρ.f 156 = f) (hfn : HasFn P f) (ht : tk P t = .slice e) (he : tk P e = .str) (hu : tk P u = .str) :
    FnOk P f ⟨[(t, .ro), (u, .ro)], [(u, .val)], joinDen⟩ := by
  refine ⟨hfn, fun w ok vs ps F L' outs hglb ha hnd hok hd => ?_⟩
  match vs, ps, ha with
  | [v, x], [p, q], ha =>
    obtain ⟨h1, h2, rfl, rfl⟩ := ha
    obtain ⟨A, cap, ns, rfl, rfl, hcap, hA⟩ := rd_strsJ h1 ht he
    obtain ⟨n, cs, h3, h4⟩ := h2
    cases n with
    | zero => exact h3.elim
    | succ n =>
    unfold Rd at h3
    simp only [hu] at h3
    obtain ⟨sep, rfl, rfl⟩ := h3
    rw [valOf_one (fun fs => by rw [hu]; simp)] at h4
    subst h4
    have hid : (ns.map strP).map PV.toStr = ns := by simp [Function.comp_def, PV.toStr]
    have hd' : (if (ns.map strP).length ≤ 140737488355328 ∧ (joinB ((ns.map strP).map PV.toStr) sep).size ≤ 140737488355328 then some [strP (joinB ((ns.map strP).map PV.toStr) sep)] else none) = some outs := hd
    rw [hid, List.length_map] at hd'
    split at hd'
    case isFalse => cases hd'
    rename_i hc
    injection hd' with hd'
    subst hd'
    have hz : (Lib.join (ns.map (·.data.toList)) sep.data.toList).length ≤ 140737488355328 := by
      have := hc.2
      simpa [joinB, ByteArray.size] using this
    have key : Calls P f #[.slice A ns.length cap, .string sep] w fun e w' => e = .returned (.string (joinB ns sep)) ∧ Below w.heap.size w w' := by
      by_cases h0 : 0 < ns.length
      · obtain ⟨b, o, rfl, hb, hcell⟩ := hA h0
        have := Any.strings_Join L X b o cap ns sep w hcell hb hc.1 hcap hz
        rw [hf] at this
        exact this
      · have hn : ns = [] := List.eq_nil_of_length_eq_zero (by omega)
        subst hn
        have := Any.strings_Join_none L X A cap sep w
        rw [hf] at this
        exact this.mono fun e w' ⟨h1, h2⟩ => ⟨h1, h2 ▸ Below.refl _ _⟩
    refine Calls.mono key ?_
    rintro y w' ⟨rfl, hb⟩
    refine ⟨_, rfl, [.string (joinB ns sep)], [], [], rfl, ⟨⟨1, [.string (joinB ns sep)], ?_, (valOf_one (fun fs => by rw [hu]; simp) _).symm⟩, rfl, rfl⟩, rfl, by simp, by simp, ⟨hb.os, hb.tape, hb.output, hb.size, fun k hk _ => hb.block k hk⟩⟩
    unfold Rd
    simp only [hu]
    exact ⟨_, rfl, rfl⟩
  | [], _, ha => exact absurd ha (by simp [ArgsAt])
  | [_], [], ha => exact absurd ha (by simp [ArgsAt])
  | [_], _ :: _, ha => exact absurd ha (by simp [ArgsAt])
  | _ :: _ :: _, [], ha => exact absurd ha (by simp [ArgsAt])
  | _ :: _ :: _, [_], ha => exact absurd ha (by simp [ArgsAt])
  | [_, _], _ :: _ :: _ :: _, ha => exact absurd ha (by simp [ArgsAt])
  | _ :: _ :: _ :: _, _ :: _ :: _, ha => exact absurd ha (by simp [ArgsAt])
end
end Go.Proofs.YtjfigkikhmffpaaGreatDoorAm

