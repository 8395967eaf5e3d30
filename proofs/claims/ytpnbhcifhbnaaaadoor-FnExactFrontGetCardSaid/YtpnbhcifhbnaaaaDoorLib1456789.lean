/- Functions of the library, as functions of trees, by the contracts of the shelf: no conditions. -/
import Derived.Test.YtpnbhcifhbnaaaaDoorAm4
import Derived.Shelf.Sort.Plain
import Derived.Shelf.Slices.CompactS
import Derived.Shelf.Strings.Search3
import Derived.Shelf.Strings.Replace
import Derived.Shelf.Strings.Split
import Derived.Shelf.Strconv.Itoa3
import Derived.LaidLaws
import Derived.Shelf.Strconv.AtoiAll
import Derived.Shelf.Strings.SlTrimAscii
set_option linter.unusedVariables false
set_option linter.unusedSimpArgs false
/-! Functions of Go's library, as functions of trees. -/
namespace Go.Proofs.YtpnbhcifhbnaaaaDoorAm
open Go RowKit Go.Shelf Go.Sort Go.Proofs
section
variable {P : Program} [Glb P] {w w' : World} {n : Nat} {t e : TypeId} {ρ : Shelf.Ren} {f : FuncId}
omit [Glb P] in
theorem strs_seq (he : tk P e = .str) : ∀ {ps : List PV} {xs : List Value} {F : List Nat}, OwSeq (Ow P w n e) 1 ps xs F → ∃ ns : List ByteArray, ps = ns.map strP ∧ xs = ns.map Value.string ∧ F = []
  | [], xs, F, h => ⟨[], rfl, h.1, h.2⟩
  | p :: ps, xs, F, ⟨c, cs', k, F', h1, h2, h3, h4, h5⟩ => by
    obtain ⟨ns, e1, e2, e3⟩ := strs_seq he h5
    cases n with
    | zero => exact h4.elim
    | succ n =>
      unfold Ow at h4
      simp only [he] at h4
      obtain ⟨⟨x, rfl, rfl⟩, rfl⟩ := h4
      exact ⟨x :: ns, by simp [e1], by simp [h1, e2], by simp [h3, e3]⟩
omit [Glb P] in
theorem strs_seq_of (he : tk P e = .str) : ∀ ns : List ByteArray, OwSeq (Ow P w 1 e) 1 (ns.map strP) (ns.map Value.string) []
  | [] => ⟨rfl, rfl⟩
  | x :: ns => ⟨[.string x], ns.map Value.string, [], [], rfl, rfl, rfl, by unfold Ow; simp only [he]; exact ⟨⟨x, rfl, rfl⟩, trivial⟩, strs_seq_of he ns⟩
omit [Glb P] in
/-- A row of strings of one's own, not empty. -/
theorem ow_strs (ht : tk P t = .slice e) (he : tk P e = .str) {p : PV} {v : Value} {F : List Nat} (h : Ow P w n t p [v] F) : ∃ ns : List ByteArray, p = strsP ns ∧ F = v.ownBlock.toList ∧
    ((v = .slice none 0 0 ∧ ns = []) ∨ ∃ g cap cur fz, v = .slice (some ⟨g, 0, none⟩) ns.length cap ∧ F = [g] ∧ FzOk cur.size fz ∧ w.heap[g]? = some (.cells cur e fz) ∧ ns.length ≤ cap ∧ cap ≤ maxLen ∧ cur.size = cap ∧ cur.toList.take ns.length = ns.map Value.string) := by
  cases n with
  | zero => exact h.elim
  | succ n =>
    unfold Ow at h
    simp only [ht] at h
    obtain ⟨v', xs, ps, F', hv, rfl, h1, h2, h3⟩ := h
    simp at hv; subst hv
    have hs : sizeOf P e = 1 := by rw [tk_size (by rw [he]; simp), he]; rfl
    rw [hs] at h1 h3
    obtain ⟨ns, rfl, rfl, rfl⟩ := strs_seq he h3
    refine ⟨ns, rfl, by rw [h2, List.append_nil], ?_⟩
    rcases h1.2 with ⟨rfl, h0⟩ | ⟨g, cap, cur, fz, rfl, h4, h5, h6, h7, h8, h9⟩
    · exact .inl ⟨rfl, List.eq_nil_of_length_eq_zero (by simpa using h0)⟩
    · refine .inr ⟨g, cap, cur, fz, by simp, by rw [h2]; rfl, h4, h5, by simpa using h6, h7, by simpa using h8, by simpa using h9⟩
omit [Glb P] in
theorem ow_strs_of (ht : tk P t = .slice e) (he : tk P e = .str) {g cap : Nat} {cur : Array Value} {fz : Nat × Nat} {ns : List ByteArray} (h4 : FzOk cur.size fz) (h5 : w.heap[g]? = some (.cells cur e fz)) (h6 : ns.length ≤ cap) (h7 : cap ≤ maxLen) (h8 : cur.size = cap) (h9 : cur.toList.take ns.length = ns.map Value.string) :
    Ow P w 2 t (strsP ns) [.slice (some ⟨g, 0, none⟩) ns.length cap] [g] := by
  have hs : sizeOf P e = 1 := by rw [tk_size (by rw [he]; simp), he]; rfl
  unfold Ow
  simp only [ht]
  refine ⟨_, ns.map Value.string, ns.map strP, [], rfl, rfl, ⟨by rw [hs]; simp, .inr ⟨g, cap, cur, fz, by simp, h4, h5, by simpa using h6, h7, by rw [hs, h8]; simp, by rw [hs]; simpa using h9⟩⟩, rfl, ?_⟩
  rw [hs]
  exact strs_seq_of he ns
def encB (s : ByteArray) : List UInt8 := s.data.toList
def decB (l : List UInt8) : ByteArray := ⟨l.toArray⟩
theorem decB_encB (s : ByteArray) : decB (encB s) = s := by simp [decB, encB]
theorem holds_strs {g : Nat} {cur : Array Value} {fz : Nat × Nat} {ns : List ByteArray} (h4 : FzOk cur.size fz) (h5 : w.heap[g]? = some (.cells cur e fz)) (h6 : ns.length ≤ cur.size) (h9 : cur.toList.take ns.length = ns.map Value.string) :
    Sort.Holds encStr w g 0 (ns.map encB).toArray := by
  intro j hj
  have hj' : j < ns.length := by simpa using hj
  have hc : cur[j]? = some (Value.string ns[j]) := by
    have : (cur.toList.take ns.length)[j]? = some (Value.string ns[j]) := by rw [h9]; simp [hj']
    rw [List.getElem?_take, if_pos hj'] at this
    simpa [strsP] using this
  refine ⟨?_, ?_⟩
  · simp only [World.cell?, h5, Nat.zero_add]
    rw [hc]
    simp [hj', encB]
  · simp only [World.frozen?, h5, Nat.zero_add]
    rcases h4 with rfl | h4
    · simp
    · have : ¬ fz.1 ≤ j := by omega
      simp [this]
theorem heap_putRow {enc : List UInt8 → Value} {g : Nat} {cur : Array Value} {fz : Nat × Nat} (d : Array (List UInt8)) (h5 : w.heap[g]? = some (.cells cur e fz)) : (Sort.putRow enc w g 0 d).heap[g]? = some (.cells (Sort.putCells enc 0 d cur) e fz) := by
  simp [Sort.putRow, Sort.mapBlock, Array.getElem?_modify, h5, Sort.onCells]
theorem putCells_take {cur : Array Value} (ns : List ByteArray) (hl : ns.length ≤ cur.size) : (Sort.putCells encStr 0 (ns.map encB).toArray cur).toList.take ns.length = ns.map Value.string := by
  apply List.ext_getElem?
  intro k
  rw [List.getElem?_take]
  by_cases hk : k < ns.length
  · have hk2 : k < cur.size := by omega
    rw [if_pos hk]
    simp [Sort.putCells, Array.getElem?_mapIdx, hk, hk2, encB]
  · rw [if_neg hk, List.getElem?_eq_none (by simp; omega)]
/-! ### slices.Sort, of strings -/
def sortM (l : List ByteArray) : List ByteArray := ((l.map encB).mergeSort fun x y => decide (x ≤ y)).map decB
theorem sortM_len (l : List ByteArray) : (sortM l).length = l.length := by simp [sortM]
theorem sortM_enc (l : List ByteArray) : (sortM l).map encB = (l.map encB).mergeSort fun x y => decide (x ≤ y) := by
  simp [sortM, Function.comp_def, encB, decB]
def sortDen : List PV → Option (List PV)
  | [.list (p :: ps)] => if (p :: ps).length < 4611686018427387904 then some [strsP (sortM ((p :: ps).map PV.toStr))] else none
  | _ => none
theorem toStr_strs (ns : List ByteArray) : (ns.map strP).map PV.toStr = ns := by simp [Function.comp_def, PV.toStr]
theorem fnOk_sort (Ly : Lays.n190 P ρ) (hf : ρ.f 190 = f) (hfn : HasFn P f) (ht : tk P t = .slice e) (he : tk P e = .str) : FnOk P f ⟨[(t, .mut)], [], sortDen⟩ := by
  refine ⟨hfn, fun w ok vs ps F L outs hglb ha hnd hok hd => ?_⟩
  match vs, ps, ha with
  | [v], [p], ha =>
    obtain ⟨r, L', rfl, ⟨hb, hrt⟩, rfl, _, ⟨n, how⟩, rfl, rfl⟩ := ha
    obtain ⟨ns, rfl, hF, hcase⟩ := ow_strs ht he how
    rcases hcase with ⟨_, rfl⟩ | ⟨g, cap, cur, fz, hv, hFg, h4, h5, h6, h7, h8, h9⟩
    · simp [sortDen, strsP] at hd
    cases ns with
    | nil => simp [sortDen, strsP] at hd
    | cons s0 ss =>
      have hd' : (if (s0 :: ss).length < 4611686018427387904 then some [strsP (sortM (s0 :: ss))] else none) = some outs := by
        have := hd
        simp only [strsP, List.map_cons, sortDen] at this
        have e1 : List.map PV.toStr (strP s0 :: List.map strP ss) = s0 :: ss := by simp [Function.comp_def, PV.toStr]
        simp only [List.map_cons] at e1
        rw [e1] at this
        simpa [strsP] using this
      split at hd'
      case isFalse => cases hd'
      rename_i hlen
      injection hd' with hd'; subst hd'
      have hg : g < w.heap.size := (Array.getElem?_eq_some_iff.1 h5).1
      have hc := Any.slices_Sort_string Ly g 0 cap ((s0 :: ss).map encB) w (holds_strs h4 h5 (by omega) h9) hg (by simpa using hlen)
      rw [hf] at hc
      rw [List.length_map] at hc
      have hvs : ([r.hd] : List Value).toArray = #[.slice (some ⟨g, 0, none⟩) (s0 :: ss).length cap] := by rw [hv]
      rw [hvs]
      refine Calls.mono hc ?_
      rintro x w' ⟨rfl, m, os, rfl⟩
      refine ⟨_, rfl, [], [], [r.ft], rfl, ⟨rfl, rfl⟩, ⟨r.ft, [], rfl, ?_, rfl⟩, ?_, ?_, ?_⟩
      · unfold LentAt1
        rw [hb]
        have hw1 : (Sort.grow (Sort.putRow encStr (Sort.ahead w m) g 0 ((sortM (s0 :: ss)).map encB).toArray) os).heap[g]? = some (.cells (Sort.putCells encStr 0 ((sortM (s0 :: ss)).map encB).toArray cur) e fz) := by
          have h1 := heap_putRow (enc := encStr) (w := Sort.ahead w m) ((sortM (s0 :: ss)).map encB).toArray (show (Sort.ahead w m).heap[g]? = some (.cells cur e fz) from h5)
          have hlt := (Array.getElem?_eq_some_iff.1 h1).1
          simp only [Sort.grow]
          rw [Array.getElem?_append_left hlt]
          exact h1
        rw [sortM_enc] at hw1
        have hlen' : (sortM (s0 :: ss)).length = (s0 :: ss).length := sortM_len _
        have hout : (dropRes ([] : List (TypeId × RMode)) [strsP (sortM (s0 :: ss))]).headD default = strsP (sortM (s0 :: ss)) := rfl
        have hsz : (Sort.putCells encStr 0 ((s0 :: ss).map encB |>.mergeSort fun x y => decide (x ≤ y)).toArray cur).size = cur.size := by simp [Sort.putCells]
        have htk := putCells_take (cur := cur) (sortM (s0 :: ss)) (by rw [hlen']; omega)
        rw [sortM_enc] at htk
        refine ⟨2, ?_⟩
        have := ow_strs_of (P := P) (t := t) (cap := cap) ht he (by rw [hsz]; exact h4) hw1 (by rw [hlen']; exact h6) h7 (by rw [hsz]; exact h8) htk
        rw [hlen', ← hv, ← hFg, hrt.symm] at this
        exact this
      · simpa using hnd
      · intro k hk
        refine .inr ?_
        simpa using hk
      · refine ⟨rfl, rfl, rfl, by simp [Sort.grow, Sort.putRow, Sort.mapBlock, Sort.ahead], fun k hk hn => ?_⟩
        have hkg : k ≠ g := fun h => hn (by simp [hFg, h])
        simp only [Sort.grow]
        rw [Array.getElem?_append_left (by simpa [Sort.putRow, Sort.mapBlock, Sort.ahead] using hk)]
        simp [Sort.putRow, Sort.mapBlock, Sort.ahead, Array.getElem?_modify, Ne.symm hkg]
  | [], _, ha => exact ha.elim
  | _ :: _, [], ha => exact ha.elim
  | [_], _ :: _ :: _, ha => obtain ⟨r, L', h1, h2, h3, h4, h5, h6⟩ := ha; exact h6.elim
  | _ :: _ :: _, [_], ha => obtain ⟨r, L', h1, h2, h3, h4, h5, h6⟩ := ha; exact h6.elim
  | _ :: _ :: _, _ :: _ :: _, ha => obtain ⟨r, L', h1, h2, h3, h4, h5, h6⟩ := ha; exact h6.elim
end
end Go.Proofs.YtpnbhcifhbnaaaaDoorAm

/-! Functions of the library from plain values to plain values. -/
namespace Go.Proofs.YtpnbhcifhbnaaaaDoorAm
open Go RowKit Go.Shelf Go.Proofs
section
variable {P : Program} [Glb P] {w w' : World} {t u : TypeId} {ρ : Shelf.Ren} {f : FuncId} {ok : Nat → Prop} {p : PV} {v : Value}
def scal (P : Program) (t : TypeId) : Bool := match tk P t with | .int _ | .bool | .str => true | _ => false
def kindB (P : Program) (t : TypeId) (v : Value) : Bool := match tk P t, v with | .int k, .int k' _ => decide (k = k') | .bool, .bool _ => true | .str, .string _ => true | _, _ => false
def kindsB (P : Program) : List TypeId → List Value → Bool
  | [], [] => true
  | t :: ts, v :: vs => kindB P t v && kindsB P ts vs
  | _, _ => false
theorem rdV_scal (h : scal P t = true) (hr : RdV P ok w t p v) : p = .sc v ∧ kindB P t v = true := by
  obtain ⟨n, cs, h1, h2⟩ := hr
  cases n with
  | zero => exact h1.elim
  | succ n =>
    unfold Rd at h1
    unfold scal at h
    unfold kindB
    cases ht : tk P t with
    | int k => simp only [ht] at h1; obtain ⟨x, rfl, rfl⟩ := h1; rw [valOf_one (by rw [ht]; simp)] at h2; subst h2; simp
    | bool => simp only [ht] at h1; obtain ⟨x, rfl, rfl⟩ := h1; rw [valOf_one (by rw [ht]; simp)] at h2; subst h2; simp
    | str => simp only [ht] at h1; obtain ⟨x, rfl, rfl⟩ := h1; rw [valOf_one (by rw [ht]; simp)] at h2; subst h2; simp
    | slice e => rw [ht] at h; cases h
    | struct fs => rw [ht] at h; cases h
    | other => rw [ht] at h; cases h
    | bad => rw [ht] at h; cases h
theorem rdV_of (h : kindB P t v = true) : RdV P ok w t (.sc v) v := by
  unfold kindB at h
  cases ht : tk P t with
  | int k =>
    rw [ht] at h
    cases v <;> simp at h
    subst h
    exact ⟨1, [_], by unfold Rd; simp only [ht]; exact ⟨_, rfl, rfl⟩, (valOf_one (fun fs => by rw [ht]; simp) _).symm⟩
  | bool =>
    rw [ht] at h
    cases v <;> simp at h
    exact ⟨1, [_], by unfold Rd; simp only [ht]; exact ⟨_, rfl, rfl⟩, (valOf_one (fun fs => by rw [ht]; simp) _).symm⟩
  | str =>
    rw [ht] at h
    cases v <;> simp at h
    exact ⟨1, [_], by unfold Rd; simp only [ht]; exact ⟨_, rfl, rfl⟩, (valOf_one (fun fs => by rw [ht]; simp) _).symm⟩
  | slice e => rw [ht] at h; simp at h
  | struct fs => rw [ht] at h; simp at h
  | other => rw [ht] at h; simp at h
  | bad => rw [ht] at h; simp at h
theorem args_scal : ∀ {ts : List TypeId} {vs : List Value} {ps : List PV} {F : List Nat} {L : List Row}, (ts.all (scal P)) = true → ArgsAt P ok w (ts.map fun t => (t, Mode.ro)) vs ps F L → ps = vs.map PV.sc ∧ F = [] ∧ L = [] ∧ kindsB P ts vs = true
  | [], [], [], F, L, _, h => ⟨rfl, h.1, h.2, rfl⟩
  | t :: ts, v :: vs, p :: ps, F, L, hs, h => by
    simp only [List.all_cons, Bool.and_eq_true] at hs
    obtain ⟨h1, h2⟩ := h
    obtain ⟨rfl, h3⟩ := rdV_scal hs.1 h1
    obtain ⟨rfl, h4, h5, h6⟩ := args_scal hs.2 h2
    exact ⟨rfl, h4, h5, by simp [kindsB, h3, h6]⟩
  | [], _ :: _, _, _, _, _, h => h.elim
  | [], [], _ :: _, _, _, _, h => h.elim
  | _ :: _, [], _, _, _, _, h => h.elim
  | _ :: _, _ :: _, [], _, _, _, h => h.elim
theorem res_scal : ∀ {us : List TypeId} {rs : List Value}, kindsB P us rs = true → ResAt P ok w (us.map fun t => (t, RMode.val)) (rs.map PV.sc) rs []
  | [], [], _ => ⟨rfl, rfl⟩
  | t :: ts, v :: vs, h => by
    simp only [kindsB, Bool.and_eq_true] at h
    exact ⟨rdV_of h.1, res_scal h.2⟩
  | [], _ :: _, h => by cases h
  | _ :: _, [], h => by cases h
theorem dropRes_len {α β : Type} : ∀ {l : List β} {m : List α}, l.length = m.length → dropRes l m = []
  | [], [], _ => rfl
  | _ :: l, _ :: m, h => dropRes_len (l := l) (m := m) (by simpa using h)
  | [], _ :: _, h => by simp at h
  | _ :: _, [], h => by simp at h
omit [Glb P] in
theorem kindsB_len : ∀ {us : List TypeId} {rs : List Value}, kindsB P us rs = true → us.length = rs.length
  | [], [], _ => rfl
  | t :: ts, v :: vs, h => by simp only [kindsB, Bool.and_eq_true] at h; simp [kindsB_len h.2]
  | [], _ :: _, h => by cases h
  | _ :: _, [], h => by cases h
/-- A function from plain values to plain values. -/
theorem fnOk_scal {ts us : List TypeId} {den : List PV → Option (List PV)} (hfn : HasFn P f) (hts : ts.all (scal P) = true)
    (h : ∀ (w : World) (ok : Nat → Prop) (vs : List Value) (outs : List PV), Glb.holds (P := P) ok w → kindsB P ts vs = true → den (vs.map PV.sc) = some outs → ∃ rs : List Value, outs = rs.map PV.sc ∧ kindsB P us rs = true ∧ Calls P f vs.toArray w fun e w' => e = .returned (retVal rs) ∧ Step w w' (fun _ => False)) :
    FnOk P f ⟨ts.map fun t => (t, Mode.ro), us.map fun t => (t, RMode.val), den⟩ := by
  refine ⟨hfn, fun w ok vs ps F L outs hglb ha hnd hok hd => ?_⟩
  obtain ⟨rfl, rfl, rfl, hk⟩ := args_scal hts ha
  obtain ⟨rs, rfl, hr, hc⟩ := h w ok vs outs hglb hk hd
  refine hc.mono fun e w' ⟨he, hs⟩ => ?_
  refine ⟨retVal rs, he, rs, [], [], rfl, res_scal hr, ?_, by simp, by simp, ⟨hs.os, hs.tape, hs.output, hs.size, fun k hk hn => hs.block k hk (fun h => h)⟩⟩
  show LentAt P w' [] _ []
  rfl
theorem step_refl {Z : Nat → Prop} : Step w w Z := ⟨rfl, rfl, rfl, Nat.le_refl _, fun _ _ _ => rfl⟩
omit [Glb P] in
theorem kinds2 {a b : TypeId} {vs : List Value} (h : kindsB P [a, b] vs = true) : ∃ x y, vs = [x, y] ∧ kindB P a x = true ∧ kindB P b y = true := by
  match vs, h with
  | [x, y], h => simp [kindsB] at h; exact ⟨x, y, rfl, h.1, h.2⟩
  | [], h => cases h
  | [_], h => simp [kindsB] at h
  | _ :: _ :: _ :: _, h => simp [kindsB] at h
omit [Glb P] in
theorem kinds1 {a : TypeId} {vs : List Value} (h : kindsB P [a] vs = true) : ∃ x, vs = [x] ∧ kindB P a x = true := by
  match vs, h with
  | [x], h => simp [kindsB] at h; exact ⟨x, rfl, h⟩
  | [], h => cases h
  | _ :: _ :: _, h => simp [kindsB] at h
omit [Glb P] in
theorem kind_str (ht : tk P t = .str) (h : kindB P t v = true) : ∃ s, v = .string s := by
  unfold kindB at h; rw [ht] at h
  cases v <;> simp at h
  exact ⟨_, rfl⟩
omit [Glb P] in
theorem scal_str (ht : tk P t = .str) : scal P t = true := by simp [scal, ht]
/-! ### strings.Index, of one byte -/
def indexDen : List PV → Option (List PV)
  | [.sc (.string s), .sc (.string p)] => if p.size = 1 then some [intP (Lib.indexByte s.data.toList (p.get! 0))] else none
  | _ => none
theorem one_bytes (p : ByteArray) (h : p.size = 1) : p = ⟨#[p.get! 0]⟩ := by
  obtain ⟨⟨l⟩⟩ := p
  match l, h with
  | [x], _ => rfl
  | [], h => simp [ByteArray.size] at h
  | _ :: _ :: _, h => simp [ByteArray.size] at h
theorem fnOk_index (L : Lays.n143 P ρ) (hf : ρ.f 143 = f) (hfn : HasFn P f) (ht : tk P t = .str) (hu : tk P u = .int .i64) : FnOk P f ⟨[(t, .ro), (t, .ro)], [(u, .val)], indexDen⟩ := by
  refine fnOk_scal (ts := [t, t]) (us := [u]) hfn (by simp [scal_str ht]) (fun w ok vs outs _ hk hd => ?_)
  obtain ⟨x, y, rfl, hx, hy⟩ := kinds2 hk
  obtain ⟨s, rfl⟩ := kind_str ht hx
  obtain ⟨p, rfl⟩ := kind_str ht hy
  have hd' : (if p.size = 1 then some [intP (Lib.indexByte s.data.toList (p.get! 0))] else none) = some outs := hd
  split at hd'
  case isFalse => cases hd'
  rename_i hp
  injection hd' with hd'; subst hd'
  have hc := Any.strings_Index_one L s (p.get! 0) w
  rw [hf, ← one_bytes p hp] at hc
  exact ⟨[.int .i64 (Lib.indexByte s.data.toList (p.get! 0))], rfl, by simp [kindsB, kindB, hu], hc.mono fun e w' ⟨h1, h2⟩ => ⟨h1, by rw [h2]; exact step_refl⟩⟩
end
end Go.Proofs.YtpnbhcifhbnaaaaDoorAm

/-! strings.ReplaceAll, of one byte by none. -/
namespace Go.Proofs.YtpnbhcifhbnaaaaDoorAm
open Go RowKit Go.Shelf Go.Proofs
section
variable {P : Program} [Glb P] {w w' : World} {t u : TypeId} {ρ : Shelf.Ren} {f : FuncId} {ok : Nat → Prop}
theorem replaceK_ne {b x : UInt8} (h : x ≠ b) (l : List UInt8) : ∀ k, Lib.replaceK [b] [] k (x :: l) = x :: Lib.replaceK [b] [] k l
  | 0 => rfl
  | k + 1 => by
    have hp : ([b] : List UInt8).isPrefixOf (x :: l) = false := by simp [List.isPrefixOf]; exact fun e => h e.symm
    have hi : Lib.index (x :: l) [b] = if Lib.index l [b] == -1 then -1 else Lib.index l [b] + 1 := by
      rw [Lib.index, if_neg (by simp [hp])]
    have hg := Lib.index_ge l [b]
    rw [Lib.replaceK, Lib.replaceK, hi]
    by_cases h1 : Lib.index l [b] = -1
    · simp [h1]
    · have h2 : (Lib.index l [b] == -1) = false := by simpa using h1
      have h3 : (Lib.index l [b] + 1 == -1) = false := by simp; omega
      have h4 : (Lib.index l [b] + 1).toNat = (Lib.index l [b]).toNat + 1 := by omega
      simp [h2, h3, h4]
theorem replaceK_eq {b : UInt8} (l : List UInt8) (k : Nat) : Lib.replaceK [b] [] (k + 1) (b :: l) = Lib.replaceK [b] [] k l := by
  have hi : Lib.index (b :: l) [b] = 0 := by rw [Lib.index, if_pos (by simp [List.isPrefixOf])]
  rw [Lib.replaceK, hi]; simp
theorem replaceAll_one (b : UInt8) (s : List UInt8) : Lib.replaceAll s [b] [] = s.filter (· != b) := by
  have key : ∀ s : List UInt8, Lib.replaceK [b] [] (s.count b) s = s.filter (· != b) := by
    intro s
    induction s with
    | nil => rfl
    | cons x l ih =>
      by_cases h : x = b
      · subst h
        rw [List.count_cons_self, replaceK_eq, ih]; simp
      · rw [List.count_cons_of_ne h, replaceK_ne h, ih]; simp [h]
  unfold Lib.replaceAll Lib.replace
  rw [if_neg (by simp)]
  unfold Lib.replaceNum
  rw [if_pos (.inl (by omega)), Lib.count_one, key]
def dropB (s : ByteArray) (b : UInt8) : ByteArray := ⟨(s.data.toList.filter (· != b)).toArray⟩
def dropDen : List PV → Option (List PV)
  | [.sc (.string s), .sc (.string p), .sc (.string q)] => if p.size = 1 then (if q.size = 0 then (if s.size ≤ 4294967280 then some [strP (dropB s (p.get! 0))] else none) else none) else none
  | _ => none
omit [Glb P] in
theorem kinds3 {a b c : TypeId} {vs : List Value} (h : kindsB P [a, b, c] vs = true) : ∃ x y z, vs = [x, y, z] ∧ kindB P a x = true ∧ kindB P b y = true ∧ kindB P c z = true := by
  match vs, h with
  | [x, y, z], h => simp [kindsB] at h; exact ⟨x, y, z, rfl, h.1, h.2.1, h.2.2⟩
  | [], h => cases h
  | [_], h => simp [kindsB] at h
  | [_, _], h => simp [kindsB] at h
  | _ :: _ :: _ :: _ :: _, h => simp [kindsB] at h
theorem empty_bytes (q : ByteArray) (h : q.size = 0) : q.data.toList = [] := by
  obtain ⟨⟨l⟩⟩ := q
  match l, h with
  | [], _ => rfl
  | _ :: _, h => simp [ByteArray.size] at h
omit [Glb P] in
theorem fact_of {gs : List (Nat × TypeId × PV)} {fs : List (Nat × (Obj → Prop))} {g : Nat} (h : (glbOf P gs fs).holds ok w) (hg : (g, someI64) ∈ fs) : ∃ m, w.cell? ⟨g, 0, none⟩ = some (.int .i64 m) := cell_of_someI64 (h.2 _ hg).2
theorem fnOk_drop (L : Lays.n155 P ρ) (X : Builder.Extra P ρ) (hf : ρ.f 155 = f) (hfn : HasFn P f) (hm : ∀ (ok : Nat → Prop) (w : World), Glb.holds (P := P) ok w → ∃ m, w.cell? ⟨ρ.g 1, 0, none⟩ = some (.int .i64 m)) (ht : tk P t = .str) (hu : tk P u = .str) :
    FnOk P f ⟨[(t, .ro), (t, .ro), (t, .ro)], [(u, .val)], dropDen⟩ := by
  refine fnOk_scal (ts := [t, t, t]) (us := [u]) hfn (by simp [scal_str ht]) (fun w ok vs outs hglb hk hd => ?_)
  obtain ⟨x, y, z, rfl, hx, hy, hz⟩ := kinds3 hk
  obtain ⟨s, rfl⟩ := kind_str ht hx
  obtain ⟨p, rfl⟩ := kind_str ht hy
  obtain ⟨q, rfl⟩ := kind_str ht hz
  have hd' : (if p.size = 1 then (if q.size = 0 then (if s.size ≤ 4294967280 then some [strP (dropB s (p.get! 0))] else none) else none) else none) = some outs := hd
  split at hd'
  case isFalse => cases hd'
  rename_i hp
  split at hd'
  case isFalse => cases hd'
  rename_i hq
  split at hd'
  case isFalse => cases hd'
  rename_i hs
  injection hd' with hd'; subst hd'
  obtain ⟨m, hm⟩ := hm ok w hglb
  have hc := Any.strings_ReplaceAll L X s p q m w (by omega) hm (by omega) (by rw [hq]; omega)
  have hpe : p.data.toList = [p.get! 0] := by
    have := one_bytes p hp
    exact congrArg (fun b : ByteArray => b.data.toList) this
  rw [hf, hpe, empty_bytes q hq, replaceAll_one] at hc
  exact ⟨[.string (dropB s (p.get! 0))], rfl, by simp [kindsB, kindB, hu], hc.mono fun e w' ⟨h1, h2⟩ => ⟨h1, ⟨h2.os, h2.tape, h2.output, h2.size, fun k hk _ => h2.block k hk⟩⟩⟩
end
end Go.Proofs.YtpnbhcifhbnaaaaDoorAm

/-! strings.Split, at one byte. -/
namespace Go.Proofs.YtpnbhcifhbnaaaaDoorAm
open Go RowKit Go.Shelf Go.Proofs
section
variable {P : Program} [Glb P] {w w' : World} {t e u : TypeId} {ρ : Shelf.Ren} {f : FuncId} {ok : Nat → Prop}
def splitOn (s p : ByteArray) : List ByteArray := Lib.splitB p 0 (Lib.countB s p) s
def splitDen : List PV → Option (List PV)
  | [.sc (.string s), .sc (.string p)] => if p.size = 1 then (if s.size ≤ 4294967280 then some [strsP (splitOn s p)] else none) else none
  | _ => none
theorem fnOk_split (L : Lays.n146 P ρ) (hf : ρ.f 146 = f) (hfn : HasFn P f) (hm : ∀ (ok : Nat → Prop) (w : World), Glb.holds (P := P) ok w → ∃ m, w.cell? ⟨ρ.g 1, 0, none⟩ = some (.int .i64 m)) (ht : tk P t = .str) (hu : tk P u = .slice e) (he : tk P e = .str) (h9 : ρ.t 9 = e)
    (hi9 : (P.info? (ρ.t 9)).map (fun i => (i.zero, i.size, i.bytes)) = some (some (.string ByteArray.empty), 1, 16)) :
    FnOk P f ⟨[(t, .ro), (t, .ro)], [(u, .own)], splitDen⟩ := by
  refine ⟨hfn, fun w ok vs ps F L' outs hglb ha hnd hok hd => ?_⟩
  obtain ⟨rfl, rfl, rfl, hk⟩ := args_scal (ts := [t, t]) (by simp [scal_str ht]) ha
  obtain ⟨x, y, rfl, hx, hy⟩ := kinds2 hk
  obtain ⟨s, rfl⟩ := kind_str ht hx
  obtain ⟨p, rfl⟩ := kind_str ht hy
  have hd' : (if p.size = 1 then (if s.size ≤ 4294967280 then some [strsP (splitOn s p)] else none) else none) = some outs := hd
  split at hd'
  case isFalse => cases hd'
  rename_i hp
  split at hd'
  case isFalse => cases hd'
  rename_i hs
  injection hd' with hd'; subst hd'
  obtain ⟨m, hm⟩ := hm ok w hglb
  have hc := Any.strings_Split L hi9 s p m w (by omega) hm (by omega)
  rw [hf, h9] at hc
  have hns : ∀ fs, tk P u ≠ .struct fs := fun fs => by rw [hu]; simp
  have hvl : ∀ x : Value, x = valOf P u [x] := fun x => (valOf_one hns x).symm
  have hlen : (splitOn s p).length = Lib.countB s p + 1 := Lib.splitB_all p (by omega) 0 _ s rfl
  have hle := Lib.countB_le p (by omega) s.size s (Nat.le_refl _)
  refine Calls.mono hc ?_
  rintro x w' ⟨rfl, rfl⟩
  rw [← hlen]
  refine ⟨_, rfl, [.slice (some ⟨w.heap.size, 0, none⟩) (splitOn s p).length (splitOn s p).length], [w.heap.size], [], rfl, ⟨[w.heap.size], [], by simp, ⟨2, _, ?_, hvl _⟩, rfl, rfl⟩, rfl, by simp, fun k hk => .inl (by simp at hk; omega), ⟨rfl, rfl, rfl, by show w.heap.size ≤ (w.heap.push _).size; simp, fun k hk _ => Below.heap_alloc w _ k hk⟩⟩
  refine ow_strs_of (P := P) (cap := (splitOn s p).length) (cur := ((splitOn s p).map Value.string).toArray) (fz := (0, 0)) hu he (.inl rfl) ?_ (Nat.le_refl _) ?_ (by simp) (List.take_of_length_le (by simp))
  · show (w.heap.push _)[w.heap.size]? = _
    simp [splitOn]
  · rw [hlen]; simp only [maxLen]; omega
end
end Go.Proofs.YtpnbhcifhbnaaaaDoorAm

/-! strconv.Itoa. -/
namespace Go.Proofs.YtpnbhcifhbnaaaaDoorAm
open Go RowKit Go.Shelf Go.Proofs
section
variable {P : Program} [Glb P] {w w' : World} {t u : TypeId} {ρ : Shelf.Ren} {f : FuncId} {ok : Nat → Prop} {p : PV} {v : Value}
def itoaB (n : Int) : ByteArray := ⟨(Lib.itoa n).toArray⟩
def itoaDen : List PV → Option (List PV)
  | [.sc (.int .i64 n)] => if -9223372036854775808 ≤ n ∧ n ≤ 9223372036854775807 then some [strP (itoaB n)] else none
  | _ => none
omit [Glb P] in
theorem kind_i64 (ht : tk P t = .int .i64) (h : kindB P t v = true) : ∃ n, v = .int .i64 n := by
  unfold kindB at h; rw [ht] at h
  cases v <;> simp at h
  subst h
  exact ⟨_, rfl⟩
theorem tab_of {gs : List (Nat × TypeId × PV)} {fs : List (Nat × (Obj → Prop))} {n : String} {g : Nat} {kd : IntKind} {zs : List Int} (hn : P.globalNamed n = some g) (h : (glbOf P gs fs).holds ok w) (hg : (g, tabObj kd zs) ∈ fs) : Lib.TabIs P w n kd zs :=
  var_of_tab hn (h.2 _ hg).2
theorem fnOk_itoa (L : LaysM.n171 P ρ) (hf : ρ.f 171 = f) (hfn : HasFn P f) (hm : ∀ (ok : Nat → Prop) (w : World), Glb.holds (P := P) ok w → Lib.TabIs P w "internal/strconv.uint64pow10" .u64 Lib.pow10Tab) (ht : tk P t = .int .i64) (hu : tk P u = .str) :
    FnOk P f ⟨[(t, .ro)], [(u, .val)], itoaDen⟩ := by
  refine fnOk_scal (ts := [t]) (us := [u]) hfn (by simp [scal, ht]) (fun w ok vs outs hglb hk hd => ?_)
  obtain ⟨x, rfl, hx⟩ := kinds1 hk
  obtain ⟨n, rfl⟩ := kind_i64 ht hx
  have hd' : (if -9223372036854775808 ≤ n ∧ n ≤ 9223372036854775807 then some [strP (itoaB n)] else none) = some outs := hd
  split at hd'
  case isFalse => cases hd'
  rename_i hb
  injection hd' with hd'; subst hd'
  refine ⟨[.string (itoaB n)], rfl, by simp [kindsB, kindB, hu], ?_⟩
  have hc := Any.strconv_Itoa L n hb.1 hb.2 w (hm ok w hglb)
  rw [hf] at hc
  refine Calls.mono hc ?_
  rintro e w' ⟨rfl, k, os, rfl⟩
  refine ⟨rfl, ?_, ?_, ?_, ?_, ?_⟩
  · simp [Go.Sort.grow, World.drewN]
  · simp [Go.Sort.grow, World.drewN]
  · simp [Go.Sort.grow, World.drewN]
  · simp [Go.Sort.grow, World.drewN]
  · intro j hj _
    simp [Go.Sort.grow, World.drewN, Array.getElem?_append_left hj]
end
end Go.Proofs.YtpnbhcifhbnaaaaDoorAm

/-! strconv.Atoi; of its error nothing is said. -/
namespace Go.Proofs.YtpnbhcifhbnaaaaDoorAm
open Go RowKit Go.Shelf Go.Proofs
section
variable {P : Program} [Glb P] {w w' : World} {t u e : TypeId} {ρ : Shelf.Ren} {f : FuncId} {ok : Nat → Prop} {p : PV} {v : Value}
/-- A block that holds a value of an interface. -/
def ifaceObj (o : Obj) : Prop := ∃ cs t fz v, o = .cells cs t fz ∧ cs[0]? = some v ∧ (v = .nilIface ∨ ∃ te pe, v = .iface te pe)
omit [Glb P] in
theorem iface_laid {n name : String} {x : DataW Unit} {d : DataW Unit} {g : Nat} {ms : Array (String × TypeId)} (hd : d = .iface name x) (hg : P.globalNamed n = some g) (ht : (P.globals[g]?).map (·.type) = some t) (hi : P.underlying t = some (.interface ms)) : ∀ {laid : List (String × DataW Unit)} {ps : List MemPlace},
    DataW.LaidVars P w laid ps → (n, d) ∈ laid → ∃ o, w.heap[g]? = some o ∧ ifaceObj o
  | [], _, _, hm => by cases hm
  | (n', d') :: r, ps, ⟨g', t', cs, fuel, p, q, h1, h2, h3, h4, h5, h6⟩, hm => by
    rcases List.mem_cons.1 hm with he | hm
    · injection he with e1 e2; subst e1 e2
      rw [hg] at h1; injection h1 with h1; subst h1
      rw [ht] at h2; injection h2 with h2; subst h2
      unfold World.var? at h3
      rw [hg] at h3
      simp only [Option.bind_some] at h3
      split at h3
      · rename_i cs' t0 fz hh
        injection h3 with h3; subst h3
        rw [hd] at h4
        obtain ⟨_, u, v, hc, _, _⟩ := iface_of_trod hi h4
        refine ⟨_, hh, cs', t0, fz, .iface u v, rfl, ?_, .inr ⟨_, _, rfl⟩⟩
        have : cs'.toList[0]? = some (.iface u v) := by rw [hc]; rfl
        simpa using this
      · cases h3
    · exact iface_laid hd hg ht hi h5 hm
omit [Glb P] in
theorem iface_fact {gs : List (Nat × TypeId × PV)} {fs : List (Nat × (Obj → Prop))} {g : Nat} (h : (glbOf P gs fs).holds ok w) (hg : (g, ifaceObj) ∈ fs) : ∃ ev, w.cell? ⟨g, 0, none⟩ = some ev ∧ (ev = .nilIface ∨ ∃ te pe, ev = .iface te pe) := by
  obtain ⟨o, ho, cs, t, fz, v, rfl, h1, h2⟩ := (h.2 _ hg).2
  exact ⟨v, by simp [World.cell?, ho, h1], h2⟩
def atoiVal (s : ByteArray) : Int := match Lib.atoiAll s.data.toList with | .ok v => v | .range => Lib.atoiSat s.data.toList | _ => 0
def atoiErr (s : ByteArray) : Bool := match Lib.atoiAll s.data.toList with | .ok _ => false | _ => true
def atoiDen : List PV → Option (List PV)
  | [.sc (.string s)] => if s.size ≤ 281474976710656 then some [intP (atoiVal s), boolP (atoiErr s)] else none
  | _ => none
theorem fnOk_atoi (L : LaysC.n172 P ρ) (hf : ρ.f 172 = f) (hfn : HasFn P f)
    (hs : ∀ (ok : Nat → Prop) (w : World), Glb.holds (P := P) ok w → ∃ ev, w.cell? ⟨ρ.g 15, 0, none⟩ = some ev ∧ (ev = .nilIface ∨ ∃ te pe, ev = .iface te pe))
    (hr : ∀ (ok : Nat → Prop) (w : World), Glb.holds (P := P) ok w → ∃ ev, w.cell? ⟨ρ.g 16, 0, none⟩ = some ev ∧ (ev = .nilIface ∨ ∃ te pe, ev = .iface te pe))
    (ht : tk P t = .str) (hu : tk P u = .int .i64) :
    FnOk P f ⟨[(t, .ro)], [(u, .val), (e, .err)], atoiDen⟩ := by
  refine ⟨hfn, fun w ok vs ps F L' outs hglb ha hnd hok hd => ?_⟩
  obtain ⟨rfl, rfl, rfl, hk⟩ := args_scal (ts := [t]) (by simp [scal_str ht]) ha
  obtain ⟨x, rfl, hx⟩ := kinds1 hk
  obtain ⟨s, rfl⟩ := kind_str ht hx
  have hd' : (if s.size ≤ 281474976710656 then some [intP (atoiVal s), boolP (atoiErr s)] else none) = some outs := hd
  split at hd'
  case isFalse => cases hd'
  rename_i hb
  injection hd' with hd'; subst hd'
  have fin : ∀ (n : Int) (er : Value) (w' : World), n = atoiVal s → ((atoiErr s = false ∧ er = .nilIface) ∨ (atoiErr s = true ∧ ∃ te pe, er = .iface te pe)) → Step w w' (fun _ => False) → ∃ v, Ending.returned (.tuple #[.int .i64 n, er]) = Ending.returned v ∧ FnPost P ok w w' [(u, .val), (e, .err)] [intP (atoiVal s), boolP (atoiErr s)] [] ([] ++ ([] : List Row).flatMap (·.ft)) v := by
    rintro n er w' rfl her hst
    refine ⟨_, rfl, [.int .i64 (atoiVal s), er], [], [], rfl, ⟨rdV_of (by simp [kindB, hu]), her, rfl, rfl⟩, ?_, by simp, by simp, ⟨hst.os, hst.tape, hst.output, hst.size, fun k hk hn => hst.block k hk (fun h => h)⟩⟩
    show LentAt P w' [] _ []
    rfl
  have below : ∀ w', RowKit.Below w.heap.size w w' → Step w w' (fun _ => False) := fun w' h => ⟨h.os, h.tape, h.output, h.size, fun k hk _ => h.block k hk⟩
  rcases hA : Lib.atoiAll s.data.toList with n | _ | _
  · have hc := Any.strconv_Atoi_ok L s (by omega) n hA w
    rw [hf] at hc
    refine Calls.mono hc ?_
    rintro x w' ⟨rfl, hw⟩
    refine fin n _ w' (by simp [atoiVal, hA]) (.inl ⟨by simp [atoiErr, hA], rfl⟩) ?_
    rcases hw with rfl | ⟨t', rfl⟩
    · exact step_refl
    · exact below _ (Go.Lib.bytesWorld_below w _ t')
  · obtain ⟨ev, h1, h2⟩ := hs ok w hglb
    have hc := Any.strconv_Atoi_syntax L s hb hA ev w h1 h2
    rw [hf] at hc
    refine Calls.mono hc ?_
    rintro x w' ⟨N, rfl, _, _, hw⟩
    exact fin 0 _ w' (by simp [atoiVal, hA]) (.inr ⟨by simp [atoiErr, hA], _, _, rfl⟩) (below w' hw)
  · obtain ⟨ev, h1, h2⟩ := hr ok w hglb
    have hc := Any.strconv_Atoi_range L s hb hA ev w h1 h2
    rw [hf] at hc
    refine Calls.mono hc ?_
    rintro x w' ⟨N, rfl, _, _, hw⟩
    exact fin _ _ w' (by simp [atoiVal, hA]) (.inr ⟨by simp [atoiErr, hA], _, _, rfl⟩) (below w' hw)
end
end Go.Proofs.YtpnbhcifhbnaaaaDoorAm

/-! strings.TrimLeft, of a set of bytes below 128. -/
namespace Go.Proofs.YtpnbhcifhbnaaaaDoorAm
open Go RowKit Go.Shelf Go.Proofs
section
variable {P : Program} [Glb P] {w w' : World} {t u e : TypeId} {ρ : Shelf.Ren} {f : FuncId} {ok : Nat → Prop} {p : PV} {v : Value}
def trimB (s c : ByteArray) : ByteArray := ⟨(Lib.trimLeftS s.data.toList c.data.toList).toArray⟩
def trimDen : List PV → Option (List PV)
  | [.sc (.string s), .sc (.string c)] => if c.data.toList.all (fun b => decide (b.toNat < 128)) = true then (if c.size < 4294967281 then some [strP (trimB s c)] else none) else none
  | _ => none
theorem fnOk_trim (L : Lays.n161 P ρ) (hf : ρ.f 161 = f) (hfn : HasFn P f) (h116 : (P.info? (ρ.t 116)).map (fun i => (i.zero, i.size)) = some (some (.agg (Array.replicate 256 (.bool false))), 256)) (ht : tk P t = .str) (hu : tk P u = .str) :
    FnOk P f ⟨[(t, .ro), (t, .ro)], [(u, .val)], trimDen⟩ := by
  refine fnOk_scal (ts := [t, t]) (us := [u]) hfn (by simp [scal_str ht]) (fun w ok vs outs _ hk hd => ?_)
  obtain ⟨x, y, rfl, hx, hy⟩ := kinds2 hk
  obtain ⟨s, rfl⟩ := kind_str ht hx
  obtain ⟨c, rfl⟩ := kind_str ht hy
  have hd' : (if c.data.toList.all (fun b => decide (b.toNat < 128)) = true then (if c.size < 4294967281 then some [strP (trimB s c)] else none) else none) = some outs := hd
  split at hd'
  case isFalse => cases hd'
  rename_i hc
  split at hd'
  case isFalse => cases hd'
  rename_i hcs
  injection hd' with hd'; subst hd'
  have hcall := Any.strings_TrimLeft_laid L h116 s c w hcs (fun j b hj => by
    have := List.all_eq_true.1 hc b (List.mem_of_getElem? hj)
    simpa using this)
  rw [hf] at hcall
  refine ⟨[.string (trimB s c)], rfl, by simp [kindsB, kindB, hu], ?_⟩
  refine Calls.mono hcall ?_
  rintro e w' ⟨rfl, hb⟩
  exact ⟨rfl, hb.os, hb.tape, hb.output, hb.size, fun k hk _ => hb.block k hk⟩
end
end Go.Proofs.YtpnbhcifhbnaaaaDoorAm

