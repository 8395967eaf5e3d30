/- Functions of the library, as functions of trees, by the contracts of the shelf: no conditions. -/
import Derived.Test.YtoiigoflkhmjnaaGreatDoorAm4
import Derived.Shelf.Sort.Plain
import Derived.Shelf.Slices.CompactS
import Derived.Shelf.Strings.OnBuilder
import Derived.Shelf.Strings.Search3
set_option linter.unusedVariables false
set_option linter.unusedSimpArgs false
/-! Functions of Go's library, as functions of trees. -/
namespace Go.Proofs.YtoiigoflkhmjnaaGreatDoorAm
open Go RowKit Go.Shelf Go.Sort Go.Proofs
section
variable {P : Program} {ρ : Shelf.Ren}
set_option maxRecDepth 100000
/-- slices.Sort of a slice that is nil: nothing. -/
theorem ins_nil (Ly : Lays.n302 P ρ) (D : Nat) (w : World) :
    CallsIn (Fence.list [ρ.f 190, ρ.f 192, ρ.f 125, ρ.f 258, ρ.f 129, ρ.f 302, ρ.f 303, ρ.f 304, ρ.f 305, ρ.f 306, ρ.f 307, ρ.f 308, ρ.f 309, ρ.f 310, ρ.f 329, ρ.f 330, ρ.f 333, ρ.f 334, ρ.f 335, ρ.f 336, ρ.f 344] (some D)) 2 P (ρ.f 302) #[.slice none 0 0, .int .i64 0, .int .i64 0] w fun e w' => e = .returned (.tuple #[]) ∧ w' = w := by
  have mixed := Ly.mixed
  have t0 := Ly.t0; have a0 := Ly.a0; have z0 := Ly.z0; have v0 := Ly.v0; have t3 := Ly.t3; have a3 := Ly.a3; have z3 := Ly.z3; have v3 := Ly.v3; have t4 := Ly.t4; have a4 := Ly.a4; have z4 := Ly.z4; have v4 := Ly.v4; have t9 := Ly.t9; have a9 := Ly.a9; have z9 := Ly.z9; have v9 := Ly.v9; have t31 := Ly.t31; have a31 := Ly.a31; have z31 := Ly.z31; have v31 := Ly.v31
  have e308 : ∀ args w, (callFunc (ρ.f 308) args).run P w = .ok (.enter (ρ.f 308) args) w := enters_of Ly.f308 (by kernel_rfl) rfl
  gi_enter Ly.f302, Body.n302_ntmps ρ
  gi_wp2
  gi_loopw [6] (fun vi wr => vi = .int .i64 1 ∧ wr = w) (fun _ _ => 0)
  case atStart => exact ⟨by go_num, rfl⟩
  case round =>
    obtain ⟨rfl, rfl⟩ := hrel
    gi_wp2
    go_end0
    exact ⟨rfl, rfl⟩
theorem pdq_nil (Ly : Lays.n258 P ρ) (D : Nat) (w : World) :
    CallsIn (Fence.list [ρ.f 190, ρ.f 192, ρ.f 125, ρ.f 258, ρ.f 129, ρ.f 302, ρ.f 303, ρ.f 304, ρ.f 305, ρ.f 306, ρ.f 307, ρ.f 308, ρ.f 309, ρ.f 310, ρ.f 329, ρ.f 330, ρ.f 333, ρ.f 334, ρ.f 335, ρ.f 336, ρ.f 344] (some D)) 65 P (ρ.f 258) #[.slice none 0 0, .int .i64 0, .int .i64 0, .int .i64 0] w fun e w' => e = .returned (.tuple #[]) ∧ w' = w := by
  have mixed := Ly.mixed
  have t0 := Ly.t0; have a0 := Ly.a0; have z0 := Ly.z0; have v0 := Ly.v0; have t3 := Ly.t3; have a3 := Ly.a3; have z3 := Ly.z3; have v3 := Ly.v3; have t4 := Ly.t4; have a4 := Ly.a4; have z4 := Ly.z4; have v4 := Ly.v4; have t9 := Ly.t9; have a9 := Ly.a9; have z9 := Ly.z9; have v9 := Ly.v9; have t31 := Ly.t31; have a31 := Ly.a31; have z31 := Ly.z31; have v31 := Ly.v31; have t131 := Ly.t131; have a131 := Ly.a131; have z131 := Ly.z131; have v131 := Ly.v131; have t182 := Ly.t182; have a182 := Ly.a182; have z182 := Ly.z182; have v182 := Ly.v182; have t183 := Ly.t183; have a183 := Ly.a183; have z183 := Ly.z183; have v183 := Ly.v183
  have e302 : ∀ args w, (callFunc (ρ.f 302) args).run P w = .ok (.enter (ρ.f 302) args) w := enters_of Ly.f302 (by kernel_rfl) rfl
  gi_enter Ly.f258, Body.n258_ntmps ρ
  gi_wp2
  gi_loopw [1, 2] (fun s1 s2 wr => s1 = .int .i64 0 ∧ s2 = .int .i64 0 ∧ wr = w) (fun _ _ _ => 0)
  case atStart => exact ⟨rfl, rfl, rfl⟩
  case round =>
    obtain ⟨rfl, rfl, rfl⟩ := hrel
    gi_wp2_with (gi_at_fn (ρ.f 302); refine ((ins_nil { Ly with } D _).more (show 2 ≤ 64 by omega)).mono ?_; rintro e w1 ⟨rfl, rfl⟩)
    (try simp only [Exit.inBlock, Exit.then]); refine bodyPost_ret (results_none rfl _ _ _) rfl ?_
    exact ⟨rfl, rfl⟩
theorem sort_nilIn (Ly : Lays.n190 P ρ) (D : Nat) (w : World) :
    CallsIn (Fence.list [ρ.f 190, ρ.f 192, ρ.f 125, ρ.f 258, ρ.f 129, ρ.f 302, ρ.f 303, ρ.f 304, ρ.f 305, ρ.f 306, ρ.f 307, ρ.f 308, ρ.f 309, ρ.f 310, ρ.f 329, ρ.f 330, ρ.f 333, ρ.f 334, ρ.f 335, ρ.f 336, ρ.f 344] (some D)) 66 P (ρ.f 190) #[.slice none 0 0] w fun e w' => e = .returned (.tuple #[]) ∧ w' = w := by
  have mixed := Ly.mixed
  have t0 := Ly.t0; have a0 := Ly.a0; have z0 := Ly.z0; have v0 := Ly.v0; have t3 := Ly.t3; have a3 := Ly.a3; have z3 := Ly.z3; have v3 := Ly.v3; have t9 := Ly.t9; have a9 := Ly.a9; have z9 := Ly.z9; have v9 := Ly.v9; have t31 := Ly.t31; have a31 := Ly.a31; have z31 := Ly.z31; have v31 := Ly.v31; have t46 := Ly.t46; have a46 := Ly.a46; have z46 := Ly.z46; have v46 := Ly.v46
  have e125 : ∀ args w, (callFunc (ρ.f 125) args).run P w = .ok (.enter (ρ.f 125) args) w := enters_of Ly.f125 (by kernel_rfl) rfl
  have e258 : ∀ args w, (callFunc (ρ.f 258) args).run P w = .ok (.enter (ρ.f 258) args) w := enters_of Ly.f258 (by kernel_rfl) rfl
  gi_enter Ly.f190, Body.n190_ntmps ρ
  gi_wp2_with (first
    | (gi_at_fn (ρ.f 125); refine ((Any.lenWalkInSAll { Ly with } D 0 _ (by omega)).more (by decide)).mono ?_; rintro e w' ⟨rfl, rfl⟩)
    | (gi_at_fn (ρ.f 258); refine (pdq_nil { Ly with } D _).mono ?_; rintro e w' ⟨rfl, rfl⟩))
  go_end0
  exact ⟨rfl, rfl⟩
theorem sort_nil (Ly : Lays.n190 P ρ) (w : World) : Calls P (ρ.f 190) #[.slice none 0 0] w fun e w' => e = .returned (.tuple #[]) ∧ w' = w :=
  calls_of_every_depth fun D => sort_nilIn Ly D w
end
section
variable {P : Program} [Glb P] {w w' : World} {n : Nat} {t e : TypeId} {ρ : Shelf.Ren} {f : FuncId}
omit [Glb P] in
theorem strs_seq (he : tk P e = .str) : ∀ {ps : List PV} {xs : List Value} {F : List Nat}, OwSeq (Ow P w n e) 1 ps xs F → ∃ ns : List ByteArray, ps = ns.map strP ∧ xs = ns.map Value.string ∧ F = []
  | [], xs, F, h => ⟨[], rfl, h.1, h.2⟩
  | p :: ps, xs, F, ⟨c, cs', k, F', h1, h2, h3, h4, h5⟩ => by
    obtain ⟨ns, e1, e2, e3⟩ := strs_seq he h5
    cases n with
    | zero => exact h4.elim
    | succ n =>
      unfold Ow at h4
      simp only [he] at h4
      obtain ⟨⟨x, rfl, rfl⟩, rfl⟩ := h4
      exact ⟨x :: ns, by simp [e1], by simp [h1, e2], by simp [h3, e3]⟩
omit [Glb P] in
theorem strs_seq_of (he : tk P e = .str) : ∀ ns : List ByteArray, OwSeq (Ow P w 1 e) 1 (ns.map strP) (ns.map Value.string) []
  | [] => ⟨rfl, rfl⟩
  | x :: ns => ⟨[.string x], ns.map Value.string, [], [], rfl, rfl, rfl, by unfold Ow; simp only [he]; exact ⟨⟨x, rfl, rfl⟩, trivial⟩, strs_seq_of he ns⟩
omit [Glb P] in
/-- A row of strings of one's own, not empty. -/
theorem ow_strs (ht : tk P t = .slice e) (he : tk P e = .str) {p : PV} {v : Value} {F : List Nat} (h : Ow P w n t p [v] F) : ∃ ns : List ByteArray, p = strsP ns ∧ F = v.ownBlock.toList ∧
    ((v = .slice none 0 0 ∧ ns = []) ∨ ∃ g cap cur fz, v = .slice (some ⟨g, 0, none⟩) ns.length cap ∧ F = [g] ∧ FzOk cur.size fz ∧ w.heap[g]? = some (.cells cur e fz) ∧ ns.length ≤ cap ∧ cap ≤ maxLen ∧ cur.size = cap ∧ cur.toList.take ns.length = ns.map Value.string) := by
  cases n with
  | zero => exact h.elim
  | succ n =>
    unfold Ow at h
    simp only [ht] at h
    obtain ⟨v', xs, ps, F', hv, rfl, h1, h2, h3⟩ := h
    simp at hv; subst hv
    have hs : sizeOf P e = 1 := by rw [tk_size (by rw [he]; simp), he]; rfl
    rw [hs] at h1 h3
    obtain ⟨ns, rfl, rfl, rfl⟩ := strs_seq he h3
    refine ⟨ns, rfl, by rw [h2, List.append_nil], ?_⟩
    rcases h1.2 with ⟨rfl, h0⟩ | ⟨g, cap, cur, fz, rfl, h4, h5, h6, h7, h8, h9⟩
    · exact .inl ⟨rfl, List.eq_nil_of_length_eq_zero (by simpa using h0)⟩
    · refine .inr ⟨g, cap, cur, fz, by simp, by rw [h2]; rfl, h4, h5, by simpa using h6, h7, by simpa using h8, by simpa using h9⟩
omit [Glb P] in
theorem ow_strs_of (ht : tk P t = .slice e) (he : tk P e = .str) {g cap : Nat} {cur : Array Value} {fz : Nat × Nat} {ns : List ByteArray} (h4 : FzOk cur.size fz) (h5 : w.heap[g]? = some (.cells cur e fz)) (h6 : ns.length ≤ cap) (h7 : cap ≤ maxLen) (h8 : cur.size = cap) (h9 : cur.toList.take ns.length = ns.map Value.string) :
    Ow P w 2 t (strsP ns) [.slice (some ⟨g, 0, none⟩) ns.length cap] [g] := by
  have hs : sizeOf P e = 1 := by rw [tk_size (by rw [he]; simp), he]; rfl
  unfold Ow
  simp only [ht]
  refine ⟨_, ns.map Value.string, ns.map strP, [], rfl, rfl, ⟨by rw [hs]; simp, .inr ⟨g, cap, cur, fz, by simp, h4, h5, by simpa using h6, h7, by rw [hs, h8]; simp, by rw [hs]; simpa using h9⟩⟩, rfl, ?_⟩
  rw [hs]
  exact strs_seq_of he ns
def encB (s : ByteArray) : List UInt8 := s.data.toList
def decB (l : List UInt8) : ByteArray := ⟨l.toArray⟩
theorem decB_encB (s : ByteArray) : decB (encB s) = s := by simp [decB, encB]
theorem holds_strs {g : Nat} {cur : Array Value} {fz : Nat × Nat} {ns : List ByteArray} (h4 : FzOk cur.size fz) (h5 : w.heap[g]? = some (.cells cur e fz)) (h6 : ns.length ≤ cur.size) (h9 : cur.toList.take ns.length = ns.map Value.string) :
    Sort.Holds encStr w g 0 (ns.map encB).toArray := by
  intro j hj
  have hj' : j < ns.length := by simpa using hj
  have hc : cur[j]? = some (Value.string ns[j]) := by
    have : (cur.toList.take ns.length)[j]? = some (Value.string ns[j]) := by rw [h9]; simp [hj']
    rw [List.getElem?_take, if_pos hj'] at this
    simpa [strsP] using this
  refine ⟨?_, ?_⟩
  · simp only [World.cell?, h5, Nat.zero_add]
    rw [hc]
    simp [hj', encB]
  · simp only [World.frozen?, h5, Nat.zero_add]
    rcases h4 with rfl | h4
    · simp
    · have : ¬ fz.1 ≤ j := by omega
      simp [this]
theorem heap_putRow {enc : List UInt8 → Value} {g : Nat} {cur : Array Value} {fz : Nat × Nat} (d : Array (List UInt8)) (h5 : w.heap[g]? = some (.cells cur e fz)) : (Sort.putRow enc w g 0 d).heap[g]? = some (.cells (Sort.putCells enc 0 d cur) e fz) := by
  simp [Sort.putRow, Sort.mapBlock, Array.getElem?_modify, h5, Sort.onCells]
theorem putCells_take {cur : Array Value} (ns : List ByteArray) (hl : ns.length ≤ cur.size) : (Sort.putCells encStr 0 (ns.map encB).toArray cur).toList.take ns.length = ns.map Value.string := by
  apply List.ext_getElem?
  intro k
  rw [List.getElem?_take]
  by_cases hk : k < ns.length
  · have hk2 : k < cur.size := by omega
    rw [if_pos hk]
    simp [Sort.putCells, Array.getElem?_mapIdx, hk, hk2, encB]
  · rw [if_neg hk, List.getElem?_eq_none (by simp; omega)]
/-! ### slices.Sort, of strings -/
def sortM (l : List ByteArray) : List ByteArray := ((l.map encB).mergeSort fun x y => decide (x ≤ y)).map decB
theorem sortM_len (l : List ByteArray) : (sortM l).length = l.length := by simp [sortM]
theorem sortM_enc (l : List ByteArray) : (sortM l).map encB = (l.map encB).mergeSort fun x y => decide (x ≤ y) := by
  simp [sortM, Function.comp_def, encB, decB]
def sortDen : List PV → Option (List PV)
  | [.list ps] => if ps.length < 4611686018427387904 then some [strsP (sortM (ps.map PV.toStr))] else none
  | _ => none
theorem toStr_strs (ns : List ByteArray) : (ns.map strP).map PV.toStr = ns := by simp [Function.comp_def, PV.toStr]
theorem fnOk_sort (Ly : Lays.n190 P ρ) (hf : ρ.f 190 = f) (hfn : HasFn P f) (ht : tk P t = .slice e) (he : tk P e = .str) : FnOk P f ⟨[(t, .mut)], [], sortDen⟩ := by
  refine ⟨hfn, fun w ok vs ps F L outs hglb ha hnd hok hd => ?_⟩
  match vs, ps, ha with
  | [v], [p], ha =>
    obtain ⟨r, L', rfl, ⟨hb, hrt⟩, rfl, _, ⟨n, how⟩, rfl, rfl⟩ := ha
    obtain ⟨ns, rfl, hF, hcase⟩ := ow_strs ht he how
    have hd' : sortDen [strsP ns] = some outs := hd
    simp only [strsP, sortDen, List.length_map, toStr_strs] at hd'
    split at hd'
    case isFalse => cases hd'
    rename_i hlen
    injection hd' with hd'
    have hd' : [strsP (sortM ns)] = outs := hd'
    subst hd'
    rcases hcase with ⟨hv, rfl⟩ | ⟨g, cap, cur, fz, hv, hFg, h4, h5, h6, h7, h8, h9⟩
    · have hc := sort_nil Ly w
      rw [hf] at hc
      have hvs : ([r.hd] : List Value).toArray = #[.slice none 0 0] := by rw [hv]
      rw [hvs]
      refine Calls.mono hc ?_
      rintro x w' ⟨rfl, rfl⟩
      refine ⟨_, rfl, [], [], [r.ft], rfl, ⟨rfl, rfl⟩, ⟨r.ft, [], rfl, ?_, rfl⟩, ?_, ?_, ?_⟩
      · unfold LentAt1
        rw [hb]
        have e0 : sortM [] = [] := by simp [sortM]
        rw [e0]
        exact ⟨n, hrt ▸ how⟩
      · simpa using hnd
      · intro k hk
        refine .inr ?_
        simpa using hk
      · exact ⟨rfl, rfl, rfl, Nat.le_refl _, fun k hk hn => rfl⟩
    · skip
      have hg : g < w.heap.size := (Array.getElem?_eq_some_iff.1 h5).1
      have hc := Any.slices_Sort_string Ly g 0 cap (ns.map encB) w (holds_strs h4 h5 (by omega) h9) hg (by simpa using hlen)
      rw [hf] at hc
      rw [List.length_map] at hc
      have hvs : ([r.hd] : List Value).toArray = #[.slice (some ⟨g, 0, none⟩) ns.length cap] := by rw [hv]
      rw [hvs]
      refine Calls.mono hc ?_
      rintro x w' ⟨rfl, m, os, rfl⟩
      refine ⟨_, rfl, [], [], [r.ft], rfl, ⟨rfl, rfl⟩, ⟨r.ft, [], rfl, ?_, rfl⟩, ?_, ?_, ?_⟩
      · unfold LentAt1
        rw [hb]
        have hw1 : (Sort.grow (Sort.putRow encStr (Sort.ahead w m) g 0 ((sortM ns).map encB).toArray) os).heap[g]? = some (.cells (Sort.putCells encStr 0 ((sortM ns).map encB).toArray cur) e fz) := by
          have h1 := heap_putRow (enc := encStr) (w := Sort.ahead w m) ((sortM ns).map encB).toArray (show (Sort.ahead w m).heap[g]? = some (.cells cur e fz) from h5)
          have hlt := (Array.getElem?_eq_some_iff.1 h1).1
          simp only [Sort.grow]
          rw [Array.getElem?_append_left hlt]
          exact h1
        rw [sortM_enc] at hw1
        have hlen' : (sortM ns).length = ns.length := sortM_len _
        have hout : (dropRes ([] : List (TypeId × RMode)) [strsP (sortM ns)]).headD default = strsP (sortM ns) := rfl
        have hsz : (Sort.putCells encStr 0 (ns.map encB |>.mergeSort fun x y => decide (x ≤ y)).toArray cur).size = cur.size := by simp [Sort.putCells]
        have htk := putCells_take (cur := cur) (sortM ns) (by rw [hlen']; omega)
        rw [sortM_enc] at htk
        refine ⟨2, ?_⟩
        have := ow_strs_of (P := P) (t := t) (cap := cap) ht he (by rw [hsz]; exact h4) hw1 (by rw [hlen']; exact h6) h7 (by rw [hsz]; exact h8) htk
        rw [hlen', ← hv, ← hFg, hrt.symm] at this
        exact this
      · simpa using hnd
      · intro k hk
        refine .inr ?_
        simpa using hk
      · refine ⟨rfl, rfl, rfl, by simp [Sort.grow, Sort.putRow, Sort.mapBlock, Sort.ahead], fun k hk hn => ?_⟩
        have hkg : k ≠ g := fun h => hn (by simp [hFg, h])
        simp only [Sort.grow]
        rw [Array.getElem?_append_left (by simpa [Sort.putRow, Sort.mapBlock, Sort.ahead] using hk)]
        simp [Sort.putRow, Sort.mapBlock, Sort.ahead, Array.getElem?_modify, Ne.symm hkg]
  | [], _, ha => exact ha.elim
  | _ :: _, [], ha => exact ha.elim
  | [_], _ :: _ :: _, ha => obtain ⟨r, L', h1, h2, h3, h4, h5, h6⟩ := ha; exact h6.elim
  | _ :: _ :: _, [_], ha => obtain ⟨r, L', h1, h2, h3, h4, h5, h6⟩ := ha; exact h6.elim
  | _ :: _ :: _, _ :: _ :: _, ha => obtain ⟨r, L', h1, h2, h3, h4, h5, h6⟩ := ha; exact h6.elim
end
end Go.Proofs.YtoiigoflkhmjnaaGreatDoorAm

namespace Go.Proofs.YtoiigoflkhmjnaaGreatDoorAm
open Go RowKit Go.Shelf Go.Sort Go.Proofs
section
variable {P : Program} [Glb P] {w w' : World} {n : Nat} {t e : TypeId} {ρ : Shelf.Ren} {f : FuncId}
/-! ### slices.Compact, of strings -/
theorem putCells_part {cur : Array Value} (d : List (List UInt8)) (hl : d.length ≤ cur.size) {k : Nat} (hk : k ≤ d.length) : (Sort.putCells encStr 0 d.toArray cur).toList.take k = (d.take k).map encStr := by
  apply List.ext_getElem?
  intro j
  rw [List.getElem?_take, List.getElem?_map, List.getElem?_take]
  by_cases hj : j < k
  · have hk2 : j < cur.size := by omega
    have hk3 : j < d.length := by omega
    rw [if_pos hj, if_pos hj]
    simp [Sort.putCells, Array.getElem?_mapIdx, hk2, hk3]
  · rw [if_neg hj, if_neg hj]; rfl
theorem compact_len (zs : List (List UInt8)) : (Lib.compact zs).length ≤ zs.length := by
  unfold Lib.compact Lib.compactUpTo
  rw [List.length_map]
  refine Nat.le_trans (List.length_filter_le _ _) ?_
  simp
def compactM (l : List ByteArray) : List ByteArray := (Lib.compact (l.map encB)).map decB
theorem compactM_enc (l : List ByteArray) : (compactM l).map Value.string = (Lib.compact (l.map encB)).map encStr := by
  simp [compactM, Function.comp_def, decB]
theorem compactM_len (l : List ByteArray) : (compactM l).length ≤ l.length := by
  unfold compactM
  rw [List.length_map]
  exact Nat.le_trans (compact_len _) (by simp)
def compactDen : List PV → Option (List PV)
  | [.list ps] => if ps.length ≤ 9223372036854775807 then some [strsP (compactM (ps.map PV.toStr))] else none
  | _ => none
theorem fnOk_compact (Ly : Lays.n194 P ρ) (hf : ρ.f 194 = f) (hfn : HasFn P f) (ht : tk P t = .slice e) (he : tk P e = .str) : FnOk P f ⟨[(t, .own)], [(t, .own)], compactDen⟩ := by
  refine ⟨hfn, fun w ok vs ps F L outs hglb ha hnd hok hd => ?_⟩
  have hns : ∀ fs, tk P t ≠ .struct fs := fun fs => by rw [ht]; simp
  match vs, ps, ha with
  | [v], [p], ha =>
    obtain ⟨F1, F2, rfl, ⟨n, cs, how, hval⟩, rfl, rfl⟩ := ha
    have hcs : cs = [v] := by
      cases n with
      | zero => exact how.elim
      | succ n =>
        have h2 := how
        unfold Ow at h2
        simp only [ht] at h2
        obtain ⟨v', _, _, _, rfl, _⟩ := h2
        rw [valOf_one hns] at hval; rw [hval]
    subst hcs
    obtain ⟨ns, rfl, hF, hcase⟩ := ow_strs ht he how
    have hd' : (if ns.length ≤ 9223372036854775807 then some [strsP (compactM ns)] else none) = some outs := by
      have h2 := hd
      simp only [strsP, compactDen, List.length_map] at h2
      rw [toStr_strs] at h2
      exact h2
    split at hd'
    case isFalse => cases hd'
    rename_i hlen
    injection hd' with hd'; subst hd'
    have hvl : ∀ x : Value, x = valOf P t [x] := fun x => (valOf_one hns x).symm
    rcases hcase with ⟨rfl, rfl⟩ | ⟨g, cap, cur, fz, rfl, rfl, h4, h5, h6, h7, h8, h9⟩
    · have hc := Any.slices_Compact_string_empty Ly none 0 w
      rw [hf] at hc
      refine Calls.mono hc ?_
      rintro x w' ⟨rfl, rfl⟩
      refine ⟨_, rfl, [.slice none 0 0], F1, [], rfl, ⟨F1, [], by simp, ⟨n, _, ?_, hvl _⟩, rfl, rfl⟩, rfl, by simpa using hnd, fun k hk => .inr (by simpa using hk), ⟨rfl, rfl, rfl, Nat.le_refl _, fun k _ _ => rfl⟩⟩
      exact how
    · have hc := Any.slices_Compact_string Ly g 0 cap (ns.map encB) w (holds_strs h4 h5 (by omega) h9) (by simpa using hlen) (by simpa using h6)
      rw [hf] at hc
      rw [List.length_map] at hc
      refine Calls.mono hc ?_
      rintro x w' ⟨rfl, m, rfl⟩
      have hcl := compact_len (ns.map encB)
      rw [List.length_map] at hcl
      have hml : (Lib.compact (ns.map encB)).length = (compactM ns).length := by simp [compactM]
      have hdl : (Lib.compact (ns.map encB) ++ List.replicate (ns.length - (Lib.compact (ns.map encB)).length) []).length = ns.length := by simp; omega
      have hsz : (Sort.putCells encStr 0 (Lib.compact (ns.map encB) ++ List.replicate (ns.length - (Lib.compact (ns.map encB)).length) []).toArray cur).size = cur.size := by simp [Sort.putCells]
      have hw1 := heap_putRow (enc := encStr) (w := Sort.ahead w m) (Lib.compact (ns.map encB) ++ List.replicate (ns.length - (Lib.compact (ns.map encB)).length) []).toArray (show (Sort.ahead w m).heap[g]? = some (.cells cur e fz) from h5)
      have htk := putCells_part (cur := cur) (Lib.compact (ns.map encB) ++ List.replicate (ns.length - (Lib.compact (ns.map encB)).length) []) (by rw [hdl]; omega) (k := (Lib.compact (ns.map encB)).length) (by rw [hdl]; omega)
      rw [List.take_left' rfl, ← compactM_enc, hml] at htk
      refine ⟨_, rfl, [.slice (some ⟨g, 0, none⟩) (Lib.compact (ns.map encB)).length cap], [g], [], rfl, ⟨[g], [], by simp, ⟨2, _, ?_, hvl _⟩, rfl, rfl⟩, rfl, by simp, fun k hk => .inr (by simpa using hk), ⟨rfl, rfl, rfl, by simp [Sort.putRow, Sort.mapBlock, Sort.ahead], fun k hk hn => ?_⟩⟩
      · rw [hml]
        rw [hml] at hsz hw1
        exact ow_strs_of (P := P) (t := t) (cap := cap) ht he (by rw [hsz]; exact h4) hw1 (by have := compactM_len ns; omega) h7 (by rw [hsz]; exact h8) htk
      · have hkg : k ≠ g := fun h => hn (by simp [h])
        simp [Sort.putRow, Sort.mapBlock, Sort.ahead, Array.getElem?_modify, Ne.symm hkg]
  | [], _, ha => exact ha.elim
  | _ :: _, [], ha => exact ha.elim
  | [_], _ :: _ :: _, ha => obtain ⟨F1, F2, h1, h2, h3⟩ := ha; exact h3.elim
  | _ :: _ :: _, [_], ha => obtain ⟨F1, F2, h1, h2, h3⟩ := ha; exact h3.elim
  | _ :: _ :: _, _ :: _ :: _, ha => obtain ⟨F1, F2, h1, h2, h3⟩ := ha; exact h3.elim
end
end Go.Proofs.YtoiigoflkhmjnaaGreatDoorAm

namespace Go.Proofs.YtoiigoflkhmjnaaGreatDoorAm
open Go RowKit Go.Shelf Go.Proofs
section
variable {P : Program} [Glb P] {w w' : World} {n : Nat} {t u e : TypeId} {ρ : Shelf.Ren} {f : FuncId} {ok : Nat → Prop}
theorem step_below {Z : Nat → Prop} (h : Below w.heap.size w w') : Step w w' Z := ⟨h.os, h.tape, h.output, h.size, fun k hk _ => h.block k hk⟩
theorem rdV_str (ht : tk P t = .str) (s : ByteArray) : RdV P ok w t (strP s) (.string s) := by
  refine ⟨1, [.string s], ?_, ?_⟩
  · unfold Rd
    simp only [ht]
    exact ⟨s, rfl, rfl⟩
  · exact (valOf_one (fun fs => by rw [ht]; simp) _).symm
theorem rdV_str_inv (ht : tk P t = .str) {p : PV} {v : Value} (h : RdV P ok w t p v) : ∃ s, p = strP s ∧ v = .string s := by
  obtain ⟨n, cs, h1, h2⟩ := h
  cases n with
  | zero => exact h1.elim
  | succ n =>
    unfold Rd at h1
    simp only [ht] at h1
    obtain ⟨s, rfl, rfl⟩ := h1
    exact ⟨s, rfl, by rw [h2, valOf_one (fun fs => by rw [ht]; simp)]⟩
/-! ### strings.ToUpper, of ASCII -/
def asciiB (s : ByteArray) : Bool := s.data.toList.all fun b => decide (b.toNat < 128)
def upperM (s : ByteArray) : ByteArray := ⟨(Lib.toUpperA s.data.toList).toArray⟩
def upperDen : List PV → Option (List PV)
  | [.sc (.string s)] => if asciiB s = true then (if s.size ≤ 140737488355328 then some [strP (upperM s)] else none) else none
  | _ => none
theorem fnOk_upper (L : Lays.n158 P ρ) (X : Builder.Extra P ρ) (hf : ρ.f 158 = f) (hfn : HasFn P f) (ht : tk P t = .str) (hu : tk P u = .str) : FnOk P f ⟨[(t, .ro)], [(u, .val)], upperDen⟩ := by
  refine ⟨hfn, fun w ok vs ps F L' outs hglb ha hnd hok hd => ?_⟩
  match vs, ps, ha with
  | [v], [p], ha =>
    obtain ⟨h1, rfl, rfl⟩ := ha
    obtain ⟨s, rfl, rfl⟩ := rdV_str_inv ht h1
    have hd' : (if asciiB s = true then (if s.size ≤ 140737488355328 then some [strP (upperM s)] else none) else none) = some outs := hd
    split at hd'
    case isFalse => cases hd'
    rename_i hasc
    split at hd'
    case isFalse => cases hd'
    rename_i hs
    injection hd' with hd'; subst hd'
    have hc := Any.strings_ToUpper_ascii L X s w hs (fun j b hj => by
      have := List.all_eq_true.1 hasc b (List.mem_of_getElem? hj)
      simpa using this)
    rw [hf] at hc
    refine Calls.mono hc ?_
    rintro x w' ⟨rfl, hb⟩
    exact ⟨_, rfl, [.string (upperM s)], [], [], rfl, ⟨rdV_str hu (upperM s), rfl, rfl⟩, rfl, by simp, by simp, step_below hb⟩
  | [], _, ha => exact ha.elim
  | _ :: _, [], ha => exact ha.elim
  | [_], _ :: _ :: _, ha => exact ha.2.elim
  | _ :: _ :: _, [_], ha => exact ha.2.elim
  | _ :: _ :: _, _ :: _ :: _, ha => exact ha.2.elim
end
end Go.Proofs.YtoiigoflkhmjnaaGreatDoorAm

/-! Functions of the library from plain values to plain values. -/
namespace Go.Proofs.YtoiigoflkhmjnaaGreatDoorAm
open Go RowKit Go.Shelf Go.Proofs
section
variable {P : Program} [Glb P] {w w' : World} {t u : TypeId} {ρ : Shelf.Ren} {f : FuncId} {ok : Nat → Prop} {p : PV} {v : Value}
def scal (P : Program) (t : TypeId) : Bool := match tk P t with | .int _ | .bool | .str => true | _ => false
def kindB (P : Program) (t : TypeId) (v : Value) : Bool := match tk P t, v with | .int k, .int k' _ => decide (k = k') | .bool, .bool _ => true | .str, .string _ => true | _, _ => false
def kindsB (P : Program) : List TypeId → List Value → Bool
  | [], [] => true
  | t :: ts, v :: vs => kindB P t v && kindsB P ts vs
  | _, _ => false
theorem rdV_scal (h : scal P t = true) (hr : RdV P ok w t p v) : p = .sc v ∧ kindB P t v = true := by
  obtain ⟨n, cs, h1, h2⟩ := hr
  cases n with
  | zero => exact h1.elim
  | succ n =>
    unfold Rd at h1
    unfold scal at h
    unfold kindB
    cases ht : tk P t with
    | int k => simp only [ht] at h1; obtain ⟨x, rfl, rfl⟩ := h1; rw [valOf_one (by rw [ht]; simp)] at h2; subst h2; simp
    | bool => simp only [ht] at h1; obtain ⟨x, rfl, rfl⟩ := h1; rw [valOf_one (by rw [ht]; simp)] at h2; subst h2; simp
    | str => simp only [ht] at h1; obtain ⟨x, rfl, rfl⟩ := h1; rw [valOf_one (by rw [ht]; simp)] at h2; subst h2; simp
    | slice e => rw [ht] at h; cases h
    | struct fs => rw [ht] at h; cases h
    | other => rw [ht] at h; cases h
    | bad => rw [ht] at h; cases h
theorem rdV_of (h : kindB P t v = true) : RdV P ok w t (.sc v) v := by
  unfold kindB at h
  cases ht : tk P t with
  | int k =>
    rw [ht] at h
    cases v <;> simp at h
    subst h
    exact ⟨1, [_], by unfold Rd; simp only [ht]; exact ⟨_, rfl, rfl⟩, (valOf_one (fun fs => by rw [ht]; simp) _).symm⟩
  | bool =>
    rw [ht] at h
    cases v <;> simp at h
    exact ⟨1, [_], by unfold Rd; simp only [ht]; exact ⟨_, rfl, rfl⟩, (valOf_one (fun fs => by rw [ht]; simp) _).symm⟩
  | str =>
    rw [ht] at h
    cases v <;> simp at h
    exact ⟨1, [_], by unfold Rd; simp only [ht]; exact ⟨_, rfl, rfl⟩, (valOf_one (fun fs => by rw [ht]; simp) _).symm⟩
  | slice e => rw [ht] at h; simp at h
  | struct fs => rw [ht] at h; simp at h
  | other => rw [ht] at h; simp at h
  | bad => rw [ht] at h; simp at h
theorem args_scal : ∀ {ts : List TypeId} {vs : List Value} {ps : List PV} {F : List Nat} {L : List Row}, (ts.all (scal P)) = true → ArgsAt P ok w (ts.map fun t => (t, Mode.ro)) vs ps F L → ps = vs.map PV.sc ∧ F = [] ∧ L = [] ∧ kindsB P ts vs = true
  | [], [], [], F, L, _, h => ⟨rfl, h.1, h.2, rfl⟩
  | t :: ts, v :: vs, p :: ps, F, L, hs, h => by
    simp only [List.all_cons, Bool.and_eq_true] at hs
    obtain ⟨h1, h2⟩ := h
    obtain ⟨rfl, h3⟩ := rdV_scal hs.1 h1
    obtain ⟨rfl, h4, h5, h6⟩ := args_scal hs.2 h2
    exact ⟨rfl, h4, h5, by simp [kindsB, h3, h6]⟩
  | [], _ :: _, _, _, _, _, h => h.elim
  | [], [], _ :: _, _, _, _, h => h.elim
  | _ :: _, [], _, _, _, _, h => h.elim
  | _ :: _, _ :: _, [], _, _, _, h => h.elim
theorem res_scal : ∀ {us : List TypeId} {rs : List Value}, kindsB P us rs = true → ResAt P ok w (us.map fun t => (t, RMode.val)) (rs.map PV.sc) rs []
  | [], [], _ => ⟨rfl, rfl⟩
  | t :: ts, v :: vs, h => by
    simp only [kindsB, Bool.and_eq_true] at h
    exact ⟨rdV_of h.1, res_scal h.2⟩
  | [], _ :: _, h => by cases h
  | _ :: _, [], h => by cases h
theorem dropRes_len {α β : Type} : ∀ {l : List β} {m : List α}, l.length = m.length → dropRes l m = []
  | [], [], _ => rfl
  | _ :: l, _ :: m, h => dropRes_len (l := l) (m := m) (by simpa using h)
  | [], _ :: _, h => by simp at h
  | _ :: _, [], h => by simp at h
omit [Glb P] in
theorem kindsB_len : ∀ {us : List TypeId} {rs : List Value}, kindsB P us rs = true → us.length = rs.length
  | [], [], _ => rfl
  | t :: ts, v :: vs, h => by simp only [kindsB, Bool.and_eq_true] at h; simp [kindsB_len h.2]
  | [], _ :: _, h => by cases h
  | _ :: _, [], h => by cases h
/-- A function from plain values to plain values. -/
theorem fnOk_scal {ts us : List TypeId} {den : List PV → Option (List PV)} (hfn : HasFn P f) (hts : ts.all (scal P) = true)
    (h : ∀ (w : World) (ok : Nat → Prop) (vs : List Value) (outs : List PV), Glb.holds (P := P) ok w → kindsB P ts vs = true → den (vs.map PV.sc) = some outs → ∃ rs : List Value, outs = rs.map PV.sc ∧ kindsB P us rs = true ∧ Calls P f vs.toArray w fun e w' => e = .returned (retVal rs) ∧ Step w w' (fun _ => False)) :
    FnOk P f ⟨ts.map fun t => (t, Mode.ro), us.map fun t => (t, RMode.val), den⟩ := by
  refine ⟨hfn, fun w ok vs ps F L outs hglb ha hnd hok hd => ?_⟩
  obtain ⟨rfl, rfl, rfl, hk⟩ := args_scal hts ha
  obtain ⟨rs, rfl, hr, hc⟩ := h w ok vs outs hglb hk hd
  refine hc.mono fun e w' ⟨he, hs⟩ => ?_
  refine ⟨retVal rs, he, rs, [], [], rfl, res_scal hr, ?_, by simp, by simp, ⟨hs.os, hs.tape, hs.output, hs.size, fun k hk hn => hs.block k hk (fun h => h)⟩⟩
  show LentAt P w' [] _ []
  rfl
theorem step_refl {Z : Nat → Prop} : Step w w Z := ⟨rfl, rfl, rfl, Nat.le_refl _, fun _ _ _ => rfl⟩
omit [Glb P] in
theorem kinds2 {a b : TypeId} {vs : List Value} (h : kindsB P [a, b] vs = true) : ∃ x y, vs = [x, y] ∧ kindB P a x = true ∧ kindB P b y = true := by
  match vs, h with
  | [x, y], h => simp [kindsB] at h; exact ⟨x, y, rfl, h.1, h.2⟩
  | [], h => cases h
  | [_], h => simp [kindsB] at h
  | _ :: _ :: _ :: _, h => simp [kindsB] at h
omit [Glb P] in
theorem kinds1 {a : TypeId} {vs : List Value} (h : kindsB P [a] vs = true) : ∃ x, vs = [x] ∧ kindB P a x = true := by
  match vs, h with
  | [x], h => simp [kindsB] at h; exact ⟨x, rfl, h⟩
  | [], h => cases h
  | _ :: _ :: _, h => simp [kindsB] at h
omit [Glb P] in
theorem kind_str (ht : tk P t = .str) (h : kindB P t v = true) : ∃ s, v = .string s := by
  unfold kindB at h; rw [ht] at h
  cases v <;> simp at h
  exact ⟨_, rfl⟩
omit [Glb P] in
theorem scal_str (ht : tk P t = .str) : scal P t = true := by simp [scal, ht]
/-! ### strings.Index, of one byte -/
def indexDen : List PV → Option (List PV)
  | [.sc (.string s), .sc (.string p)] => if p.size = 1 then some [intP (Lib.indexByte s.data.toList (p.get! 0))] else none
  | _ => none
theorem one_bytes (p : ByteArray) (h : p.size = 1) : p = ⟨#[p.get! 0]⟩ := by
  obtain ⟨⟨l⟩⟩ := p
  match l, h with
  | [x], _ => rfl
  | [], h => simp [ByteArray.size] at h
  | _ :: _ :: _, h => simp [ByteArray.size] at h
theorem fnOk_index (L : Lays.n143 P ρ) (hf : ρ.f 143 = f) (hfn : HasFn P f) (ht : tk P t = .str) (hu : tk P u = .int .i64) : FnOk P f ⟨[(t, .ro), (t, .ro)], [(u, .val)], indexDen⟩ := by
  refine fnOk_scal (ts := [t, t]) (us := [u]) hfn (by simp [scal_str ht]) (fun w ok vs outs _ hk hd => ?_)
  obtain ⟨x, y, rfl, hx, hy⟩ := kinds2 hk
  obtain ⟨s, rfl⟩ := kind_str ht hx
  obtain ⟨p, rfl⟩ := kind_str ht hy
  have hd' : (if p.size = 1 then some [intP (Lib.indexByte s.data.toList (p.get! 0))] else none) = some outs := hd
  split at hd'
  case isFalse => cases hd'
  rename_i hp
  injection hd' with hd'; subst hd'
  have hc := Any.strings_Index_one L s (p.get! 0) w
  rw [hf, ← one_bytes p hp] at hc
  exact ⟨[.int .i64 (Lib.indexByte s.data.toList (p.get! 0))], rfl, by simp [kindsB, kindB, hu], hc.mono fun e w' ⟨h1, h2⟩ => ⟨h1, by rw [h2]; exact step_refl⟩⟩
end
end Go.Proofs.YtoiigoflkhmjnaaGreatDoorAm

namespace Go.Proofs.YtoiigoflkhmjnaaGreatDoorAm
open Go RowKit Go.Shelf Go.Proofs
section
variable {P : Program} [Glb P] {w w' : World} {n : Nat} {t u e : TypeId} {ρ : Shelf.Ren} {f : FuncId} {ok : Nat → Prop}
/-! ### strings.ToLower, of ASCII -/
def lowerM (s : ByteArray) : ByteArray := ⟨(Lib.toLowerA s.data.toList).toArray⟩
def lowerDen : List PV → Option (List PV)
  | [.sc (.string s)] => if asciiB s = true then (if s.size ≤ 140737488355328 then some [strP (lowerM s)] else none) else none
  | _ => none
theorem fnOk_lower (L : Lays.n159 P ρ) (X : Builder.Extra P ρ) (hf : ρ.f 159 = f) (hfn : HasFn P f) (ht : tk P t = .str) (hu : tk P u = .str) : FnOk P f ⟨[(t, .ro)], [(u, .val)], lowerDen⟩ := by
  refine ⟨hfn, fun w ok vs ps F L' outs hglb ha hnd hok hd => ?_⟩
  match vs, ps, ha with
  | [v], [p], ha =>
    obtain ⟨h1, rfl, rfl⟩ := ha
    obtain ⟨s, rfl, rfl⟩ := rdV_str_inv ht h1
    have hd' : (if asciiB s = true then (if s.size ≤ 140737488355328 then some [strP (lowerM s)] else none) else none) = some outs := hd
    split at hd'
    case isFalse => cases hd'
    rename_i hasc
    split at hd'
    case isFalse => cases hd'
    rename_i hs
    injection hd' with hd'; subst hd'
    have hc := Any.strings_ToLower_ascii L X s w hs (fun j b hj => by
      have := List.all_eq_true.1 hasc b (List.mem_of_getElem? hj)
      simpa using this)
    rw [hf] at hc
    refine Calls.mono hc ?_
    rintro x w' ⟨rfl, hb⟩
    exact ⟨_, rfl, [.string (lowerM s)], [], [], rfl, ⟨rdV_str hu (lowerM s), rfl, rfl⟩, rfl, by simp, by simp, step_below hb⟩
  | [], _, ha => exact ha.elim
  | _ :: _, [], ha => exact ha.elim
  | [_], _ :: _ :: _, ha => exact ha.2.elim
  | _ :: _ :: _, [_], ha => exact ha.2.elim
  | _ :: _ :: _, _ :: _ :: _, ha => exact ha.2.elim
end
end Go.Proofs.YtoiigoflkhmjnaaGreatDoorAm

