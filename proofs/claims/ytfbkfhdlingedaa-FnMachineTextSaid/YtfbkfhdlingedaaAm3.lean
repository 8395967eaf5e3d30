/- An abstract machine for the loaded code, proved sound, part 3 of 5: no conditions. -/
import Derived.Test.YtfbkfhdlingedaaAm2
import Derived.BigCall
import Derived.Laws.BytesString
import Derived.Lib.ConvBytes
set_option linter.unusedVariables false
set_option linter.unusedSimpArgs false
set_option linter.unusedSectionVars false
/-! Struct literals. -/
namespace Go.Proofs.YtfbkfhdlingedaaAm
open Go RowKit
section
variable {P : Program} {C : Cx} {M : Mm} {x : SV} {v : Value} {o : Oper} {a : Act} {e : Eff} {n : Nat} {t t' u : TypeId} {cs : List Value} {w w' : World} {h' : Nat → Own}
variable [Glb P]
theorem fold_patch {A c B : List Value} {l arr : Array Value} (ha : arr.toList = A ++ c ++ B) (hc : c.length = l.size) :
    (l.zipIdx.foldl (fun cs (x : Value × Nat) => cs.setIfInBounds (A.length + x.2) x.1) arr).toList = A ++ l.toList ++ B := by
  have h := Great.foldl_set A.length l.toList 0 arr
  have hz : l.zipIdx.foldl (fun cs (x : Value × Nat) => cs.setIfInBounds (A.length + x.2) x.1) arr = (l.toList.zipIdx 0).foldl (fun cs (x : Value × Nat) => cs.setIfInBounds (A.length + x.2) x.1) arr := by
    rw [← Array.foldl_toList]; simp
  rw [hz]
  have hsz : arr.size = A.length + l.size + B.length := by rw [← Array.length_toList, ha]; simp; omega
  apply List.ext_getElem?
  intro k
  rw [Array.getElem?_toList, h.2 k]
  have hll : l.toList.length = l.size := by simp
  by_cases h1 : k < A.length
  · rw [if_neg (by omega), ← Array.getElem?_toList, ha, List.append_assoc, List.getElem?_append_left h1, List.append_assoc, List.getElem?_append_left h1]
  · by_cases h2 : k < A.length + l.size
    · rw [if_pos (by omega), List.append_assoc, List.getElem?_append_right (by omega), List.getElem?_append_left (by omega)]
      simp
    · rw [if_neg (by omega), ← Array.getElem?_toList, ha, List.getElem?_append_right (by simp; omega), List.getElem?_append_right (by simp; omega)]
      simp [hc]
theorem fits_pos (h : fits P t x = true) (hs : SVc P M t x cs) : cs.length = sizeOf P t := hs.len
/-- Parts are filled in, one by one. -/
theorem fill_parts {fs : List TypeId} {place : Nat → Option (Nat × Nat)} (hplace : ∀ i f, fs[i]? = some f → place i = some (offOf P fs i, sizeOf P f)) : ∀ {is : List Nat} {xs : List SV} {vs : List Value} {zs : List SV} {arr : Array Value}, Slots P M xs vs → fitsAll P fs is xs = true → SVcL P M fs zs arr.toList →
    ∃ arr', Instr.fill place arr (is.zip vs) = some arr' ∧ SVcL P M fs (setParts zs is xs) arr'.toList
  | [], [], [], zs, arr, _, _, hz => ⟨arr, rfl, hz⟩
  | i :: is, x :: xs, v :: vs, zs, arr, ⟨hs1, hs2⟩, hf, hz => by
    simp only [fitsAll, Bool.and_eq_true, Nat.blt_eq] at hf
    obtain ⟨⟨h1, h2⟩, h3⟩ := hf
    have hfi := getD_some h1
    obtain ⟨y, A, c, B, b1, b2, b3, b4, b5⟩ := hz.get hfi
    have hv := slot_svc hs1 h2
    have hvl : v.cells.size = sizeOf P (fs.getD i 0) := by simpa using hv.len
    have hcl : c.length = v.cells.size := by rw [b4.len, hvl]
    have hasz : arr.size = A.length + c.length + B.length := by rw [← Array.length_toList, b2]; simp; omega
    have hnew : SVcL P M fs (zs.set i x) ((v.cells.zipIdx.foldl (fun cs (x : Value × Nat) => cs.setIfInBounds (A.length + x.2) x.1) arr)).toList := by
      rw [fold_patch b2 hcl]; exact b5 hv
    obtain ⟨arr', e1, e2⟩ := fill_parts hplace hs2 h3 hnew
    refine ⟨arr', ?_, e2⟩
    simp only [List.zip_cons_cons, Instr.fill, hplace i _ hfi]
    rw [← b3, if_neg (by simp only [Bool.or_eq_true, decide_eq_true_eq, not_or, ne_eq, Decidable.not_not]; exact ⟨hvl, by omega⟩)]
    exact e1
  | [], _ :: _, _, _, _, _, hf, _ => by simp [fitsAll] at hf
  | _ :: _, [], _, _, _, _, hf, _ => by simp [fitsAll] at hf
  | [], [], _ :: _, _, _, h, _, _ => h.elim
  | _ :: _, _ :: _, [], _, _, h, _, _ => h.elim
theorem places_some : ∀ {gs : List Field}, (∀ g ∈ gs, (P.info? g.type).isSome = true) → gs.mapM (fun f => (P.info? f.type).map fun i => (f.offset, i.size)) = some (gs.map fun f => (f.offset, sizeOf P f.type))
  | [], _ => rfl
  | g :: gs, h => by
    obtain ⟨i, hi⟩ := Option.isSome_iff_exists.1 (h g (by simp))
    have ih := places_some (gs := gs) (fun x hx => h x (by simp [hx]))
    simp only [List.mapM_cons, hi, ih, Option.map_some, Option.bind_eq_bind, Option.bind_some, Option.pure_def, List.map_cons, sizeOf]
theorem zip_maps {α β γ : Type} (f : α → β) (g : α → γ) : ∀ l : List α, (l.map f).zip (l.map g) = l.map fun x => (f x, g x)
  | [] => rfl
  | a :: r => by simp [zip_maps f g r]
theorem ok_build (hm : At P C M) {ps : Array (Nat × Operand)} (ho : o.op = .build t ps) {xs : List SV} (hy : Slots P M xs (ps.toList.map fun p => a.eval p.2)) (h : eBuild P some t (ps.toList.map (·.1)) xs = some e) : OpOk P C M o a e := by
  unfold eBuild at h
  split at h
  · rename_i fs u zs ht hz
    cases hb : (fitsAll P fs (ps.toList.map (·.1)) xs && fs.all (fun f => (P.info? f).isSome)) <;> simp only [hb, cond_true, cond_false] at h
    · cases h
    · simp only [Bool.and_eq_true] at hb
      injection h with h; subst h
      unfold zeroSV at hz
      split at hz
      · rename_i i hi
        split at hz
        · rename_i z hzz
          cases hc : z.cells.toList.all (·.oneCell') <;> simp only [hc, cond_true, cond_false] at hz
          · cases hz
          · have hzs := zero_one (M := M) hz hc
            generalize hzl : z.cells.toList = zl at hzs
            cases hzs with
            | leaf _ _ _ hl => exact hl.elim
            | agg _ _ fs' _ _ h1 h2 h3 =>
              have : fs' = fs := by rw [ht] at h1; injection h1 with h1; exact h1.symm
              subst this
              have hend : ∀ arr' : Array Value, P.built t (ps.map fun (p : Nat × Operand) => (p.1, a.eval p.2)).toList = some arr' → SVcL P M fs' (setParts zs (ps.toList.map (·.1)) xs) arr'.toList → OpOk P C M o a ⟨toArr P t (.agg t (setParts zs (ps.toList.map (·.1)) xs)), [], [], []⟩ := fun arr' hbuilt e2 => by
                have hrun := run_build (P := P) M.w t (ps.map fun (p : Nat × Operand) => (p.1, a.eval p.2)) arr' hbuilt
                have hsv := toArr_svc hm.mem (SVc.agg t t fs' _ _ ht (alike_refl ht) e2)
                have hval : valOf P t arr'.toList = .agg arr' := by unfold valOf; rw [ht]
                refine opOk_val (v := .agg arr') ?_ (hm.pure (hval ▸ svc_slot hsv))
                simp [execOp, ho, Sem.run_bind, hrun, Result.andThen_ok, Sem.run_pure]
              rcases arr_or ht with hna | ⟨na, el, hao⟩
              rotate_left
              · obtain ⟨q1, q2, q3, _⟩ := tk_arr hao ht
                subst q1
                obtain ⟨ie, hie⟩ : ∃ ie, P.info? el = some ie ∧ ie.size = 1 := by
                  unfold sizeOf at q3
                  cases hi : P.info? el with
                  | none => rw [hi] at q3; simp at q3
                  | some ie => rw [hi] at q3; exact ⟨ie, rfl, q3⟩
                have hplace : ∀ i f, (List.replicate na el)[i]? = some f → (fun i => some (i * 1, 1)) i = some (offOf P (List.replicate na el) i, sizeOf P f) := by
                  intro i f hf
                  rw [List.getElem?_replicate] at hf
                  split at hf
                  · rename_i hin; injection hf with hf; subst hf
                    rw [offOf_arr q3 hin, q3]; simp
                  · cases hf
                obtain ⟨arr', e1, e2⟩ := fill_parts hplace hy hb.1 (hzl ▸ h3)
                rw [zip_maps] at e1
                refine hend arr' ?_ e2
                unfold Program.built
                simp only [hi, arrOf_some hao, hzz, hie.1, hie.2, Array.toList_map]
                exact e1
              obtain ⟨gs, hu, hla, hfs⟩ := tk_struct ht hna
              have hsome : ∀ g ∈ gs.toList, (P.info? g.type).isSome = true := fun g hg => by
                have := List.all_eq_true.1 hb.2 g.type (by rw [hfs]; exact List.mem_map_of_mem hg)
                exact this
              have hpl := places_some hsome
              have hplace : ∀ i f, fs'[i]? = some f → ((gs.toList.map fun f => (f.offset, sizeOf P f.type)).toArray[i]?) = some (offOf P fs' i, sizeOf P f) := by
                intro i f hf
                rw [hfs] at hf
                simp at hf
                obtain ⟨g, q1, q2⟩ := hf
                have hg1 : gs.toList[i]? = some g := by simpa using q1
                have hoff := laid_off hla hg1
                subst q2
                simp [q1, hoff, offOf, hfs]
              obtain ⟨arr', e1, e2⟩ := fill_parts hplace hy hb.1 (hzl ▸ h3)
              rw [zip_maps] at e1
              have hbuilt : P.built t (ps.map fun (p : Nat × Operand) => (p.1, a.eval p.2)).toList = some arr' := by
                unfold Program.built
                simp only [hi, hu, hzz, hpl, Array.toList_map]
                exact e1
              exact hend arr' hbuilt e2
        · cases hz
      · cases hz
  · cases h
/-! ### copy: a text's bytes over the front of a row. -/
theorem ints_seq {w : World} {e : TypeId} {k : IntKind} (he : tk P e = .int k) : ∀ (ps : List PV), (∀ p ∈ ps, ∃ x, p = .sc (.int k x)) → OwSeq (Ow P w 1 e) 1 ps (ps.map PV.toVal) []
  | [], _ => ⟨rfl, rfl⟩
  | p :: ps, h => by
    obtain ⟨x, hx⟩ := h p List.mem_cons_self
    subst hx
    exact ⟨[.int k x], ps.map PV.toVal, [], [], rfl, rfl, rfl, by unfold Ow; simp only [he]; exact ⟨⟨x, rfl, rfl⟩, trivial⟩, ints_seq he ps (fun q hq => h q (List.mem_cons_of_mem _ hq))⟩
theorem seq_ints {w : World} {e : TypeId} {k : IntKind} {n : Nat} (he : tk P e = .int k) : ∀ (ps : List PV) (xs : List Value) (F : List Nat), OwSeq (Ow P w n e) 1 ps xs F → (∀ p ∈ ps, ∃ x, p = .sc (.int k x)) ∧ xs = ps.map PV.toVal ∧ F = []
  | [], xs, F, h => ⟨by simp, h.1, h.2⟩
  | p :: ps, xs, F, ⟨c, cs', f, F', h1, h2, h3, h4, h5⟩ => by
    obtain ⟨i1, i2, i3⟩ := seq_ints he ps cs' F' h5
    cases n with
    | zero => exact h4.elim
    | succ n =>
      unfold Ow at h4
      simp only [he] at h4
      obtain ⟨⟨x, q1, q2⟩, q3⟩ := h4
      subst q1 q2 q3 i2 i3 h1 h3
      refine ⟨fun p hp => ?_, rfl, rfl⟩
      rcases List.mem_cons.1 hp with hp | hp
      · exact ⟨x, hp⟩
      · exact i1 p hp
theorem bytes_vals (s : ByteArray) (n : Nat) : ((s.extract 0 n).data.map fun b => Value.int .u8 b.toNat).toList = ((bytesL s).take n).map PV.toVal := by
  have : (s.extract 0 n).data = s.data.extract 0 n := by simp
  rw [this, Array.toList_map, Array.toList_extract]
  simp [bytesL, List.map_take, List.extract_eq_take_drop]
  rfl
theorem bytesL_int (s : ByteArray) : ∀ p ∈ bytesL s, ∃ x, p = .sc (.int .u8 x) := fun p hp => by
  obtain ⟨b, _, rfl⟩ := List.mem_map.1 hp
  exact ⟨_, rfl⟩
theorem bytesL_len (s : ByteArray) : (bytesL s).length = s.size := by simp [bytesL]
theorem goes_copy (hm : At P C M) {id : Nat} {pv pv' : PV} {F : List Nat} (ho1 : M.oh id = .row u pv) (hs : Step M.w w' (fun k => k ∈ M.G.ft id)) (hF : F.Nodup) (hFs : ∀ k ∈ F, k ∈ M.G.ft id) (how : ∃ n, Ow P w' n u pv' [M.G.hnd id] F) (hflat : flat P 8 (etype P u) = true) (hv : one v = true) :
    Goes P C M ⟨.sc v, [(id, .row u pv')], [id], []⟩ v w' := by
  refine ⟨M.G.upd id F [], trans_upd (l := []) (FR := F) hm (by simp) (by simp) ⟨hs.os, hs.tape, hs.output, hs.size, fun k hk hn => hs.block k hk (fun he => hn (by simpa using he))⟩ hF (fun k hk => .inr (by simpa using hFs k hk)) _ _ (.row u pv' ?_ ?_ (.inr ⟨⟨_, ho1⟩, rfl, .inl hflat⟩)), ?_⟩
  · simp only [newOh_upd, if_true]; rfl
  · simpa [Gh.upd] using how
  · simp only [freshen]; exact slot_sc hv
theorem ok_copy (hm : At P C M) {c : Call} {y z : Operand} (ho : o.op = .call c) (hcal : c.callee = .builtin .copy) (hargs : c.args = #[y, z]) (hat : c.argTypes = #[t, t']) {sy sz : SV} (hy : Slot P M sy (a.eval y)) (hz : Slot P M sz (a.eval z)) (hh : ∀ id ∈ idsOf sy, h' id = M.oh id) (h : eCopy P h' some t t' sy sz = some e) : OpOk P C M o a e := by
  unfold eCopy at h
  split at h
  case h_2 => cases h
  rename_i id str
  split at h
  case h_2 => cases h
  rename_i el u pv hte ht' ho1
  rw [hh id (by simp [idsOf])] at ho1
  split at h
  case h_2 => cases h
  rename_i hel
  cases hal : alike P t u <;> simp only [hal, cond_true, cond_false] at h
  · cases h
  injection h with h; subst h
  obtain ⟨hlf, _⟩ := hy.leaf_inv (by simp) (by simp) (by simp) (by simp) (by simp)
  have hv : a.eval y = M.G.hnd id := by
    rcases hlf.ref_row ho1 with ⟨_, h⟩ | ⟨_, _, _, h, _⟩
    · exact h
    · exact h.elim
  have hz' := hz.sc_inv.1
  have htu := alike_tk hal
  have hse : sizeOf P el = 1 := by rw [tk_size (by rw [hel]; simp), hel]; rfl
  obtain ⟨n, how⟩ := hm.mem.row id u pv ho1
  cases n with
  | zero => exact how.elim
  | succ n =>
  unfold Ow at how
  simp only [← htu, hte] at how
  obtain ⟨v0, xs, ps, F', hvv, rfl, hrow, hF, hseq⟩ := how
  simp at hvv
  rw [hse] at hseq
  obtain ⟨hints, rfl, rfl⟩ := seq_ints hel ps xs F' hseq
  have hpi : ∀ p ∈ (bytesL str).take ps.length ++ ps.drop str.size, ∃ x, p = .sc (.int .u8 x) := fun p hp => by
    rcases List.mem_append.1 hp with hp | hp
    · exact bytesL_int str p (List.mem_of_mem_take hp)
    · exact hints p (List.mem_of_mem_drop hp)
  have hpl : ((bytesL str).take ps.length ++ ps.drop str.size).length = ps.length := by
    simp [bytesL_len]; omega
  have hflat : flat P 8 (etype P u) = true := by
    have : etype P u = el := etype_of (by rw [← htu]; exact hte)
    rw [this]; unfold flat; rw [hel]
  obtain ⟨hu, heo⟩ := tk_slice hte
  obtain ⟨ie, zz, hie, _, _, _, _, hsz⟩ := elemOk_info heo
  have hsz1 : ie.size = 1 := by rw [hsz, hse]
  rcases hrow.2 with ⟨rfl, h0⟩ | ⟨g, cap, cur, fz, hv0, hfz, hg, hn, hmax, hcs, htk⟩
  · have hps : ps = [] := List.eq_nil_of_length_eq_zero h0
    subst hps
    have hrun : (Builtin.copy_ #[t, t'] o.type #[.slice none 0 0, .string str]).run P M.w = .ok (.int .i64 0) M.w := by
      simp [Builtin.copy_, run_underlying hu, Builtin.lenOf, Builtin.firstCells, run_sizeOf' hie, goInt]
    have hgo := goes_copy (w' := M.w) (v := .int .i64 0) (pv' := .list ((bytesL str).take 0 ++ ([] : List PV).drop str.size)) (F := []) hm ho1 ⟨rfl, rfl, rfl, Nat.le_refl _, fun _ _ _ => rfl⟩ (by simp) (by simp) ⟨1, by
      unfold Ow
      simp only [← htu, hte]
      exact ⟨_, [], [], [], by rw [← hvv], by simp, ⟨by simp, .inl ⟨rfl, rfl⟩⟩, rfl, rfl, rfl⟩⟩ hflat rfl
    refine opOk_val (v := .int .i64 0) (w' := M.w) ?_ (by simpa [PV.items] using hgo)
    have hv2 : a.eval y = .slice none 0 0 := by rw [hv, hvv]
    simp [execOp, ho, resolve, hcal, hargs, hat, hv2, hz', invoke, builtin, hrun]
  · have hm0 : min str.size ps.length ≤ cur.size := by rw [hcs, hse]; omega
    have hcl : cur.toList.take (ps.length) = ps.map PV.toVal := by rw [hse, Nat.mul_one] at htk; exact htk
    let vs : List Value := ((bytesL str).take (min str.size ps.length)).map PV.toVal
    have hvl : vs.length = min str.size ps.length := by simp [vs, bytesL_len]
    have hones : ∀ v ∈ vs, one v = true := fun v hv => by
      obtain ⟨p, hp, rfl⟩ := List.mem_map.1 hv
      obtain ⟨x, rfl⟩ := bytesL_int str p (List.mem_of_mem_take hp)
      rfl
    have hst := run_storeCells_fz (P := P) g 0 el vs 0 cur M.w hfz hg (by rw [hvl]; omega) hones
    let cur' : Array Value := (cur.toList.take (0 + 0) ++ vs ++ cur.toList.drop (0 + 0 + vs.length)).toArray
    let w' : World := M.w.setRow g cur'
    have hhd : M.G.hnd id = .slice (some ⟨g, 0, none⟩) ps.length cap := by rw [hvv, hv0]
    have hrun : (Builtin.copy_ #[t, t'] o.type #[.slice (some ⟨g, 0, none⟩) ps.length cap, .string str]).run P M.w = .ok (.int .i64 (min str.size ps.length : Nat)) w' := by
      have hbv := bytes_vals str (min str.size ps.length)
      have hst' : (storeCells ⟨g, 0, none⟩ ((str.extract 0 (min str.size ps.length)).data.map fun b => Value.int .u8 b.toNat).toList).run P M.w = .ok () w' := by
        rw [hbv]; exact hst
      have hmin : Nat.min str.size ps.length = min str.size ps.length := rfl
      simp only [Builtin.copy_, Sem.run_bind, run_underlying hu, Builtin.lenOf, Builtin.firstCells, run_sizeOf' hie, goInt, Sem.run_pure, Result.andThen_ok, List.getElem?_toArray, List.getElem?_cons_zero, List.getElem?_cons_succ, hmin]
      rw [hst']
      rfl
    have hcur' : cur'.toList = vs ++ cur.toList.drop vs.length := by simp [cur']
    have hw'g : w'.heap[g]? = some (.cells cur' el fz) := setRow_heap M.w g cur cur' el fz hg
    have hcz : cur'.size = cur.size := by rw [← Array.length_toList, hcur']; simp; omega
    have hft : M.G.ft id = [g] := by rw [hF, hv0]; rfl
    have hnew : Ow P w' 2 u (.list ((bytesL str).take ps.length ++ ps.drop str.size)) [M.G.hnd id] [g] := by
      unfold Ow
      simp only [← htu, hte]
      refine ⟨.slice (some ⟨g, 0, none⟩) ps.length cap, ((bytesL str).take ps.length ++ ps.drop str.size).map PV.toVal, _, [], by rw [hhd], rfl, ⟨by simp [hse], .inr ⟨g, cap, cur', fz, by rw [hpl], by rw [hcz]; exact hfz, hw'g, by rw [hpl]; exact hn, hmax, by rw [hcz]; exact hcs, ?_⟩⟩, rfl, by rw [hse]; exact ints_seq hel _ hpi⟩
      rw [hpl, hse, Nat.mul_one, hcur', List.take_append, hvl, List.map_append]
      congr 1
      · rw [List.take_of_length_le (by rw [hvl]; omega)]
        simp only [vs]
        rcases Nat.le_total str.size ps.length with hle | hle
        · rw [Nat.min_eq_left hle, List.take_of_length_le (by rw [bytesL_len]; exact Nat.le_refl _), List.take_of_length_le (by rw [bytesL_len]; exact hle)]
        · rw [Nat.min_eq_right hle]
      · rw [List.map_drop, ← hcl]
        rcases Nat.le_total str.size ps.length with hle | hle
        · rw [Nat.min_eq_left hle, List.drop_take]
        · rw [Nat.min_eq_right hle, List.drop_of_length_le (l := List.take ps.length cur.toList) (by simp; omega)]
          simp
    have hgo := goes_copy (w' := w') (v := .int .i64 (min str.size ps.length : Nat)) (F := [g]) hm ho1 ⟨rfl, rfl, rfl, by simp [w', World.setRow], fun k hk hn => setRow_other M.w g k cur' (fun he => hn (by simp [he, hft]))⟩ (by simp) (by simp [hft]) ⟨2, hnew⟩ hflat rfl
    refine opOk_val (v := .int .i64 (min str.size ps.length : Nat)) (w' := w') ?_ hgo
    have hv2 : a.eval y = .slice (some ⟨g, 0, none⟩) ps.length cap := by rw [hv, hhd]
    simp [execOp, ho, resolve, hcal, hargs, hat, hv2, hz', invoke, builtin, hrun]
end
end Go.Proofs.YtfbkfhdlingedaaAm

/-! A step that turns many rows at once. -/
namespace Go.Proofs.YtfbkfhdlingedaaAm
open Go RowKit
section
variable {P : Program} {C : Cx} {M : Mm} {x : SV} {v : Value} {n : Nat} {t t' u : TypeId} {w w' : World} {pv : PV} {cs : List Value} {F : List Nat} {ok ok' : Nat → Prop} {h' : Nat → Own} {stale : List Nat}
variable [Glb P]
/-- What a step lays anew under a number. -/
structure Chg where
  ob : Own
  hd : Value
  ft : List Nat
def lookC (L : List (Nat × Chg)) (i : Nat) : Option Chg := (L.find? fun x => Nat.beq x.1 i).map (·.2)
def Gh.chg (G : Gh) (L : List (Nat × Chg)) : Gh := ⟨fun i => match lookC L i with | some x => x.hd | none => G.hnd i, fun i => match lookC L i with | some x => x.ft | none => G.ft i, G.cv, G.rok⟩
theorem beq_ne {a b : Nat} (h : a ≠ b) : Nat.beq a b = false := by
  cases hb : Nat.beq a b
  · rfl
  · exact absurd (Nat.beq_eq.mp hb) h
theorem ne_beq {a b : Nat} (h : Nat.beq a b = false) : a ≠ b := fun he => by
  subst he; simp at h
theorem chg_some {G : Gh} {L : List (Nat × Chg)} {i : Nat} {c : Chg} (h : lookC L i = some c) : (G.chg L).hnd i = c.hd ∧ (G.chg L).ft i = c.ft := by
  unfold Gh.chg; dsimp only; rw [h]; exact ⟨rfl, rfl⟩
theorem chg_none {G : Gh} {L : List (Nat × Chg)} {i : Nat} (h : lookC L i = none) : (G.chg L).hnd i = G.hnd i ∧ (G.chg L).ft i = G.ft i := by
  unfold Gh.chg; dsimp only; rw [h]; exact ⟨rfl, rfl⟩
theorem lookC_mem {L : List (Nat × Chg)} {i : Nat} {c : Chg} (h : lookC L i = some c) : (i, c) ∈ L := by
  unfold lookC at h
  cases hf : L.find? fun x => Nat.beq x.1 i with
  | none => rw [hf] at h; cases h
  | some y =>
    rw [hf] at h; injection h with h; subst h
    have h1 := List.find?_some hf
    simp at h1
    subst h1
    exact List.mem_of_find?_eq_some hf
theorem lookC_of : ∀ {L : List (Nat × Chg)} {i : Nat} {c : Chg}, (L.map (·.1)).Nodup → (i, c) ∈ L → lookC L i = some c
  | [], _, _, _, h => by cases h
  | y :: L, i, c, hn, h => by
    simp only [List.map_cons, List.nodup_cons] at hn
    unfold lookC
    rcases List.mem_cons.1 h with h | h
    · subst h; simp
    · have hne : y.1 ≠ i := fun he => hn.1 (he ▸ List.mem_map.2 ⟨_, h, rfl⟩)
      rw [List.find?_cons, beq_ne hne]
      exact lookC_of hn.2 h
theorem fold_chg : ∀ (L : List (Nat × Chg)) (oh : Nat → Own) (i : Nat), (L.map (·.1)).Nodup → (L.map fun x => (x.1, x.2.ob)).foldl (fun h x => upd h x.1 x.2) oh i = match lookC L i with | some x => x.ob | none => oh i
  | [], oh, i, _ => rfl
  | y :: L, oh, i, hn => by
    simp only [List.map_cons, List.nodup_cons] at hn
    rw [List.map_cons, List.foldl_cons, fold_chg L _ i hn.2]
    cases hb : Nat.beq y.1 i
    · have h1 : lookC (y :: L) i = lookC L i := by unfold lookC; rw [List.find?_cons, hb]
      have h2 : Nat.beq i y.1 = false := by
        exact beq_ne (Ne.symm (ne_beq hb))
      rw [h1]
      cases lookC L i with
      | none => simp [upd, h2]
      | some c => rfl
    · have hyi : y.1 = i := by simpa using hb
      have h1 : lookC (y :: L) i = some y.2 := by unfold lookC; rw [List.find?_cons, hb]; rfl
      have h2 : lookC L i = none := by
        cases hl : lookC L i with
        | none => rfl
        | some c => exact absurd (List.mem_map.2 ⟨_, lookC_mem hl, rfl⟩) (hyi ▸ hn.1)
      rw [h1, h2]; simp [upd, hyi]
theorem disj_of_nodup : ∀ {L : List (Nat × Chg)}, (L.flatMap (·.2.ft)).Nodup → ∀ x ∈ L, ∀ y ∈ L, x.1 ≠ y.1 → ∀ k ∈ x.2.ft, k ∉ y.2.ft
  | [], _, x, hx, _, _, _, _, _ => by cases hx
  | z :: L, hn, x, hx, y, hy, hxy, k, hk => by
    rw [List.flatMap_cons, List.nodup_append] at hn
    obtain ⟨h1, h2, h3⟩ := hn
    rcases List.mem_cons.1 hx with hx | hx <;> rcases List.mem_cons.1 hy with hy | hy
    · exact absurd (by rw [hx, hy]) hxy
    · rw [hx] at hk; intro hk'; exact h3 k hk k (List.mem_flatMap.2 ⟨y, hy, hk'⟩) rfl
    · rw [hy]; intro hk'; exact h3 k hk' k (List.mem_flatMap.2 ⟨x, hx, hk⟩) rfl
    · exact disj_of_nodup h2 x hx y hy hxy k hk
theorem nodup_of_flat : ∀ {L : List (Nat × Chg)}, (L.flatMap (·.2.ft)).Nodup → ∀ x ∈ L, x.2.ft.Nodup
  | [], _, x, hx => by cases hx
  | z :: L, hn, x, hx => by
    rw [List.flatMap_cons, List.nodup_append] at hn
    rcases List.mem_cons.1 hx with hx | hx
    · subst hx; exact hn.1
    · exact nodup_of_flat hn.2.1 x hx
def ChgOk (P : Program) (M : Mm) (w' : World) (stale : List Nat) (id : Nat) (x : Chg) : Prop :=
  (x.ob = .dead ∧ x.ft = [] ∧ M.oh id ≠ .free) ∨ (∃ t sv g cs, x.ob = .box t sv ∧ freshen stale sv = sv ∧ x.hd = .pointer (some ⟨g, 0, none⟩) ∧ x.ft = [g] ∧ w'.heap[g]? = some (.cells cs t (0, 0)) ∧ SVc P M t sv cs.toList ∧ (M.oh id = .free ∨ (∃ sv0, M.oh id = .box t sv0) ∧ x.hd = M.G.hnd id)) ∨ (∃ t pv, x.ob = .row t pv ∧ (∃ n, Ow P w' n t pv [x.hd] x.ft) ∧ (M.oh id = .free ∨ (∃ pv0, M.oh id = .row t pv0) ∧ x.hd = M.G.hnd id ∧ (flat P 8 (etype P t) = true ∨ memB stale id = true)))
theorem ChgOk.keeps {id : Nat} {x : Chg} (h : ChgOk P M w' stale id x) : freshenOwn stale x.ob = x.ob := by
  rcases h with ⟨h, _⟩ | ⟨t, sv, g, cs, h, hf, _⟩ | ⟨t, pv, h, _⟩ <;> rw [h]
  · rfl
  · simp only [freshenOwn, hf]
  · rfl
theorem newOh_chg {L : List (Nat × Chg)} (hk : (L.map (·.1)).Nodup) (hok : ∀ x ∈ L, ChgOk P M w' stale x.1 x.2) (val : SV) (wi : List Nat) (id : Nat) :
    newOh M.oh ⟨val, L.map (fun x => (x.1, x.2.ob)), wi, stale⟩ id = match lookC L id with | some x => x.ob | none => freshenOwn stale (M.oh id) := by
  unfold newOh
  rw [fold_chg L _ id hk]
  cases hl : lookC L id with
  | none => rfl
  | some c => exact (hok _ (lookC_mem hl)).keeps
/-- An inner row taken out, or put back. -/
def ChgOk2 (P : Program) (M : Mm) (w' : World) (stale : List Nat) (id : Nat) (x : Chg) : Prop := ChgOk P M w' stale id x ∨ (∃ t pv p, x.ob = .hole t pv p ∧ HoleAt P w' t pv p x.hd x.ft ∧ (∃ pv0, M.oh id = .row t pv0) ∧ x.hd = M.G.hnd id) ∨ (∃ t pv, x.ob = .row t pv ∧ (∃ n, Ow P w' n t pv [x.hd] x.ft) ∧ (∃ pv0 q, M.oh id = .hole t pv0 q) ∧ x.hd = M.G.hnd id ∧ memB stale id = true) ∨ (∃ t ps, x.ob = .shl t ps ∧ ShlAt P (fun k => k < M.w.heap.size ∧ M.ok k) w' t ps x.hd x.ft ∧ M.oh id = .free)
theorem ChgOk2.keeps {id : Nat} {x : Chg} (h : ChgOk2 P M w' stale id x) : freshenOwn stale x.ob = x.ob := by
  rcases h with h | ⟨t, pv, p, h, _⟩ | ⟨t, pv, h, _⟩ | ⟨t, ps, h, _⟩
  · exact h.keeps
  · rw [h]; rfl
  · rw [h]; rfl
  · rw [h]; rfl
theorem newOh_chg2 {L : List (Nat × Chg)} (hk : (L.map (·.1)).Nodup) (hok : ∀ x ∈ L, ChgOk2 P M w' stale x.1 x.2) (val : SV) (wi : List Nat) (id : Nat) :
    newOh M.oh ⟨val, L.map (fun x => (x.1, x.2.ob)), wi, stale⟩ id = match lookC L id with | some x => x.ob | none => freshenOwn stale (M.oh id) := by
  unfold newOh
  rw [fold_chg L _ id hk]
  cases hl : lookC L id with
  | none => rfl
  | some c => exact (hok _ (lookC_mem hl)).keeps
theorem trans_chg2 (hm : At P C M) {L : List (Nat × Chg)} (hk : (L.map (·.1)).Nodup) (hok : ∀ x ∈ L, ChgOk2 P M w' stale x.1 x.2) (hs : Step M.w w' (fun k => ∃ x ∈ L, k ∈ M.G.ft x.1))
    (hnd : (L.flatMap (·.2.ft)).Nodup) (hF : ∀ k ∈ L.flatMap (·.2.ft), M.w.heap.size ≤ k ∨ ∃ x ∈ L, k ∈ M.G.ft x.1) (val : SV) (wi : List Nat) :
    Trans P C M ⟨w', newOh M.oh ⟨val, L.map (fun x => (x.1, x.2.ob)), wi, stale⟩, M.G.chg L⟩ stale := by
  have hnew := newOh_chg2 hk hok val wi
  have hout : ∀ id, lookC L id = none → ∀ k ∈ M.G.ft id, ¬ ∃ x ∈ L, k ∈ M.G.ft x.1 := fun id hid k hk1 ⟨x, hx, hk2⟩ => by
    by_cases he : id = x.1
    · have h2 : (x.1, x.2) ∈ L := hx
      have := lookC_of hk h2
      rw [he, this] at hid; cases hid
    · exact hm.mem.dj id x.1 he k hk1 hk2
  have hFout : ∀ id c, lookC L id = some c → ∀ k ∈ c.ft, M.w.heap.size ≤ k ∨ ∃ x ∈ L, k ∈ M.G.ft x.1 := fun id c h k hk1 => hF k (List.mem_flatMap.2 ⟨_, lookC_mem h, hk1⟩)
  have hokk : ∀ k, k < M.w.heap.size → M.ok k → (⟨w', newOh M.oh ⟨val, L.map (fun x => (x.1, x.2.ob)), wi, stale⟩, M.G.chg L⟩ : Mm).ok k := fun k hk1 hok1 => by
    have hnl : ¬ ∃ x ∈ L, k ∈ M.G.ft x.1 := fun ⟨x, _, hx⟩ => hok1.2 x.1 hx
    refine ⟨hok1.1, fun id hk2 => ?_⟩
    simp only [Gh.chg] at hk2
    cases hl : lookC L id with
    | none => rw [hl] at hk2; exact hok1.2 id hk2
    | some c =>
      rw [hl] at hk2
      rcases hFout id c hl k hk2 with h | h
      · omega
      · exact hnl h
  refine ⟨⟨hs.os.trans hm.mem.kept.os, hs.tape.trans hm.mem.kept.tape, hs.output.trans hm.mem.kept.output, Nat.le_trans hm.mem.kept.size hs.size, fun k hk1 hn => ?_⟩, hs.size, fun id => ?_, fun id => ?_, fun i j hij k hk1 => ?_, fun id k hk1 => ?_, hm.pins, fun k hk1 hok1 => ?_, ⟨rfl, rfl⟩⟩
  · refine (hs.block k (Nat.lt_of_lt_of_le hk1 hm.mem.kept.size) (fun ⟨x, _, hx⟩ => ?_)).trans (hm.mem.kept.block k hk1 hn)
    exact hn (hm.mem.own x.1 k hx)
  · cases hl : lookC L id with
    | none =>
      refine .same ?_ ?_ ?_ (fun k hk1 => ?_)
      · simp only [hnew, hl]
      · exact (chg_none hl).1
      · exact (chg_none hl).2
      · exact hs.block k (hm.mem.lt hk1) (hout id hl k hk1)
    | some c =>
      have hoh : newOh M.oh ⟨val, L.map (fun x => (x.1, x.2.ob)), wi, stale⟩ id = c.ob := by rw [hnew, hl]
      rcases hok _ (lookC_mem hl) with (⟨h1, h2, h3⟩ | ⟨t, sv, g, cs, h1, hf, h2, h3, h4, h5, h6⟩ | ⟨t, pv, h1, h2, h3⟩) | ⟨t, pv, p, h1, h2, h3, h4⟩ | ⟨t, pv, h1, h2, h3, h4, h5⟩ | ⟨t, ps, h1, h2, h3⟩
      · exact .dead (hoh.trans h1) ((chg_some hl).2.trans h2) h3
      · have hc := chg_some (G := M.G) hl
        refine .box t sv g cs (by rw [hf]; exact hoh.trans h1) (hc.1.trans h2) (hc.2.trans h3) h4 h5 ?_
        show M.oh id = .free ∨ (∃ sv0, M.oh id = .box t sv0) ∧ (M.G.chg L).hnd id = M.G.hnd id
        rw [hc.1]; exact h6
      · have hc := chg_some (G := M.G) hl
        refine .row t pv (hoh.trans h1) ?_ ?_
        · show ∃ n, Ow P w' n t pv [(M.G.chg L).hnd id] ((M.G.chg L).ft id)
          rw [hc.1, hc.2]; exact h2
        · show M.oh id = .free ∨ (∃ pv0, M.oh id = .row t pv0) ∧ (M.G.chg L).hnd id = M.G.hnd id ∧ _
          rw [hc.1]; exact h3
      · have hc := chg_some (G := M.G) hl
        refine .hole t pv p (hoh.trans h1) ?_ h3 ?_
        · show HoleAt P w' t pv p ((M.G.chg L).hnd id) ((M.G.chg L).ft id)
          rw [hc.1, hc.2]; exact h2
        · show (M.G.chg L).hnd id = M.G.hnd id
          rw [hc.1]; exact h4
      · have hc := chg_some (G := M.G) hl
        refine .fill t pv (hoh.trans h1) ?_ h3 ?_ h5
        · show ∃ n, Ow P w' n t pv [(M.G.chg L).hnd id] ((M.G.chg L).ft id)
          rw [hc.1, hc.2]; exact h2
        · show (M.G.chg L).hnd id = M.G.hnd id
          rw [hc.1]; exact h4
      · have hc := chg_some (G := M.G) hl
        refine .shl t ps (hoh.trans h1) ?_ h3
        show ShlAt P (⟨w', newOh M.oh ⟨val, L.map (fun x => (x.1, x.2.ob)), wi, stale⟩, M.G.chg L⟩ : Mm).ok w' t ps ((M.G.chg L).hnd id) ((M.G.chg L).ft id)
        rw [hc.1, hc.2]
        exact h2.step (fun _ _ => rfl) (fun k _ hk => ⟨hokk k hk.1 hk.2, rfl⟩)
  · simp only [Gh.chg]
    cases hl : lookC L id with
    | none => exact hm.mem.nd id
    | some c => exact nodup_of_flat hnd _ (lookC_mem hl)
  · simp only [Gh.chg] at hk1 ⊢
    cases hi : lookC L i with
    | none =>
      rw [hi] at hk1
      cases hj : lookC L j with
      | none => exact hm.mem.dj i j hij k hk1
      | some c =>
        intro hk2
        rcases hFout j c hj k hk2 with h | h
        · have h9 : k < M.w.heap.size := hm.mem.lt hk1
          omega
        · exact hout i hi k hk1 h
    | some c =>
      rw [hi] at hk1
      cases hj : lookC L j with
      | none =>
        intro hk2
        rcases hFout i c hi k hk1 with h | h
        · have h9 : k < M.w.heap.size := hm.mem.lt hk2
          omega
        · exact hout j hj k hk2 h
      | some d => exact disj_of_nodup hnd _ (lookC_mem hi) _ (lookC_mem hj) hij k hk1
  · simp only [Gh.chg] at hk1
    cases hl : lookC L id with
    | none => rw [hl] at hk1; exact hm.mem.own id k hk1
    | some c =>
      rw [hl] at hk1
      rcases hFout id c hl k hk1 with h | ⟨x, hx, h⟩
      · exact hm.mem.new k (Nat.le_trans hm.mem.kept.size h)
      · exact hm.mem.own x.1 k h
  · have hnl : ¬ ∃ x ∈ L, k ∈ M.G.ft x.1 := fun ⟨x, _, hx⟩ => hok1.2 x.1 hx
    refine ⟨⟨hok1.1, fun id hk2 => ?_⟩, hs.block k hk1 hnl⟩
    simp only [Gh.chg] at hk2
    cases hl : lookC L id with
    | none => rw [hl] at hk2; exact hok1.2 id hk2
    | some c =>
      rw [hl] at hk2
      rcases hFout id c hl k hk2 with h | h
      · omega
      · exact hnl h
theorem trans_chg (hm : At P C M) {L : List (Nat × Chg)} (hk : (L.map (·.1)).Nodup) (hok : ∀ x ∈ L, ChgOk P M w' stale x.1 x.2) (hs : Step M.w w' (fun k => ∃ x ∈ L, k ∈ M.G.ft x.1))
    (hnd : (L.flatMap (·.2.ft)).Nodup) (hF : ∀ k ∈ L.flatMap (·.2.ft), M.w.heap.size ≤ k ∨ ∃ x ∈ L, k ∈ M.G.ft x.1) (val : SV) (wi : List Nat) :
    Trans P C M ⟨w', newOh M.oh ⟨val, L.map (fun x => (x.1, x.2.ob)), wi, stale⟩, M.G.chg L⟩ stale := trans_chg2 hm hk (fun x hx => .inl (hok x hx)) hs hnd hF val wi
theorem plcH_det {w1 w2 : World} {u t1 t2 : TypeId} {v : Value} {j i : Nat} {a1 a2 : Addr} (h1 : PlcH P w1 u v [.idx j, .fld i] t1 a1) (h2 : PlcH P w2 u v [.idx j, .fld i] t2 a2) : a1 = a2 ∧ t1 = t2 := by
  obtain ⟨e, A, len, cap, b1, b2, b3, fs, f, b4, b5, b6, b7⟩ := h1
  obtain ⟨e', A', len', cap', c1, c2, c3, fs', f', c4, c5, c6, c7⟩ := h2
  rw [b1] at c1; injection c1 with c1; subst c1
  rw [b2] at c2; injection c2 with d1 d2 d3; injection d1 with d1; subst d1
  rw [b4] at c4; injection c4 with c4; subst c4
  rw [b5] at c5; injection c5 with c5; subst c5
  exact ⟨b7.trans c7.symm, b6.trans c6.symm⟩
/-- An inner row of a struct in a row: it lies by itself, and what it leaves behind takes another one. -/
theorem hole_of {u el : TypeId} {j i : Nat} {t' : TypeId} {a : Addr} (h : Ow P w n u pv [v] F) (hnd : F.Nodup) (hp : PlcH P w u v [.idx j, .fld i] t' a) (he : tk P t' = .slice el) :
    ∃ m x Fi Fo, Ow P w m t' (pv.at [.idx j, .fld i]) [x] Fi ∧ w.cell? a = some x ∧ F.Perm (Fo ++ Fi) ∧ HoleAt P w u pv [.idx j, .fld i] v Fo := by
  have hin := PlcH.inRow h hp
  have hp0 := hp
  have hlt := h.lt
  obtain ⟨e, A, len, cap, h1, h2, h3, fs, f, h4, h5, rfl, h6⟩ := hp
  cases n with
  | zero => exact h.elim
  | succ n =>
  unfold Ow at h
  simp only [h1] at h
  obtain ⟨v0, xs, ps, F', hv0, rfl, h7, rfl, h9⟩ := h
  simp at hv0; subst hv0
  have hj : j < ps.length := by
    obtain ⟨A', cap', hv', _⟩ := ownsRow_slice h7
    rw [h2] at hv'; injection hv' with _ e2 _; omega
  obtain ⟨hlen, hcap, g, hA, hb, hcell⟩ := ownsRow_cell h7 h2 (by omega)
  injection hA with hA; subst hA
  obtain ⟨q, hq⟩ : ∃ q, ps[j]? = some q := ⟨ps[j], by simp [hj]⟩
  obtain ⟨A1, c, B1, F1, F2, F3, a2, a3, a4, a5, a6, a7⟩ := h9.get hq
  cases n with
  | zero => exact a6.elim
  | succ n =>
  have a6' := a6
  unfold Ow at a6'
  simp only [h4] at a6'
  obtain ⟨qs, rfl, a8⟩ := a6'
  obtain ⟨p0, A2, c2, B2, G1, G2, G3, b1, b2, b3, b4, b5, b6, b7⟩ := a8.get (P := P) (fun t p c f hp => hp.len) h5
  have hsz1 : sizeOf P t' = 1 := by
    rw [tk_size (by rw [he]; simp), he]; rfl
  obtain ⟨x, rfl⟩ : ∃ x, c2 = [x] := by
    rw [hsz1] at b4
    exact List.length_eq_one_iff.1 b4
  have hat : (PV.list ps).at [.idx j, .fld i] = p0 := by
    simp [PV.at, PV.elem, PV.items, PV.fld, PV.parts, List.getD_eq_getElem?_getD, hq, b1]
  have ha : a = ⟨g, j * sizeOf P e + offOf P fs i, none⟩ := by
    rw [h6, add_none, add_none, Nat.zero_add]
  subst ha
  have hl0 : Loc w (⟨g, 0, none⟩ : Addr) (A1 ++ c ++ B1) := fun q u hq => hcell q u (a2 ▸ hq)
  have hl1 := a3 ▸ hl0.app
  rw [b2] at hl1
  have hl2 := b3 ▸ hl1.app
  have hx := hl2 0 x rfl
  rw [add_zero, add_none, add_none, Nat.zero_add] at hx
  have hg : v.ownBlock.toList = [g] := by rw [hb]; rfl
  rw [hg] at hnd hlt ⊢
  refine ⟨n, x, G2, [g] ++ (F1 ++ (G1 ++ G3) ++ F3), by rw [hat]; exact b6, hx, ?_, t', g, _, hp0, rfl, by simp, hsz1, ⟨el, he⟩, ?_, ?_, ⟨_, cap, ps, rfl, by rw [h2, hlen], by simp⟩, ?_⟩
  · rw [a5, b5, List.perm_iff_count]
    intro y
    simp only [List.count_append]
    omega
  · obtain ⟨g', k', cur, el', fz, e1, e2, e3, e4⟩ := hin
    injection e1 with e1 e1' _; subst e1 e1'
    rw [hsz1] at e4
    exact ⟨cur, el', fz, e2, e3, e4⟩
  · intro y hy
    refine hlt y ?_
    rw [a5, b5]
    simp at hy ⊢
    rcases hy with h | h | h | h | h <;> simp [h]
  · intro w' v' x' G n' hy hpat ho
    have hgF : g ∉ F' := fun hk => (List.nodup_cons.1 hnd).1 hk
    have hgo : ∀ y, y ∈ F' → (y ∈ F1 ∨ y ∈ G1 ∨ y ∈ G3 ∨ y ∈ F3) → w'.heap[y]? = w.heap[y]? := fun y hyF hyc => hy y (by
      simp
      rcases hyc with h | h | h | h <;> simp [h]) (fun he => hgF (he ▸ hyF))
    have hF1 : ∀ y, y ∈ F1 ++ F3 → w'.heap[y]? = w.heap[y]? := fun y hy1 => hgo y (by
      rw [a5]; simp at hy1 ⊢
      rcases hy1 with h | h <;> simp [h]) (by
      simp at hy1
      rcases hy1 with h | h <;> simp [h])
    have hG1 : ∀ y, y ∈ G1 ++ G3 → w'.heap[y]? = w.heap[y]? := fun y hy1 => hgo y (by
      rw [a5, b5]; simp at hy1 ⊢
      rcases hy1 with h | h <;> simp [h]) (by
      simp at hy1
      rcases hy1 with h | h <;> simp [h])
    have hfl := b7 (R' := Ow P w' (max n n')) (p' := v') (c' := [x']) (F2' := G) (fun t p c k hk hp => (hp.frame (fun y hy => hG1 y (hk y hy))).le (Nat.le_max_left _ _)) (ho.le (Nat.le_max_right _ _))
    have helem : Ow P w' (max n n' + 1) e (.agg (qs.set i v')) (A2 ++ [x'] ++ B2) (G1 ++ G ++ G3) := by
      unfold Ow
      simp only [h4]
      exact ⟨_, rfl, hfl⟩
    have hcl : (A2 ++ [x'] ++ B2).length = sizeOf P e := by
      rw [← a4, b2]; simp
    have hseq := a7 (R' := Ow P w' (max n n' + 1) e) (p' := .agg (qs.set i v')) (c' := A2 ++ [x'] ++ B2) (F2' := G1 ++ G ++ G3) hcl (fun p c k hk hp => (hp.frame (fun y hy => hF1 y (hk y hy))).le (Nat.succ_le_succ (Nat.le_max_left _ _))) helem
    refine ⟨max n n' + 1 + 1, [g] ++ (F1 ++ (G1 ++ G ++ G3) ++ F3), ?_, ?_⟩
    · have hset : (PV.list ps).setAt [.idx j, .fld i] v' = .list (ps.set j (.agg (qs.set i v'))) := by
        simp [PV.setAt, PV.elem, PV.items, PV.parts, PV.fld, List.getD_eq_getElem?_getD, hq]
      rw [hset]
      unfold Ow
      simp only [h1]
      refine ⟨v, A1 ++ (A2 ++ [x'] ++ B2) ++ B1, _, _, rfl, rfl, ⟨?_, ?_⟩, by rw [hg], hseq⟩
      · have := h7.1
        rw [a2, b2] at this
        simp only [List.length_append, List.length_set, List.length_singleton] at this ⊢
        exact this
      · rcases h7.2 with ⟨hv, h0⟩ | ⟨g', cap', cur, fz, hv, hfz, hh, hc1, hc2, hc3, hc4⟩
        · omega
        · right
          have hgg : g' = g := by
            rw [hv] at hb; simp [Value.ownBlock] at hb; exact hb
          subst hgg
          obtain ⟨cur', d1, d2⟩ := hpat cur _ fz hh
          have hcs : cur'.size = cur.size := by
            have := congrArg List.length d2
            have h9 : A1.length + A2.length + 1 ≤ ps.length * sizeOf P e := by
              have := h7.1
              rw [a2, b2] at this
              simp only [List.length_append, List.length_singleton] at this
              omega
            have h10 : ps.length * sizeOf P e ≤ cap' * sizeOf P e := Nat.mul_le_mul_right _ hc1
            rw [patch_len (by simp only [List.length_singleton, Array.length_toList]; rw [hc3, ← a3, ← b3]; omega)] at this
            simpa using this
          refine ⟨g', cap', cur', fz, by rw [List.length_set]; exact hv, by rw [hcs]; exact hfz, d1, by rw [List.length_set]; exact hc1, hc2, by rw [hcs]; exact hc3, ?_⟩
          rw [List.length_set, d2]
          have h9 : A1.length + A2.length + 1 ≤ ps.length * sizeOf P e := by
            have := h7.1
            rw [a2, b2] at this
            simp only [List.length_append, List.length_singleton] at this
            omega
          have h10 : ps.length * sizeOf P e ≤ cap' * sizeOf P e := Nat.mul_le_mul_right _ hc1
          rw [patch_take (by simp only [List.length_singleton]; rw [← a3, ← b3]; exact h9) (Nat.le_trans h10 (Nat.le_of_eq ((Array.length_toList (xs := cur)).trans hc3).symm)), hc4, a2, b2]
          have e1 : A1 ++ (A2 ++ [x] ++ B2) ++ B1 = (A1 ++ A2) ++ [x] ++ (B2 ++ B1) := by simp
          have e2 : A1 ++ (A2 ++ [x'] ++ B2) ++ B1 = (A1 ++ A2) ++ [x'] ++ (B2 ++ B1) := by simp
          rw [e1, e2]
          have := patch_mid (A := A1 ++ A2) (c := [x]) (B := B2 ++ B1) (d := [x']) (o := 0) (by simp)
          rw [Nat.add_zero, List.length_append, a3, b3] at this
          rw [this]
          simp [patch]
    · rw [List.perm_iff_count]
      intro y
      simp only [List.count_append]
      omega
/-- What an append makes of a row that lies by itself. -/
theorem append_core {el ty : TypeId} (ht : tk P t = .slice el) {vx vy : Value} {ps qs : List PV} {Fi : List Nat} (hx : ∃ n, Ow P M.w n t (.list ps) [vx] Fi) (hn : Fi.Nodup) (hy : News P M el vy qs []) (hlim : ps.length + qs.length ≤ lim P el) :
    ∃ v' w' FR, (Builtin.append_ #[t, t] ty #[vx, vy]).run P M.w = .ok v' w' ∧ (∃ N, Ow P w' N t (.list (ps ++ qs)) [v'] FR) ∧ one v' = true ∧ Step M.w w' (fun k => k ∈ Fi) ∧ FR.Nodup ∧ (∀ k ∈ FR, M.w.heap.size ≤ k ∨ k ∈ Fi) := by
  obtain ⟨n, hx⟩ := hx
  have hlt := hx.lt
  cases n with
  | zero => exact hx.elim
  | succ n =>
    have hx0 := hx
    unfold Ow at hx
    simp only [ht] at hx
    obtain ⟨v0, xs, ps0, F0, e1, e2, hown, hF, hseq⟩ := hx
    simp at e1; subst e1
    injection e2 with e2; subst e2
    have hF0 : ∀ k ∈ F0, k ∈ Fi := fun k hk => by rw [hF]; simp [hk]
    have hbl : ∀ k, vx.ownBlock = some k → k ∈ Fi := fun k hk => by rw [hF, hk]; simp
    have hbF0 : ∀ k, vx.ownBlock = some k → k ∉ F0 := fun k hk hk' => by
      rw [hF, hk] at hn
      exact (List.nodup_append.1 hn).2.2 k (by simp) k hk' rfl
    rcases hy.out with ⟨⟨c0, rfl⟩, rfl, _⟩ | ⟨ad, c, news, nG, rfl, hnl, hloc, hns⟩
    · obtain ⟨A, cap, hv, _⟩ := ownsRow_slice hown
      exact ⟨vx, M.w, Fi, append_nil_run ht ty hown c0, ⟨n + 1, by simpa using hx0⟩, by rw [hv]; rfl, ⟨rfl, rfl, rfl, Nat.le_refl _, fun _ _ _ => rfl⟩, hn, fun k hk => .inr hk⟩
    · have hones : ∀ u ∈ news, one u = true := hns.ones (fun p c f hp => hp.ones)
      obtain ⟨v', w', a1, a2, a3, a4⟩ := append_run (P := P) (w := M.w) (c := c) ht ty hown hnl hloc hones hlim
      obtain ⟨A, cap, hv', _⟩ := ownsRow_slice a2
      refine ⟨v', w', v'.ownBlock.toList ++ F0, a1, ⟨max n nG + 1, ?_⟩, by rw [hv']; rfl, ⟨a3.os, a3.tape, a3.output, a3.size, fun k hk hn => a3.block k hk (fun he => hn (hbl k he.symm))⟩, ?_, fun k hk => ?_⟩
      · unfold Ow
        simp only [ht]
        have hns' := OwSeq.imp (R' := Ow P w' (max n nG) el) (fun p c f hf hp => (hp.frame (fun k hk => a3.block k (hp.lt k hk) (fun he => absurd (hf k hk) (by simp)))).le (Nat.le_max_right _ _)) hns
        have := OwSeq.append (hseq.imp (R' := Ow P w' (max n nG) el) (fun p c f hf hp => (hp.frame (fun k hk => a3.block k (hp.lt k hk) (fun he => hbF0 k he.symm (hf k hk)))).le (Nat.le_max_left _ _))) hns'
        rw [List.append_nil] at this
        exact ⟨v', xs ++ news, ps ++ qs, F0, rfl, rfl, by simpa using a2, rfl, this⟩
      · refine List.nodup_append.2 ⟨by cases v'.ownBlock <;> simp, by rw [hF] at hn; exact (List.nodup_append.1 hn).2.1, fun a ha b hb he => ?_⟩
        subst he
        have ha' : v'.ownBlock = some a := by cases h : v'.ownBlock <;> simp [h] at ha ⊢; exact ha.symm
        rcases a4 with h | ⟨b', h1, h2⟩
        · rw [ha'] at h; exact hbF0 a h.symm hb
        · rw [ha'] at h1; injection h1 with h1; subst h1
          have := hlt a (hF0 a hb); omega
      · rcases List.mem_append.1 hk with hk | hk
        · have ha' : v'.ownBlock = some k := by cases h : v'.ownBlock <;> simp [h] at hk ⊢; exact hk.symm
          rcases a4 with h | ⟨b', h1, h2⟩
          · rw [ha'] at h; exact .inr (hbl k h.symm)
          · rw [ha'] at h1; injection h1 with h1; subst h1; exact .inl h2
        · exact .inr (hF0 k hk)
theorem ok_appendIn {o : Oper} {a : Act} {e : Eff} {fr id j i : Nat} (hm : At P C M) {c : Call} {y z : Operand} (ho : o.op = .call c) (hcal : c.callee = .builtin .append) (hargs : c.args = #[y, z]) (hat : c.argTypes = #[t, t']) {sy : SV} (hx : Slot P M (.ref id [.idx j, .fld i]) (a.eval y)) (hy : Slot P M sy (a.eval z)) (hh : ∀ k ∈ fr :: id :: idsOf sy, h' k = M.oh k) (h : eAppendIn P h' some fr t t' id j i sy = some e) : OpOk P C M o a e := by
  unfold eAppendIn at h
  split at h
  case h_2 => cases h
  rename_i el u pv ht hfr ho1
  rw [hh fr (by simp)] at hfr
  rw [hh id (by simp)] at ho1
  have hhy : ∀ k ∈ idsOf sy, h' k = M.oh k := fun k hk => hh k (by simp [hk])
  cases hb : (flat P 8 el && (alike P t (tyAt P u [.idx j, .fld i]) && Nat.beq t t')) <;> simp only [hb, cond_true, cond_false] at h
  · cases h
  simp only [Bool.and_eq_true, Nat.beq_eq] at hb
  obtain ⟨hfl, hal, rfl⟩ := hb
  cases hty : contT P h' t sy with
  | none => rw [hty] at h; cases h
  | some q =>
    rw [hty] at h
    simp only at h
    split at h
    case isFalse => cases h
    rename_i hlim
    injection h with h; subst h
    obtain ⟨A, cap, qs, nq, hv, rfl, _, hr⟩ := cont_slice hm.mem hy hhy ht hty
    have hnews := news_of_rd ht hfl hv hr
    obtain ⟨hl, _⟩ := hx.leaf_inv (by simp) (by simp) (by simp) (by simp) (by simp)
    simp only [Leaf, ho1] at hl
    rcases hl with ⟨hl, _⟩ | ⟨ad, t0, e0, hp, ht0, hcell⟩
    · cases hl
    obtain ⟨n, how⟩ := hm.mem.row id u pv ho1
    obtain ⟨m, x, Fi, Fo, hi, hxc, hperm, hhole⟩ := hole_of how (hm.mem.nd id) hp ht0
    have hxe : x = a.eval y := by rw [hcell] at hxc; injection hxc with hxc; exact hxc.symm
    subst hxe
    have htt : t0 = tyAt P u [.idx j, .fld i] := hp.ty
    rw [htt] at hi
    have hi' := hi.alike (alike_symm hal)
    obtain ⟨ps, hps⟩ : ∃ ps, pv.at [.idx j, .fld i] = .list ps := by
      cases m with
      | zero => exact hi'.elim
      | succ m =>
        have h9 := hi'
        unfold Ow at h9
        simp only [ht] at h9
        obtain ⟨_, _, ps, _, _, e2, _⟩ := h9
        exact ⟨ps, e2⟩
    rw [hps] at hi' hlim ⊢
    have hmem : ∀ k, k ∈ M.G.ft id ↔ k ∈ Fo ∨ k ∈ Fi := fun k => by rw [hperm.mem_iff]; simp
    have hnd := hperm.nodup_iff.1 (hm.mem.nd id)
    rw [List.nodup_append] at hnd
    obtain ⟨hno, hni, hdj⟩ := hnd
    obtain ⟨v', w', FR, r1, r2, r3, r4, r5, r6⟩ := append_core (ty := o.type) ht ⟨m, hi'⟩ hni hnews hlim
    have hne : id ≠ fr := fun he => by rw [he, hfr] at ho1; cases ho1
    let L : List (Nat × Chg) := [(id, ⟨.hole u pv [.idx j, .fld i], M.G.hnd id, Fo⟩), (fr, ⟨.row t (.list (ps ++ qs)), v', FR⟩)]
    have hkeys : (L.map (·.1)).Nodup := by simp [L, hne]
    have hhole' : HoleAt P w' u pv [.idx j, .fld i] (M.G.hnd id) Fo := hhole.frame (fun k hk => r4.block k (hm.mem.lt ((hmem k).2 (.inl hk))) (fun hk' => hdj k hk k hk' rfl)) r4.size
    have hchg : ∀ x ∈ L, ChgOk2 P M w' [] x.1 x.2 := fun x hx => by
      simp only [L, List.mem_cons, List.not_mem_nil, or_false] at hx
      rcases hx with rfl | rfl
      · exact .inr (.inl ⟨u, pv, _, rfl, hhole', ⟨pv, ho1⟩, rfl⟩)
      · exact .inl (.inr (.inr ⟨t, _, rfl, r2, .inl hfr⟩))
    have hT := trans_chg2 (stale := []) hm hkeys hchg ⟨r4.os, r4.tape, r4.output, r4.size, fun k hk hn => r4.block k hk (fun hc => hn ⟨_, List.mem_cons_self, (hmem k).2 (.inr hc)⟩)⟩ (by
      simp only [L, List.flatMap_cons, List.flatMap_nil, List.append_nil]
      refine List.nodup_append.2 ⟨hno, r5, fun b hb d hd he => ?_⟩
      subst he
      rcases r6 b hd with h9 | h9
      · have h10 : b < M.w.heap.size := hm.mem.lt ((hmem b).2 (.inl hb))
        omega
      · exact hdj b hb b h9 rfl) (fun k hk => by
      simp only [L, List.flatMap_cons, List.flatMap_nil, List.append_nil, List.mem_append] at hk
      rcases hk with hk | hk
      · exact .inr ⟨_, List.mem_cons_self, (hmem k).2 (.inl hk)⟩
      · rcases r6 k hk with h9 | h9
        · exact .inl h9
        · exact .inr ⟨_, List.mem_cons_self, (hmem k).2 (.inr h9)⟩) (.ref fr []) [id, fr]
    have hnew := newOh_chg2 hkeys hchg (.ref fr []) [id, fr]
    refine opOk_val (v := v') (w' := w') (by simp [execOp, ho, resolve, hcal, hargs, hat, invoke, builtin, r1]) ⟨M.G.chg L, hT, ?_⟩
    refine .leaf _ _ ?_ r3
    have hlk : lookC L fr = some ⟨.row t (.list (ps ++ qs)), v', FR⟩ := lookC_of hkeys (by simp [L])
    have hoh := hnew fr
    rw [hlk] at hoh
    show Leaf P _ (.ref fr []) v'
    have hoh' : newOh M.oh ⟨.ref fr [], [(id, .hole u pv [.idx j, .fld i]), (fr, .row t (.list (ps ++ qs)))], [id, fr], []⟩ fr = .row t (.list (ps ++ qs)) := hoh
    show Leaf P ⟨w', newOh M.oh ⟨.ref fr [], [(id, .hole u pv [.idx j, .fld i]), (fr, .row t (.list (ps ++ qs)))], [id, fr], []⟩, M.G.chg L⟩ (.ref fr []) v'
    simp only [Leaf, hoh']
    exact .inl ⟨rfl, ((chg_some hlk).1).symm⟩
/-- What is appended to a row whose elements are only read. -/
def SrcAt (P : Program) (M : Mm) (el : TypeId) (v : Value) (qs : List PV) : Prop :=
  ((∃ c, v = .slice none 0 c) ∧ qs = []) ∨ ∃ ad c news n, v = .slice (some ad) qs.length c ∧ news.length = qs.length * sizeOf P el ∧ Loc M.w ad news ∧ OwSeq (fun p c f => Rd P M.ok M.w n el p c ∧ f = []) (sizeOf P el) qs news []
theorem src_row {el : TypeId} {n : Nat} {A : Option Addr} {qs : List PV} {cap : Nat} (hv : v = .slice A qs.length cap) (h : 0 < qs.length → ∃ ad, A = some ad ∧ RowAt (Rd P M.ok M.w n el) M.w (sizeOf P el) ad qs) : SrcAt P M el v qs := by
  by_cases h0 : 0 < qs.length
  · obtain ⟨ad, rfl, hr⟩ := h h0
    obtain ⟨news, b1, b2, b3⟩ := rowAt_cells (R' := fun p c f => Rd P M.ok M.w n el p c ∧ f = []) (fun p c hp => ⟨hp, rfl⟩) hr
    exact .inr ⟨ad, cap, news, n, hv, b1, b2, b3⟩
  · have hnil : qs = [] := List.length_eq_zero_iff.1 (by omega)
    subst hnil
    cases A with
    | none => exact .inl ⟨⟨cap, hv⟩, rfl⟩
    | some ad => exact .inr ⟨ad, cap, [], n, hv, by simp, fun q u hq => by simp at hq, rfl, rfl⟩
theorem ShlAt.row {el : TypeId} {qs : List PV} {F : List Nat} (h : ShlAt P M.ok M.w t qs v F) (ht : tk P t = .slice el) : ∃ n A cap, v = .slice A qs.length cap ∧ qs.length ≤ cap ∧ (0 < qs.length → ∃ ad, A = some ad ∧ RowAt (Rd P M.ok M.w n el) M.w (sizeOf P el) ad qs) := by
  obtain ⟨e', n, xs, s1, s2, s3, s4⟩ := h
  rw [ht] at s1; injection s1 with s1; subst s1
  obtain ⟨A, cap, hv, hcap⟩ := ownsRow_slice s2
  refine ⟨n, A, cap, hv, hcap, fun h0 => ?_⟩
  obtain ⟨_, _, g, rfl, hb, hcell⟩ := ownsRow_cell s2 hv h0
  refine ⟨_, rfl, fun j p hj => ?_⟩
  obtain ⟨c, f, c1, c2, _, c4⟩ := s4.row j p hj
  exact ⟨c, c1, fun q u hq => hcell _ _ (c2 q u hq), c4.1⟩
theorem src_ok (hm : Mem P C M) {el : TypeId} (ht : tk P t = .slice el) {y : SV} (hy : Slot P M y v) (hh : ∀ id ∈ idsOf y, h' id = M.oh id) {qs : List PV} (h : shlSrc P h' t y = some qs) : SrcAt P M el v qs := by
  unfold shlSrc at h
  split at h
  · injection h with h; subst h
    obtain ⟨hl, _⟩ := hy.leaf_inv (by simp) (by simp) (by simp) (by simp) (by simp)
    exact .inl ⟨⟨0, hl⟩, rfl⟩
  · rename_i u pv
    cases hal : alike P t u <;> simp only [hal, cond_true, cond_false] at h
    · cases h
    injection h with h; subst h
    obtain ⟨⟨n, e, h1, h2⟩, _⟩ := hy.leaf_inv (by simp) (by simp) (by simp) (by simp) (by simp)
    have hu : tk P u = .slice el := by rw [← alike_tk hal]; exact ht
    cases n with
    | zero => exact h2.elim
    | succ n =>
      unfold Rd at h2
      simp only [hu] at h2
      obtain ⟨A, cap, ps, c1, rfl, c3, c4⟩ := h2
      simp at c1
      exact src_row c1 (fun h0 => by obtain ⟨ad, d1, _, d3⟩ := c4 h0; exact ⟨ad, d1, d3⟩)
  · rename_i id
    split at h
    case h_2 => cases h
    rename_i u qs' ho1
    rw [hh id (by simp [idsOf])] at ho1
    cases hal : alike P t u <;> simp only [hal, cond_true, cond_false] at h
    · cases h
    injection h with h; subst h
    obtain ⟨hl, _⟩ := hy.leaf_inv (by simp) (by simp) (by simp) (by simp) (by simp)
    simp only [Leaf, ho1] at hl
    have hu : tk P u = .slice el := by rw [← alike_tk hal]; exact ht
    obtain ⟨n, A, cap, hv, _, hr⟩ := (hm.shl id u _ ho1).row hu
    exact src_row (hl.2.trans hv) hr
  · rename_i id lo hi
    split at h
    case h_2 => cases h
    rename_i u qs' ho1
    rw [hh id (by simp [idsOf])] at ho1
    cases hal : alike P t u <;> simp only [hal, cond_true, cond_false] at h
    · cases h
    injection h with h; subst h
    obtain ⟨hl, _⟩ := hy.leaf_inv (by simp) (by simp) (by simp) (by simp) (by simp)
    simp only [Leaf, ho1] at hl
    obtain ⟨_, e', A, len, cap, A', cap', hsl, g0, g1, g2, g3, g4, g5, _⟩ := hl
    have hu : tk P u = .slice el := by rw [← alike_tk hal]; exact ht
    have hee : e' = el := by
      have hsl' : tk P u = .slice e' := hsl
      rw [hu] at hsl'; injection hsl' with h9; exact h9.symm
    subst hee
    obtain ⟨n, A2, cap2, hv, _, hr⟩ := (hm.shl id u _ ho1).row hu
    rw [← g0] at hv; injection hv with d1 d2 d3
    subst d1 d2 d3
    have hll : ((qs'.drop lo).take (hi - lo)).length = hi - lo := by simp; omega
    refine src_row (n := n) (by rw [hll]; exact g3) (fun h0 => ?_)
    obtain ⟨ad, e1, e2⟩ := g5 (by omega)
    obtain ⟨ad', f1, f2⟩ := hr (by omega)
    rw [e1] at f1; injection f1 with f1; subst f1
    refine ⟨_, e2, fun j q hj => ?_⟩
    have hj' : qs'[lo + j]? = some q := by
      rw [List.getElem?_take] at hj
      split at hj
      · rwa [List.getElem?_drop] at hj
      · cases hj
    obtain ⟨c, k1, k2, k3⟩ := f2 _ _ hj'
    refine ⟨c, k1, fun q u hq => ?_, k3⟩
    rw [add_add, ← Nat.add_assoc, ← Nat.add_mul]
    exact k2 q u hq
  · cases h
theorem ok_appendShl {o : Oper} {a : Act} {e : Eff} {fr id : Nat} {qs0 : List PV} (hm : At P C M) {c : Call} {y z : Operand} (ho : o.op = .call c) (hcal : c.callee = .builtin .append) (hargs : c.args = #[y, z]) (hat : c.argTypes = #[t, t']) {sy : SV} (hx : Slot P M (.ref id []) (a.eval y)) (hy : Slot P M sy (a.eval z)) (hh : ∀ k ∈ fr :: id :: idsOf sy, h' k = M.oh k) (ho1 : M.oh id = .shl u qs0) (h : eAppendShl P h' some fr t t' id u qs0 sy = some e) : OpOk P C M o a e := by
  unfold eAppendShl at h
  split at h
  case h_2 => cases h
  rename_i el ht hfr
  rw [hh fr (by simp)] at hfr
  cases hb : (alike P t u && Nat.beq t t') <;> simp only [hb, cond_true, cond_false] at h
  · cases h
  simp only [Bool.and_eq_true, Nat.beq_eq] at hb
  obtain ⟨hal, rfl⟩ := hb
  split at h
  case h_2 => cases h
  rename_i qs hq
  split at h
  case isFalse => cases h
  rename_i hlim
  injection h with h; subst h
  have hsrc := src_ok hm.mem ht hy (fun k hk => hh k (by simp [hk])) hq
  obtain ⟨hl, _⟩ := hx.leaf_inv (by simp) (by simp) (by simp) (by simp) (by simp)
  simp only [Leaf, ho1] at hl
  have hxv := hl.2
  have hshl := hm.mem.shl id u qs0 ho1
  obtain ⟨el', n, xs, s1, hown, s3, hseq⟩ := hshl
  have hee : el' = el := by rw [← alike_tk hal, ht] at s1; injection s1 with s1; exact s1.symm
  subst hee
  rw [← hxv] at hown s3
  have hne : id ≠ fr := fun he => by rw [he, hfr] at ho1; cases ho1
  have hbl : ∀ k, (a.eval y).ownBlock = some k → k ∈ M.G.ft id := fun k hk => by rw [s3, hk]; simp
  have fin : ∀ (v' : Value) (w' : World) (m : Nat) (ys : List Value), (Builtin.append_ #[t, t] o.type #[a.eval y, a.eval z]).run P M.w = .ok v' w' → ownsR w' el' (sizeOf P el') v' (qs0 ++ qs).length ys → Step M.w w' (fun k => k ∈ M.G.ft id) → (∀ k, v'.ownBlock = some k → M.w.heap.size ≤ k ∨ k ∈ M.G.ft id) → OwSeq (fun p c f => Rd P M.ok M.w m el' p c ∧ f = []) (sizeOf P el') (qs0 ++ qs) ys [] → OpOk P C M o a ⟨.ref fr [], [(id, .dead), (fr, .shl t (qs0 ++ qs))], [id, fr], []⟩ := fun v' w' m ys r1 r2 r3 r4 r5 => by
    obtain ⟨A', cap', hv', _⟩ := ownsRow_slice r2
    let L : List (Nat × Chg) := [(id, ⟨.dead, undef, []⟩), (fr, ⟨.shl t (qs0 ++ qs), v', v'.ownBlock.toList⟩)]
    have hkeys : (L.map (·.1)).Nodup := by simp [L, hne]
    have hokw : ∀ k, k < M.w.heap.size → M.ok k → (k < M.w.heap.size ∧ M.ok k) ∧ w'.heap[k]? = M.w.heap[k]? := fun k hk hok => ⟨⟨hk, hok⟩, r3.block k hk (hok.2 id)⟩
    have hchg : ∀ x ∈ L, ChgOk2 P M w' [] x.1 x.2 := fun x hx => by
      simp only [L, List.mem_cons, List.not_mem_nil, or_false] at hx
      rcases hx with rfl | rfl
      · exact .inl (.inl ⟨rfl, rfl, by rw [ho1]; simp⟩)
      · exact .inr (.inr (.inr ⟨t, _, rfl, ⟨el', m, ys, ht, r2, rfl, r5.imp (fun p c f _ hp => ⟨hp.1.step hokw, hp.2⟩)⟩, hfr⟩))
    have hown' : ∀ k ∈ v'.ownBlock.toList, M.w.heap.size ≤ k ∨ k ∈ M.G.ft id := fun k hk => r4 k (by cases h : v'.ownBlock <;> simp [h] at hk ⊢; exact hk.symm)
    have hT := trans_chg2 (stale := []) hm hkeys hchg ⟨r3.os, r3.tape, r3.output, r3.size, fun k hk hn => r3.block k hk (fun hc => hn ⟨_, List.mem_cons_self, hc⟩)⟩ (by
      simp only [L, List.flatMap_cons, List.flatMap_nil, List.append_nil, List.nil_append]
      cases v'.ownBlock <;> simp) (fun k hk => by
      simp only [L, List.flatMap_cons, List.flatMap_nil, List.append_nil, List.nil_append] at hk
      exact (hown' k hk).imp (fun h => h) (fun h => ⟨_, List.mem_cons_self, h⟩)) (.ref fr []) [id, fr]
    have hnew := newOh_chg2 hkeys hchg (.ref fr []) [id, fr]
    refine opOk_val (v := v') (w' := w') (by simp [execOp, ho, resolve, hcal, hargs, hat, invoke, builtin, r1]) ⟨M.G.chg L, hT, ?_⟩
    refine .leaf _ _ ?_ (by rw [hv']; rfl)
    have hlk : lookC L fr = some ⟨.shl t (qs0 ++ qs), v', v'.ownBlock.toList⟩ := lookC_of hkeys (by simp [L])
    have hoh := hnew fr
    rw [hlk] at hoh
    have hoh' : newOh M.oh ⟨.ref fr [], [(id, .dead), (fr, .shl t (qs0 ++ qs))], [id, fr], []⟩ fr = .shl t (qs0 ++ qs) := hoh
    show Leaf P ⟨w', newOh M.oh ⟨.ref fr [], [(id, .dead), (fr, .shl t (qs0 ++ qs))], [id, fr], []⟩, M.G.chg L⟩ (.ref fr []) v'
    simp only [Leaf, hoh']
    exact ⟨trivial, ((chg_some hlk).1).symm⟩
  rcases hsrc with ⟨⟨c0, hz⟩, rfl⟩ | ⟨ad, c1, news, nq, hz, hnl, hloc, hns⟩
  · refine fin (a.eval y) M.w n xs ?_ (by simpa using hown) ⟨rfl, rfl, rfl, Nat.le_refl _, fun _ _ _ => rfl⟩ (fun k hk => .inr (hbl k hk)) (by simpa using hseq)
    rw [hz]; exact append_nil_run ht o.type hown c0
  · have hones : ∀ u ∈ news, one u = true := hns.ones (fun p c f hp => hp.1.ones)
    obtain ⟨v', w', a1, a2, a3, a4⟩ := append_run (P := P) (w := M.w) (c := c1) ht o.type hown hnl hloc hones hlim
    refine fin v' w' (max n nq) (xs ++ news) (by rw [hz]; exact a1) (by simpa using a2) ⟨a3.os, a3.tape, a3.output, a3.size, fun k hk hn => a3.block k hk (fun he => hn (hbl k he.symm))⟩ (fun k hk => ?_) ?_
    · rcases a4 with h | ⟨b', h1, h2⟩
      · rw [hk] at h; exact .inr (hbl k h.symm)
      · rw [hk] at h1; injection h1 with h1; subst h1; exact .inl h2
    · exact OwSeq.append (hseq.imp (fun p c f _ hp => ⟨hp.1.le (Nat.le_max_left _ _), hp.2⟩)) (hns.imp (fun p c f _ hp => ⟨hp.1.le (Nat.le_max_right _ _), hp.2⟩))
theorem ok_append {o : Oper} {a : Act} {e : Eff} {fr : Nat} (hm : At P C M) {c : Call} {y z : Operand} (ho : o.op = .call c) (hcal : c.callee = .builtin .append) (hargs : c.args = #[y, z]) (hat : c.argTypes = #[t, t']) {sx sy : SV} (hx : Slot P M sx (a.eval y)) (hy : Slot P M sy (a.eval z)) (hh : ∀ id ∈ fr :: (idsOf sx ++ idsOf sy), h' id = M.oh id) (h : eAppend P h' some fr t t' sx sy = some e) : OpOk P C M o a e := by
  unfold eAppend at h
  split at h
  · exact ok_appendIn hm ho hcal hargs hat hx hy (fun k hk => hh k (by simpa [idsOf] using hk)) h
  · split at h
    · rename_i ho1
      rw [hh _ (by simp [idsOf])] at ho1
      exact ok_appendShl hm ho hcal hargs hat hx hy (fun k hk => hh k (by simpa [idsOf] using hk)) ho1 h
    · exact ok_append0 hm ho hcal hargs hat hx hy hh h
  · exact ok_append0 hm ho hcal hargs hat hx hy hh h
theorem ok_storeIn {o : Oper} {a : Act} {e : Eff} {id j i : Nat} {u : TypeId} {q : List Stp} (hm : At P C M) {y z : Operand} (ho : o.op = .store t y z) {sz : SV} (hy : Slot P M (.ptr id [.idx j, .fld i]) (a.eval y)) (hz : Slot P M sz (a.eval z)) (hh : ∀ k ∈ idsOf sz, h' k = M.oh k) (ho1 : M.oh id = .hole u pv q) (h : eStoreIn P h' some t id j i u pv q sz = some e) : OpOk P C M o a e := by
  unfold eStoreIn at h
  split at h
  case h_2 => cases h
  rename_i j' i'
  split at h
  case isFalse => cases h
  rename_i hjj
  subst hjj
  cases hb : (Nat.beq i' i && alike P t (tyAt P u [.idx j', .fld i])) <;> simp only [hb, cond_true, cond_false] at h
  · cases h
  simp only [Bool.and_eq_true, Nat.beq_eq] at hb
  obtain ⟨rfl, hal⟩ := hb
  split at h
  case h_2 => cases h
  rename_i p l hc
  cases hn : nodupB (id :: l) <;> simp only [hn, cond_true, cond_false] at h
  · cases h
  injection h with h; subst h
  obtain ⟨hidl, hln⟩ := List.nodup_cons.1 (nodupB_nodup hn)
  obtain ⟨t0, g, k, c1, c2, c3, c4, ⟨el, c5⟩, ⟨cur, el', fz, d1, d2, d3⟩, c7, _, wand⟩ := hm.mem.hol id u pv _ ho1
  obtain ⟨hl, _⟩ := hy.leaf_inv (by simp) (by simp) (by simp) (by simp) (by simp)
  simp only [Leaf, ho1] at hl
  obtain ⟨ad, t1, hva, hpa⟩ := hl rfl
  obtain ⟨rfl, rfl⟩ := plcH_det hpa c1
  have htt : t1 = tyAt P u [.idx j', .fld i'] := c1.ty
  have htk : tk P t ≠ .bad := by rw [alike_tk hal, ← htt, c5]; simp
  obtain ⟨⟨m, hq⟩, hlr⟩ := take_one hm.mem hz hh htk hc
  have hsz : sizeOf P t = 1 := by rw [alike_size hal htk, ← htt]; exact c4
  have hvl : (a.eval z).cells.size = sizeOf P t := by simpa using hq.len
  obtain ⟨w', r1, r2, r3⟩ := run_store_var (P := P) (v := a.eval z) (off := k) htk d1 d2 hvl (by omega) (fun x hx => hq.ones x hx)
  obtain ⟨x, hx⟩ : ∃ x, (a.eval z).cells.toList = [x] := List.length_eq_one_iff.1 (by rw [Array.length_toList, hvl, hsz])
  rw [hx] at hq r2
  have hdis : ∀ y ∈ l.flatMap M.G.ft, y ∉ M.G.ft id := fun y hy hy' => by
    obtain ⟨j2, hj2, hk2⟩ := List.mem_flatMap.1 hy
    exact hm.mem.dj id j2 (fun he => hidl (he ▸ hj2)) y hy' hk2
  have hq' : Ow P w' m t1 p [x] (l.flatMap M.G.ft) := htt ▸ ((hq.frame (fun y hy => r2.rest y (fun he => hdis y hy (he ▸ c3)))).alike hal)
  obtain ⟨N, F', e1, e2⟩ := wand w' p x (l.flatMap M.G.ft) m (fun y _ hn => r2.rest y hn) r2.here hq'
  have hFn : F'.Nodup := e2.nodup_iff.2 (List.nodup_append.2 ⟨hm.mem.nd id, ft_nodup hm.mem hln, fun b hb d hd he => hdis d hd (he ▸ hb)⟩)
  let L : List (Nat × Chg) := l.map (fun i => (i, (⟨.dead, undef, []⟩ : Chg))) ++ [(id, ⟨.row u (pv.setAt [.idx j', .fld i'] p), M.G.hnd id, F'⟩)]
  have hkm : L.map (·.1) = l ++ [id] := by
    simp only [L, List.map_append, List.map_map, List.map_cons, List.map_nil]
    have : l.map ((fun x : Nat × Chg => x.1) ∘ fun i => (i, (⟨.dead, undef, []⟩ : Chg))) = l := (List.map_congr_left (fun x _ => rfl)).trans (List.map_id l)
    rw [this]
  have hkeys : (L.map (·.1)).Nodup := by
    rw [hkm]
    exact List.nodup_append.2 ⟨hln, by simp, fun b hb d hd he => by simp at hd; subst hd; subst he; exact hidl hb⟩
  have hft : L.flatMap (·.2.ft) = F' := by
    simp only [L, List.flatMap_append, List.flatMap_cons, List.flatMap_nil, List.append_nil]
    rw [List.flatMap_map]; simp
  have hchg : ∀ x ∈ L, ChgOk2 P M w' [id] x.1 x.2 := fun x hx => by
    rcases List.mem_append.1 hx with hx | hx
    · obtain ⟨i2, hi2, rfl⟩ := List.mem_map.1 hx
      obtain ⟨u2, q2, hr⟩ := (hlr i2 hi2).2
      exact .inl (.inl ⟨rfl, rfl, by rw [hr]; simp⟩)
    · simp at hx; subst hx
      exact .inr (.inr (.inl ⟨u, _, rfl, ⟨N, e1⟩, ⟨pv, _, ho1⟩, rfl, by simp [memB]⟩))
  have hidL : ∃ c, (id, c) ∈ L := ⟨_, List.mem_append_right _ (List.mem_singleton.2 rfl)⟩
  have hT := trans_chg2 (stale := [id]) hm hkeys hchg ⟨r3.os, r3.tape, r3.output, r3.size, fun y hy hn => r3.block y hy (fun he => hn (by
    obtain ⟨c, hc⟩ := hidL
    exact ⟨_, hc, by rw [he]; exact c3⟩))⟩ (by rw [hft]; exact hFn) (fun y hy => by
    rw [hft, e2.mem_iff] at hy
    rcases List.mem_append.1 hy with hy | hy
    · obtain ⟨c, hc⟩ := hidL
      exact .inr ⟨_, hc, hy⟩
    · obtain ⟨i2, hi2, hk2⟩ := List.mem_flatMap.1 hy
      exact .inr ⟨_, List.mem_append_left _ (List.mem_map.2 ⟨i2, hi2, rfl⟩), hk2⟩) .undef (l ++ [id])
  have hws : L.map (fun x => (x.1, x.2.ob)) = l.map (fun i => (i, Own.dead)) ++ [(id, .row u (pv.setAt [.idx j', .fld i'] p))] := by
    simp only [L, List.map_append, List.map_map, List.map_cons, List.map_nil]
    rfl
  rw [hws] at hT
  exact opOk_skip (by simp [execOp, ho, hva, Instr.storeAt, Instr.sureAddr, r1]) ⟨M.G.chg L, hT, .undef⟩
theorem ok_store {o : Oper} {a : Act} {e : Eff} (hm : At P C M) {y z : Operand} (ho : o.op = .store t y z) {sy sz : SV} (hy : Slot P M sy (a.eval y)) (hz : Slot P M sz (a.eval z)) (hh : ∀ i ∈ idsOf sy ++ idsOf sz, h' i = M.oh i) (h : eStore P h' some t sy sz = some e) : OpOk P C M o a e := by
  unfold eStore at h
  split at h
  · split at h
    · rename_i ho1
      rw [hh _ (by simp [idsOf])] at ho1
      exact ok_storeIn hm ho hy hz (fun i hi => hh i (by simp [hi])) ho1 h
    · exact ok_store0 hm ho hy hz hh h
  · exact ok_store0 hm ho hy hz hh h
theorem cont_all {el : TypeId} (ht : tk P t = .slice el) : ∀ {xs : List SV} {vs : List Value} {ps : List PV} {m : Nat}, Slots P M xs vs → xs.all isRoSV = true → contTL P h' (List.replicate m t) xs = some ps →
    m = vs.length ∧ ps.length = m ∧ (∀ v ∈ vs, v.cells.size = sizeOf P t) ∧ ∃ n, OwSeq (fun p c f => Rd P M.ok M.w n t p c ∧ f = []) (sizeOf P t) ps (vs.flatMap fun v => v.cells.toList) []
  | [], [], ps, m, _, _, hc => by
    cases m with
    | zero => simp [contTL] at hc; subst hc; exact ⟨rfl, rfl, by simp, 0, rfl, rfl⟩
    | succ m => simp [contTL, List.replicate_succ] at hc
  | x :: xs, v :: vs, ps, m, ⟨hs1, hs2⟩, hr, hc => by
    cases m with
    | zero => simp [contTL] at hc
    | succ m =>
      simp only [contTL, List.replicate_succ] at hc
      simp only [List.all_cons, Bool.and_eq_true] at hr
      cases x with
      | ro u pv =>
        have hsz : sizeOf P t = 1 := by rw [tk_size (by rw [ht]; simp), ht]; rfl
        simp only [contT] at hc
        cases hal : alike P t u <;> simp only [hal, cond_true, cond_false] at hc
        · cases hc
        cases hl : contTL P h' (List.replicate m t) xs with
        | none => rw [hl] at hc; cases hc
        | some qs =>
          rw [hl] at hc
          simp at hc; subst hc
          obtain ⟨e1, e2, e3, n2, h2⟩ := cont_all ht hs2 hr.2 hl
          obtain ⟨⟨n, e, h3, h4⟩, _⟩ := hs1.leaf_inv (by simp) (by simp) (by simp) (by simp) (by simp)
          have h5 := h4.alike (alike_symm hal)
          have hvc : v.cells.toList = [v] := by
            have h6 := h5
            cases n with
            | zero => exact h6.elim
            | succ n =>
              unfold Rd at h6
              simp only [ht] at h6
              obtain ⟨A, cap, _, d1, _⟩ := h6
              simp at d1
              rw [d1]; rfl
          refine ⟨by simp [e1], by simp [e2], fun y hy => ?_, max n n2, [v], _, [], [], by rw [List.flatMap_cons, hvc], by rw [hsz]; rfl, rfl, ⟨h5.le (Nat.le_max_left _ _), rfl⟩, h2.imp (fun _ _ _ _ hp => ⟨hp.1.le (Nat.le_max_right _ _), hp.2⟩)⟩
          rcases List.mem_cons.1 hy with rfl | hy
          · have := congrArg List.length hvc
            rw [hsz]; simpa using this
          · exact e3 y hy
      | _ => simp [isRoSV] at hr
  | [], _ :: _, _, _, h, _, _ => h.elim
  | _ :: _, [], _, _, h, _, _ => h.elim
theorem build_run {a : Act} {m : Nat} {ps : Array (Nat × Operand)} {el : TypeId} (ht : tk P t = .slice el) (hb1 : partsInOrder 0 ps.toList = true) (hb2 : m = ps.toList.length) (hb3 : m * sizeOf P el ≤ 16777216) (e3 : ∀ v ∈ (ps.toList.map fun p => a.eval p.2), v.cells.size = sizeOf P el) (w : World) :
    (Instr.buildSlice t m (ps.map fun (i, x) => (i, a.eval x))).run P w = .ok (.slice (some ⟨w.heap.size, 0, none⟩) m m) (w.alloc (.cells ((ps.toList.map fun p => a.eval p.2).flatMap fun v => v.cells.toList).toArray el)) := by
  obtain ⟨hu, hel⟩ := tk_slice ht
  obtain ⟨i, z, hi, hz, hzs, hpos, hby, hs⟩ := elemOk_info hel
  by_cases hm0 : m = 0
  · subst hm0
    have hps : ps.toList = [] := List.length_eq_zero_iff.1 hb2.symm
    have : ps = #[] := by apply Array.toList_inj.1; simpa using hps
    subst this
    simp [Instr.buildSlice, run_underlying hu, run_sizeOf' hi, Instr.fill, newRow]
    rw [map_range0]
  · have hpl : (ps.map fun (i, x) => (i, a.eval x)).toList = ((ps.toList.map fun p => a.eval p.2).zipIdx 0).map fun x => (x.2, x.1) := by
      rw [Array.toList_map]; exact parts_order hb1
    refine run_buildSlice w t el m _ _ i z hu hi hz (by rw [hs]; omega) (by rw [hs]; exact Nat.mul_ne_zero hm0 (by omega)) ?_
    rw [hpl, hs]
    exact Great.fill_whole hpos _ _ e3 (by simp [hb2])
theorem ok_buildShl {o : Oper} {a : Act} {e : Eff} {fr : Nat} {el el2 : TypeId} (hm : At P C M) {m : Nat} {ps : Array (Nat × Operand)} (ho : o.op = .buildSlice t m ps) {xs : List SV} (hy : Slots P M xs (ps.toList.map fun p => a.eval p.2)) (hh : ∀ id ∈ fr :: idsOfL xs, h' id = M.oh id) (hte : tk P t = .slice el) (htl : tk P el = .slice el2) (hro : xs.all isRoSV = true) (h : eBuildShl P h' some fr t m ps.toList xs = some e) : OpOk P C M o a e := by
  unfold eBuildShl at h
  split at h
  case h_2 => cases h
  rename_i el' ht hfr
  rw [hte] at ht; injection ht with ht; subst ht
  rw [hh fr (by simp)] at hfr
  cases hb : (partsInOrder 0 ps.toList && Nat.beq m ps.toList.length && Nat.ble (m * sizeOf P el) 16777216) <;> simp only [hb, cond_true, cond_false] at h
  · cases h
  simp only [Bool.and_eq_true, Nat.beq_eq, Nat.ble_eq] at hb
  obtain ⟨⟨hb1, hb2⟩, hb3⟩ := hb
  split at h
  case h_2 => cases h
  rename_i qs hc
  injection h with h; subst h
  obtain ⟨e1, e2, e3, n, e4⟩ := cont_all htl hy hro hc
  have hpos := elem_pos hte
  have hrun := build_run (a := a) hte hb1 hb2 hb3 e3 M.w
  have hvl : (ps.toList.map fun p => a.eval p.2).length = m := e1.symm
  have hfl : ((ps.toList.map fun p => a.eval p.2).flatMap fun v => v.cells.toList).length = m * sizeOf P el := by
    rw [← hvl]
    generalize (ps.toList.map fun p => a.eval p.2) = vs at e3
    induction vs with
    | nil => simp
    | cons y r ih => rw [List.flatMap_cons, List.length_append, ih (fun v hv => e3 v (List.mem_cons_of_mem _ hv)), List.length_cons, Nat.add_mul]; have := e3 y List.mem_cons_self; simp [this]; omega
  let w' : World := M.w.alloc (.cells ((ps.toList.map fun p => a.eval p.2).flatMap fun v => v.cells.toList).toArray el)
  have hst : Step M.w w' (fun _ => False) := step_push _ _
  let L : List (Nat × Chg) := [(fr, ⟨.shl t qs, .slice (some ⟨M.w.heap.size, 0, none⟩) m m, [M.w.heap.size]⟩)]
  have hkeys : (L.map (·.1)).Nodup := by simp [L]
  have hchg : ∀ x ∈ L, ChgOk2 P M w' [] x.1 x.2 := fun x hx => by
    simp only [L, List.mem_singleton] at hx
    subst hx
    refine .inr (.inr (.inr ⟨t, _, rfl, ⟨el, n, (ps.toList.map fun p => a.eval p.2).flatMap fun v => v.cells.toList, hte, ?_, rfl, e4.imp (fun p c f _ hp => ⟨hp.1.step (fun k hk hok => ⟨⟨hk, hok⟩, hst.block k hk (fun h => h)⟩), hp.2⟩)⟩, hfr⟩))
    rw [e2]
    refine ⟨hfl, .inr ⟨M.w.heap.size, m, _, (0, 0), rfl, .inl rfl, heap_new _ _, Nat.le_refl _, ?_, by simpa using hfl, ?_⟩⟩
    · have : m ≤ m * sizeOf P el := Nat.le_mul_of_pos_right _ hpos
      simp only [maxLen]; omega
    · exact List.take_of_length_le (by simpa using Nat.le_of_eq hfl)
  have hT := trans_chg2 (stale := []) hm hkeys hchg ⟨rfl, rfl, rfl, hst.size, fun k hk _ => hst.block k hk (fun h => h)⟩ (by simp [L]) (fun k hk => by simp [L] at hk; exact .inl (by omega)) (.ref fr []) [fr]
  have hnew := newOh_chg2 hkeys hchg (.ref fr []) [fr]
  refine opOk_val (v := .slice (some ⟨M.w.heap.size, 0, none⟩) m m) (w' := w') (by simp [execOp, ho, hrun, w']) ⟨M.G.chg L, hT, ?_⟩
  refine .leaf _ _ ?_ rfl
  have hlk : lookC L fr = some ⟨.shl t qs, .slice (some ⟨M.w.heap.size, 0, none⟩) m m, [M.w.heap.size]⟩ := lookC_of hkeys (by simp [L])
  have hoh := hnew fr
  rw [hlk] at hoh
  have hoh' : newOh M.oh ⟨.ref fr [], [(fr, .shl t qs)], [fr], []⟩ fr = .shl t qs := hoh
  show Leaf P ⟨w', newOh M.oh ⟨.ref fr [], [(fr, .shl t qs)], [fr], []⟩, M.G.chg L⟩ (.ref fr []) _
  simp only [Leaf, hoh']
  exact ⟨trivial, ((chg_some hlk).1).symm⟩
theorem ok_buildSlice {o : Oper} {a : Act} {e : Eff} {fr : Nat} (hm : At P C M) {m : Nat} {ps : Array (Nat × Operand)} (ho : o.op = .buildSlice t m ps) {xs : List SV} (hy : Slots P M xs (ps.toList.map fun p => a.eval p.2)) (hh : ∀ id ∈ fr :: idsOfL xs, h' id = M.oh id) (h : eBuildSlice P h' some fr t m ps.toList xs = some e) : OpOk P C M o a e := by
  unfold eBuildSlice at h
  cases hl : shlLit P t xs <;> simp only [hl, cond_true, cond_false] at h
  · exact ok_buildSlice0 hm ho hy hh h
  · unfold shlLit at hl
    split at hl
    case h_2 => cases hl
    rename_i el hte
    split at hl
    case h_2 => cases hl
    rename_i el2 htl
    exact ok_buildShl hm ho hy hh hte htl hl h
end
end Go.Proofs.YtfbkfhdlingedaaAm

/-! What a function of the program promises, in trees. -/
namespace Go.Proofs.YtfbkfhdlingedaaAm
open Go RowKit
section
variable {P : Program} {C : Cx} {M : Mm} {x : SV} {v : Value} {n : Nat} {t t' u : TypeId} {w w' : World} {pv : PV} {cs : List Value} {F : List Nat} {ok ok' : Nat → Prop} {h' : Nat → Own} {stale : List Nat}
variable [Glb P]
def RdV (P : Program) (ok : Nat → Prop) (w : World) (t : TypeId) (p : PV) (v : Value) : Prop := ∃ n cs, Rd P ok w n t p cs ∧ v = valOf P t cs
def OwV (P : Program) (w : World) (t : TypeId) (p : PV) (v : Value) (F : List Nat) : Prop := ∃ n cs, Ow P w n t p cs F ∧ v = valOf P t cs
theorem valOf_one (h : ∀ fs, tk P t ≠ .struct fs) (v : Value) : valOf P t [v] = v := by
  unfold valOf
  split
  · rename_i fs hf; exact absurd hf (h fs)
  · rfl
theorem cont_ns (h : Leaf P M x v) {p : PV} (hc : contT P h' t x = some p) : (∀ fs, tk P t ≠ .struct fs) ∧ (∀ c, x = .sc c → sizeOf P t = 1) := by
  have key : (∀ fs, tk P t ≠ .struct fs) ∧ tk P t ≠ .bad := by
    cases x with
    | junk => exact h.elim
    | undef => exact h.elim
    | agg => exact h.elim
    | arr => exact h.elim
    | tup => exact h.elim
    | ptr => simp [contT] at hc
    | rop => simp [contT] at hc
    | err => simp [contT] at hc
    | nil => simp only [contT] at hc; split at hc <;> simp_all
    | sc c => simp only [contT] at hc; split at hc <;> simp_all
    | ro u q =>
      obtain ⟨m, e, he, _⟩ := h
      simp only [contT] at hc
      cases hal : alike P t u <;> simp only [hal, cond_true, cond_false] at hc
      · cases hc
      · rw [alike_tk hal, he]; simp
    | con g u q =>
      obtain ⟨_, m, e, he, _⟩ := h
      simp only [contT] at hc
      cases hal : alike P t u <;> simp only [hal, cond_true, cond_false] at hc
      · cases hc
      · rw [alike_tk hal, he]; simp
    | ref id q => simp only [contT] at hc; split at hc <;> simp_all
    | view id q a b => simp only [contT] at hc; split at hc <;> simp_all
  refine ⟨key.1, fun c _ => ?_⟩
  rw [tk_size key.2]
  cases hk : tk P t <;> simp [TK.sz]
  · exact absurd hk (key.1 _)
theorem take_ns {p : PV} {l : List Nat} (h : Leaf P M x v) (hc : takeT P h' t x = some (p, l)) : (∀ fs, tk P t ≠ .struct fs) := by
  cases x with
  | junk => exact h.elim
  | undef => exact h.elim
  | agg => exact h.elim
  | arr => exact h.elim
  | tup => exact h.elim
  | ptr => simp [takeT] at hc
  | rop => simp [takeT] at hc
  | err => simp [takeT] at hc
  | nil => simp only [takeT] at hc; split at hc <;> simp_all
  | sc c => simp only [takeT] at hc; split at hc <;> simp_all
  | ro u q => simp [takeT] at hc
  | con g u q => simp [takeT] at hc
  | ref id q => cases q with
    | nil => simp only [takeT] at hc; split at hc <;> simp_all
    | cons => simp [takeT] at hc
  | view id q a b => cases q with
    | nil => simp only [takeT] at hc; split at hc <;> simp_all
    | cons => simp [takeT] at hc
theorem valOf_agg {fs : List TypeId} (h : tk P t = .struct fs) (arr : Array Value) : valOf P t arr.toList = .agg arr := by unfold valOf; rw [h]
theorem cont_val (hm : Mem P C M) (hs : Slot P M x v) (hh : ∀ id ∈ idsOf x, h' id = M.oh id) {p : PV} (hc : contT P h' t x = some p) : RdV P (okOf M (idsOf x)) M.w t p v := by
  cases hs with
  | junk => simp [contT] at hc
  | undef => simp [contT] at hc
  | tup => simp [contT] at hc
  | leaf _ _ h1 h2 =>
    have hn := cont_ns h1 hc
    obtain ⟨n, hr⟩ := cont_leaf hm h1 h2 hh hn.2 hc
    exact ⟨n, [v], hr, (valOf_one hn.1 v).symm⟩
  | agg u xs arr h1 =>
    have hc0 := hc
    simp only [contT] at hc
    split at hc
    · rename_i fs ht
      cases hal : alike P t u <;> simp only [hal, cond_true, cond_false] at hc
      · cases hc
      · obtain ⟨n, hr⟩ := cont_svc hm (svc_alike hal (by rw [ht]; simp) h1) hh hc0
        exact ⟨n, arr.toList, hr, (valOf_agg ht arr).symm⟩
    · cases hc
  | arr u k pv arr h1 =>
    have hc0 := hc
    simp only [contT] at hc
    split at hc
    · rename_i fs ht
      cases hal : alike P t u <;> simp only [hal, cond_true, cond_false] at hc
      · cases hc
      · obtain ⟨n, hr⟩ := cont_svc hm (SVc.arr t u k pv _ hal h1) hh hc0
        exact ⟨n, arr.toList, hr, (valOf_agg ht arr).symm⟩
    · cases hc
theorem take_val (hm : Mem P C M) (hs : Slot P M x v) (hh : ∀ id ∈ idsOf x, h' id = M.oh id) {p : PV} {l : List Nat} (hc : takeT P h' t x = some (p, l)) :
    OwV P M.w t p v (l.flatMap M.G.ft) ∧ (∀ i ∈ l, i ∈ idsOf x ∧ ∃ u q, M.oh i = .row u q) := by
  cases hs with
  | junk => simp [takeT] at hc
  | undef => simp [takeT] at hc
  | tup => simp [takeT] at hc
  | leaf _ _ h1 h2 =>
    have hn := take_ns h1 hc
    obtain ⟨⟨n, hr⟩, hi⟩ := take_leaf hm h1 h2 hh hc
    exact ⟨⟨n, [v], hr, (valOf_one hn v).symm⟩, hi⟩
  | agg u xs arr h1 =>
    have hc0 := hc
    simp only [takeT] at hc
    split at hc
    · rename_i fs ht
      cases hal : alike P t u <;> simp only [hal, cond_true, cond_false] at hc
      · cases hc
      · obtain ⟨⟨n, hr⟩, hi⟩ := take_svc hm (svc_alike hal (by rw [ht]; simp) h1) hh hc0
        exact ⟨⟨n, arr.toList, hr, (valOf_agg ht arr).symm⟩, hi⟩
    · cases hc
  | arr u k pv arr h1 =>
    have hc0 := hc
    simp only [takeT] at hc
    split at hc
    · rename_i fs ht
      cases hal : alike P t u <;> simp only [hal, cond_true, cond_false] at hc
      · cases hc
      · obtain ⟨⟨n, hr⟩, hi⟩ := take_svc hm (SVc.arr t u k pv _ hal h1) hh hc0
        exact ⟨⟨n, arr.toList, hr, (valOf_agg ht arr).symm⟩, hi⟩
    · cases hc
theorem OwV.rd (h : OwV P w t pv v F) (hF : ∀ k ∈ F, ok k) : RdV P ok w t pv v := by
  obtain ⟨n, cs, h1, h2⟩ := h
  exact ⟨n, cs, h1.rd hF, h2⟩
/-- What is lent: rows, and boxes (with their cells): types, handles, blocks. -/
structure Row where
  box : Bool
  t : TypeId
  hd : Value
  ft : List Nat
  cs : List Value
/-- A block of cells of one's own. -/
def BoxC (w : World) (u : TypeId) (v : Value) (F : List Nat) (cs : List Value) : Prop := ∃ g arr, v = .pointer (some ⟨g, 0, none⟩) ∧ F = [g] ∧ w.heap[g]? = some (.cells arr u (0, 0)) ∧ arr.toList = cs
def KFlds (P : Program) (R : TypeId → PV → List Value → List Value → Prop) : List TypeId → List PV → List Value → List Value → Prop
  | [], [], co, cn => co = [] ∧ cn = []
  | t :: ts, p :: ps, co, cn => ∃ a a' b b', co = a ++ a' ∧ cn = b ++ b' ∧ a.length = sizeOf P t ∧ R t p a b ∧ KFlds P R ts ps a' b'
  | _, _, _, _ => False
/-- A box's cells, and those behind a call: its slices are the same. -/
def KeptSl (P : Program) : Nat → TypeId → PV → List Value → List Value → Prop
  | 0, _, _, _, _ => False
  | n + 1, t, pv, co, cn => match tk P t with
    | .slice _ => cn = co
    | .struct fs => ∃ ps, pv = .agg ps ∧ KFlds P (KeptSl P n) fs ps co cn
    | .int k => ∃ x, pv = .sc (.int k x) ∧ cn = [.int k x]
    | .bool => ∃ b, pv = .sc (.bool b) ∧ cn = [.bool b]
    | .str => ∃ s, pv = .sc (.string s) ∧ cn = [.string s]
    | .other => ∃ v, pv = .sc v ∧ cn = [v] ∧ one v = true
    | .bad => False
/-- A struct's cells, all of whose rows are lent. -/
def LendFs (R : TypeId → PV → List Value → List Row → Prop) : List TypeId → List PV → List Value → List Row → Prop
  | [], [], cs, L => cs = [] ∧ L = []
  | t :: ts, p :: ps, cs, L => ∃ c cs' M M', cs = c ++ cs' ∧ L = M ++ M' ∧ R t p c M ∧ LendFs R ts ps cs' M'
  | _, _, _, _ => False
def LendAt (P : Program) (w : World) : Nat → TypeId → PV → List Value → List Row → Prop
  | 0, _, _, _, _ => False
  | n + 1, t, p, cs, L => match tk P t with
    | .slice _ => ∃ v r, cs = [v] ∧ L = [r] ∧ (r.box = false ∧ r.t = t) ∧ r.hd = v ∧ ∃ m, Ow P w m t p [v] r.ft
    | .struct fs => ∃ ps, p = .agg ps ∧ LendFs (LendAt P w n) fs ps cs L
    | .int k => (∃ x, p = .sc (.int k x) ∧ cs = [.int k x]) ∧ L = []
    | .bool => (∃ x, p = .sc (.bool x) ∧ cs = [.bool x]) ∧ L = []
    | .str => (∃ x, p = .sc (.string x) ∧ cs = [.string x]) ∧ L = []
    | _ => False
/-- Arguments: F, the blocks given away; L, what is lent. -/
def ArgsAt (P : Program) (ok : Nat → Prop) (w : World) : List (TypeId × Mode) → List Value → List PV → List Nat → List Row → Prop
  | [], [], [], F, L => F = [] ∧ L = []
  | (t, .ro) :: ms, v :: vs, p :: ps, F, L => RdV P ok w t p v ∧ ArgsAt P ok w ms vs ps F L
  | (t, .own) :: ms, v :: vs, p :: ps, F, L => ∃ F1 F2, F = F1 ++ F2 ∧ OwV P w t p v F1 ∧ ArgsAt P ok w ms vs ps F2 L
  | (t, .mut) :: ms, v :: vs, p :: ps, F, L => ∃ r L', L = r :: L' ∧ (r.box = false ∧ r.t = t) ∧ r.hd = v ∧ (∃ e, tk P t = .slice e) ∧ (∃ n, Ow P w n t p [v] r.ft) ∧ ArgsAt P ok w ms vs ps F L'
  | (t, .box) :: ms, v :: vs, p :: ps, F, L => ∃ r L', L = r :: L' ∧ (r.box = true ∧ ptee P t = some r.t ∧ sizeOf P r.t < 4096) ∧ r.hd = v ∧ BoxC w r.t v r.ft r.cs ∧ (∃ n, Rd P ok w n r.t p r.cs) ∧ ArgsAt P ok w ms vs ps F L'
  | (t, .mut2) :: ms, v :: vs, p :: ps, F, L => ∃ r1 r2 L' t1 t2 h1 h2 p1 p2, L = r1 :: r2 :: L' ∧ tk P t = .struct [t1, t2] ∧ p = .agg [p1, p2] ∧ v = .agg #[h1, h2] ∧ ((r1.box = false ∧ r1.t = t1) ∧ (r2.box = false ∧ r2.t = t2)) ∧ (r1.hd = h1 ∧ r2.hd = h2) ∧ ((∃ e, tk P t1 = .slice e) ∧ ∃ e, tk P t2 = .slice e) ∧ ((∃ n, Ow P w n t1 p1 [h1] r1.ft) ∧ ∃ n, Ow P w n t2 p2 [h2] r2.ft) ∧ ArgsAt P ok w ms vs ps F L'
  | (t, .muts) :: ms, v :: vs, p :: ps, F, L => ∃ M L' cs fs, L = M ++ L' ∧ tk P t = .struct fs ∧ LendAt P w 8 t p cs M ∧ v = .agg cs.toArray ∧ ArgsAt P ok w ms vs ps F L'
  | _, _, _, _, _ => False
def ResAt (P : Program) (ok : Nat → Prop) (w : World) : List (TypeId × RMode) → List PV → List Value → List Nat → Prop
  | [], _, vs, F => vs = [] ∧ F = []
  | (t, .val) :: rs, outs, v :: vs, F => RdV P (fun _ => True) w t (outs.headD default) v ∧ ResAt P ok w rs outs.tail vs F
  | (t, .own) :: rs, outs, v :: vs, F => ∃ F1 F2, F = F1 ++ F2 ∧ OwV P w t (outs.headD default) v F1 ∧ ResAt P ok w rs outs.tail vs F2
  | (t, .box) :: rs, outs, v :: vs, F => ∃ F1 F2 u cs n, F = F1 ++ F2 ∧ ptee P t = some u ∧ BoxC w u v F1 cs ∧ Rd P ok w n u (outs.headD default) cs ∧ ResAt P ok w rs outs.tail vs F2
  | (t, .nown) :: rs, outs, v :: vs, F => ∃ F1 F2, F = F1 ++ F2 ∧ OwV P w t (.list (outs.headD default).items) v F1 ∧ ((outs.headD default).items = [] → v = .slice none 0 0) ∧ ResAt P ok w rs outs.tail vs F2
  | (_, .any) :: rs, outs, _ :: vs, F => ResAt P ok w rs outs.tail vs F
  | (_, .err) :: rs, outs, v :: vs, F => (((outs.headD default).toBool = false ∧ v = .nilIface) ∨ ((outs.headD default).toBool = true ∧ ∃ te pe, v = .iface te pe)) ∧ ResAt P ok w rs outs.tail vs F
  | (t, .shr) :: rs, outs, v :: vs, F => RdV P ok w t (outs.headD default) v ∧ ResAt P ok w rs outs.tail vs F
  | _ :: _, _, [], _ => False
/-- The blocks that a result may lead to. -/
def okR (ok : Nat → Prop) (w : World) (res : List (TypeId × RMode)) : Nat → Prop := match hasShr res with
  | true => fun k => ok k ∨ w.heap.size ≤ k
  | false => ok
theorem okR_no {ok : Nat → Prop} {w : World} {res : List (TypeId × RMode)} (h : hasShr res = false) : okR ok w res = ok := by unfold okR; rw [h]
theorem okR_yes {ok : Nat → Prop} {w : World} {res : List (TypeId × RMode)} (h : hasShr res = true) : okR ok w res = fun k => ok k ∨ w.heap.size ≤ k := by unfold okR; rw [h]
def LentAt1 (P : Program) (w : World) (r : Row) (p : PV) (G : List Nat) : Prop := match r.box with
  | false => ∃ n, Ow P w n r.t p [r.hd] G
  | true => ∃ cs n, BoxC w r.t r.hd G cs ∧ KeptSl P n r.t p r.cs cs
def LentAt (P : Program) (w : World) : List Row → List PV → List (List Nat) → Prop
  | [], _, Gs => Gs = []
  | r :: L, outs, Gs => ∃ G Gs', Gs = G :: Gs' ∧ LentAt1 P w r (outs.headD default) G ∧ LentAt P w L outs.tail Gs'
def retVal : List Value → Value
  | [v] => v
  | vs => .tuple vs.toArray
/-- Behind a call: Z, the blocks given. -/
def FnPost (P : Program) (ok : Nat → Prop) (w w' : World) (res : List (TypeId × RMode)) (outs : List PV) (L : List Row) (Z : List Nat) (v : Value) : Prop :=
  ∃ vs F Gs, v = retVal vs ∧ ResAt P (okR ok w res) w' res outs vs F ∧ LentAt P w' L (dropRes res outs) Gs ∧ (F ++ Gs.flatten).Nodup ∧ (∀ k ∈ F ++ Gs.flatten, w.heap.size ≤ k ∨ k ∈ Z) ∧ Step w w' (fun k => k ∈ Z)
/-- A function does what the tree function says. -/
def FnOk (P : Program) [Glb P] (f : FuncId) (s : ASpec) : Prop :=
  (∃ fn, P.funcs[f]? = some fn ∧ fn.body.isNone = false ∧ (fn.name == "runtime.NumGoroutine") = false) ∧
  ∀ (w : World) (ok : Nat → Prop) (vs : List Value) (ps : List PV) (F : List Nat) (L : List Row) (outs : List PV), Glb.holds (P := P) ok w → ArgsAt P ok w s.params vs ps F L → (F ++ L.flatMap (·.ft)).Nodup → (∀ k ∈ F ++ L.flatMap (·.ft), ¬ ok k) → s.den ps = some outs →
    Calls P f vs.toArray w fun e w' => ∃ v, e = .returned v ∧ FnPost P ok w w' s.res outs L (F ++ L.flatMap (·.ft)) v
end
end Go.Proofs.YtfbkfhdlingedaaAm

/-! What a call gives back. -/
namespace Go.Proofs.YtfbkfhdlingedaaAm
open Go RowKit
section
variable {P : Program} {C : Cx} {M : Mm} {x : SV} {v : Value} {n : Nat} {t t' u : TypeId} {w w' : World} {pv : PV} {cs : List Value} {F : List Nat} {ok ok' : Nat → Prop} {h' : Nat → Own} {stale : List Nat}
variable [Glb P]
/-- Rows laid out by number, and what a slot says of them. -/
structure Adopted (P : Program) (w : World) (ws : List (Nat × Own)) (fr : Nat) (F : List Nat) (L : List (Nat × Chg)) : Prop where
  ws : L.map (fun x => (x.1, x.2.ob)) = ws
  sub : (L.flatMap (·.2.ft)).Sublist F
  rows : ∀ x ∈ L, ∃ u q, x.2.ob = .row u q ∧ (∃ n, Ow P w n u q [x.2.hd] x.2.ft) ∧ one x.2.hd = true
  ids : L.map (·.1) = List.range' fr L.length
def Holds (M : Mm) (L : List (Nat × Chg)) : Prop := ∀ x ∈ L, M.oh x.1 = x.2.ob ∧ M.G.hnd x.1 = x.2.hd ∧ M.G.ft x.1 = x.2.ft
theorem Adopted.nil (fr : Nat) : Adopted P w [] fr F [] := ⟨rfl, by simp, by simp, rfl⟩
theorem Adopted.len {ws : List (Nat × Own)} {fr : Nat} {L : List (Nat × Chg)} (h : Adopted P w ws fr F L) : ws.length = L.length := by rw [← h.ws]; simp
theorem Adopted.append {ws ws' : List (Nat × Own)} {fr : Nat} {F F' : List Nat} {L L' : List (Nat × Chg)} (h : Adopted P w ws fr F L) (h' : Adopted P w ws' (fr + ws.length) F' L') : Adopted P w (ws ++ ws') fr (F ++ F') (L ++ L') where
  ws := by rw [List.map_append, h.ws, h'.ws]
  sub := by rw [List.flatMap_append]; exact h.sub.append h'.sub
  rows := fun x hx => (List.mem_append.1 hx).elim (h.rows x) (h'.rows x)
  ids := by
    rw [List.map_append, h.ids, h'.ids, h.len, List.length_append, ← List.range'_append]
    simp
theorem Holds.left {L L' : List (Nat × Chg)} (h : Holds M (L ++ L')) : Holds M L := fun x hx => h x (List.mem_append_left _ hx)
theorem Holds.right {L L' : List (Nat × Chg)} (h : Holds M (L ++ L')) : Holds M L' := fun x hx => h x (List.mem_append_right _ hx)
theorem svc_flat {m : Nat} (h : Ow P w n t pv cs F) (hs : (∀ e, tk P t ≠ .slice e) ∧ ∀ fs, tk P t ≠ .struct fs) (hw : M.w = w) : SVc P M t (reifyRo P (m + 1) t pv) cs := by
  subst hw
  have hg := h.good
  cases n with
  | zero => exact h.elim
  | succ n =>
    have : Rd P M.ok M.w (n + 1) t pv cs := by
      unfold Ow at h; unfold Rd
      cases ht : tk P t <;> simp only [ht] at h ⊢
      · exact h.1
      · exact h.1
      · exact h.1
      · exact absurd ht (hs.1 _)
      · exact absurd ht (hs.2 _)
      · exact h.1
    exact reifyRo_ok this
mutual
theorem adopt_ok : ∀ {m n : Nat} {t : TypeId} {pv : PV} {cs : List Value} {F : List Nat} (fr : Nat), Ow P w n t pv cs F →
    ∃ L, Adopted P w (adopt P m t pv fr).2 fr F L ∧ ∀ M : Mm, M.w = w → Holds M L → SVc P M t (adopt P m t pv fr).1 cs
  | 0, n, t, pv, cs, F, fr, h => ⟨[], .nil fr, fun M _ _ => .junk _ _ h.len h.ones⟩
  | m + 1, 0, t, pv, cs, F, fr, h => h.elim
  | m + 1, n + 1, t, pv, cs, F, fr, h => by
    have h0 := h
    unfold adopt
    cases ht : tk P t with
    | int k => exact ⟨[], .nil fr, fun M hw _ => by have := svc_flat (m := 0) h0 (by rw [ht]; simp) hw; simpa [reifyRo, ht] using this⟩
    | bool => exact ⟨[], .nil fr, fun M hw _ => by have := svc_flat (m := 0) h0 (by rw [ht]; simp) hw; simpa [reifyRo, ht] using this⟩
    | str => exact ⟨[], .nil fr, fun M hw _ => by have := svc_flat (m := 0) h0 (by rw [ht]; simp) hw; simpa [reifyRo, ht] using this⟩
    | other => exact ⟨[], .nil fr, fun M hw _ => by have := svc_flat (m := 0) h0 (by rw [ht]; simp) hw; simpa [reifyRo, ht] using this⟩
    | bad => exact ⟨[], .nil fr, fun M _ _ => .junk _ _ h.len h.ones⟩
    | slice e =>
      unfold Ow at h
      simp only [ht] at h
      obtain ⟨v, xs, ps, F', rfl, h2, h3⟩ := h
      obtain ⟨A, cap, hv, _⟩ := ownsRow_slice h3.1
      have h1 : one v = true := by rw [hv]; rfl
      refine ⟨[(fr, ⟨.row t pv, v, F⟩)], ⟨rfl, by simp, fun x hx => by rw [List.mem_singleton.1 hx]; exact ⟨_, _, rfl, ⟨_, h0⟩, h1⟩, rfl⟩, fun M hw hL => ?_⟩
      obtain ⟨a1, a2, a3⟩ := hL _ (List.mem_singleton.2 rfl)
      refine .leaf _ _ _ ?_ h1 (by rw [tk_size (by rw [ht]; simp), ht]; rfl) (by rw [ht]; simp)
      simp only [Leaf, a1]
      exact .inl ⟨rfl, a2.symm⟩
    | struct fs =>
      unfold Ow at h
      simp only [ht] at h
      obtain ⟨ps, rfl, h2⟩ := h
      obtain ⟨L, h3, h4⟩ := fieldsAdopt_ok (m := m) (k := 0) (qs := ps) (pv := .agg ps) fr h2 (fun i => by simp [PV.fld, PV.parts])
      exact ⟨L, h3, fun M hw hL => .agg t t fs _ _ ht (alike_refl ht) (h4 M hw hL)⟩
theorem fieldsAdopt_ok : ∀ {m n : Nat} {fs : List TypeId} {qs : List PV} {cs : List Value} {F : List Nat} {k : Nat} {pv : PV} (fr : Nat), OwFlds (Ow P w n) fs qs cs F → (∀ i, pv.fld (k + i) = qs.getD i default) →
    ∃ L, Adopted P w (fieldsAdopt (adopt P m) fs pv k fr).2 fr F L ∧ ∀ M : Mm, M.w = w → Holds M L → SVcL P M fs (fieldsAdopt (adopt P m) fs pv k fr).1 cs
  | m, n, [], [], cs, F, k, pv, fr, h, _ => by
    obtain ⟨rfl, rfl⟩ := h
    exact ⟨[], .nil fr, fun M _ _ => .nil⟩
  | m, n, t :: ts, q :: qs, _, _, k, pv, fr, ⟨c, cs', f, F', rfl, rfl, h1, h2⟩, hq => by
    have hq0 : pv.fld k = q := by simpa using hq 0
    obtain ⟨L1, a1, a2⟩ := adopt_ok (m := m) fr h1
    obtain ⟨L2, b1, b2⟩ := fieldsAdopt_ok (m := m) (k := k + 1) (pv := pv) (fr + (adopt P m t q fr).2.length) h2 (fun i => by
      have := hq (i + 1)
      rw [show k + 1 + i = k + (i + 1) by omega, this]; simp)
    refine ⟨L1 ++ L2, ?_, fun M hw hL => ?_⟩
    · simp only [fieldsAdopt, hq0]; exact a1.append b1
    · simp only [fieldsAdopt, hq0]
      exact .cons _ _ _ _ _ _ (a2 M hw hL.left) (b2 M hw hL.right)
  | m, n, [], _ :: _, _, _, _, _, _, h, _ => h.elim
  | m, n, _ :: _, [], _, _, _, _, _, h, _ => h.elim
end
end
end Go.Proofs.YtfbkfhdlingedaaAm

/-! Calls. -/
namespace Go.Proofs.YtfbkfhdlingedaaAm
open Go RowKit
section
variable {P : Program} {C : Cx} {M : Mm} {x : SV} {v : Value} {n : Nat} {t t' u : TypeId} {w w' : World} {pv : PV} {cs : List Value} {F : List Nat} {ok ok' : Nat → Prop} {h' : Nat → Own} {stale : List Nat} {o : Oper} {a : Act} {e : Eff}
variable [Glb P]
/-- What a call gives back, by number: rows, boxes. -/
def GoodC (P : Program) (ok : Nat → Prop) (w : World) (c : Chg) : Prop :=
  (∃ u q, c.ob = .row u q ∧ ∃ n, Ow P w n u q [c.hd] c.ft) ∨ (∃ u p n cs, c.ob = .box u (reifyRo P 8 u p) ∧ BoxC w u c.hd c.ft cs ∧ Rd P ok w n u p cs)
structure ResL (P : Program) (ok : Nat → Prop) (w : World) (ws : List (Nat × Own)) (fr : Nat) (F : List Nat) (L : List (Nat × Chg)) : Prop where
  ws : L.map (fun x => (x.1, x.2.ob)) = ws
  sub : (L.flatMap (·.2.ft)).Sublist F
  rows : ∀ x ∈ L, GoodC P ok w x.2
  ids : L.map (·.1) = List.range' fr L.length
theorem ResL.nil (fr : Nat) : ResL P ok w [] fr F [] := ⟨rfl, by simp, by simp, rfl⟩
theorem ResL.len {ws : List (Nat × Own)} {fr : Nat} {L : List (Nat × Chg)} (h : ResL P ok w ws fr F L) : ws.length = L.length := by rw [← h.ws]; simp
theorem ResL.append {ws ws' : List (Nat × Own)} {fr : Nat} {F F' : List Nat} {L L' : List (Nat × Chg)} (h : ResL P ok w ws fr F L) (h' : ResL P ok w ws' (fr + ws.length) F' L') : ResL P ok w (ws ++ ws') fr (F ++ F') (L ++ L') where
  ws := by rw [List.map_append, h.ws, h'.ws]
  sub := by rw [List.flatMap_append]; exact h.sub.append h'.sub
  rows := fun x hx => (List.mem_append.1 hx).elim (h.rows x) (h'.rows x)
  ids := by
    rw [List.map_append, h.ids, h'.ids, h.len, List.length_append, ← List.range'_append]
    simp
theorem Adopted.res {ws : List (Nat × Own)} {fr : Nat} {L : List (Nat × Chg)} (h : Adopted P w ws fr F L) : ResL P ok w ws fr F L :=
  ⟨h.ws, h.sub, fun x hx => by obtain ⟨u, q, h1, h2, _⟩ := h.rows x hx; exact .inl ⟨u, q, h1, h2⟩, h.ids⟩
theorem res_ok : ∀ {res : List (TypeId × RMode)} {outs : List PV} {vs : List Value} {F : List Nat} (fr : Nat), ResAt P ok w res outs vs F →
    ∃ L, ResL P ok w (resultsOf P res outs fr).2 fr F L ∧ ∀ M : Mm, M.w = w → Holds M L → (hasShr res = true → ∀ k, ok k → M.ok k) → Slots P M (resultsOf P res outs fr).1 vs
  | [], outs, vs, F, fr, h => by
    obtain ⟨rfl, rfl⟩ := h
    exact ⟨[], .nil fr, fun _ _ _ _ => trivial⟩
  | (t, .val) :: res, outs, v :: vs, F, fr, ⟨⟨n, cs, h1, h2⟩, h3⟩ => by
    obtain ⟨L, a1, a2⟩ := res_ok fr h3
    refine ⟨L, a1, fun M hw hL ho => ⟨?_, a2 M hw hL ho⟩⟩
    cases hf : flat P 8 t
    · exact .junk _
    · rw [h2]
      have h4 : Rd P M.ok w n t (outs.headD default) cs := (flat_ow (w' := w) hf h1).rd (fun _ h => by cases h)
      subst hw
      exact svc_slot (reifyRo_ok h4)
  | (t, .own) :: res, outs, v :: vs, _, fr, ⟨F1, F2, rfl, ⟨n, cs, h1, h2⟩, h3⟩ => by
    obtain ⟨L1, a1, a2⟩ := adopt_ok (m := 8) fr h1
    obtain ⟨L2, b1, b2⟩ := res_ok (fr + (adopt P 8 t (outs.headD default) fr).2.length) h3
    refine ⟨L1 ++ L2, a1.res.append b1, fun M hw hL ho => ⟨?_, b2 M hw hL.right ho⟩⟩
    rw [h2]
    exact svc_slot (a2 M hw hL.left)
  | (t, .box) :: res, outs, v :: vs, _, fr, ⟨F1, F2, u, cs, n, rfl, hu, hbx, hrd, h3⟩ => by
    obtain ⟨L2, b1, b2⟩ := res_ok (fr + 1) h3
    have hone : ResL P ok w [(fr, .box u (reifyRo P 8 u (outs.headD default)))] fr F1 [(fr, ⟨.box u (reifyRo P 8 u (outs.headD default)), v, F1⟩)] :=
      ⟨rfl, by simp, fun x hx => by rw [List.mem_singleton.1 hx]; exact .inr ⟨u, _, n, cs, rfl, hbx, hrd⟩, rfl⟩
    have hr : resultsOf P ((t, .box) :: res) outs fr = (.ptr fr [] :: (resultsOf P res outs.tail (fr + 1)).1, (fr, .box u (reifyRo P 8 u (outs.headD default))) :: (resultsOf P res outs.tail (fr + 1)).2) := by
      simp only [resultsOf, hu, Option.getD_some]
    refine ⟨(fr, ⟨.box u (reifyRo P 8 u (outs.headD default)), v, F1⟩) :: L2, ?_, fun M hw hL ho => ?_⟩
    · rw [hr]; exact hone.append b1
    · rw [hr]
      refine ⟨?_, b2 M hw (fun x hx => hL x (List.mem_cons_of_mem _ hx)) ho⟩
      obtain ⟨c1, c2, c3⟩ := hL _ (List.mem_cons_self)
      obtain ⟨g, arr, hv, _⟩ := hbx
      refine .leaf _ _ ?_ (by rw [hv]; rfl)
      simp only [Leaf, c1]
      exact ⟨g, 0, u, c2.trans hv, hv, rfl, rfl⟩
  | (t, .nown) :: res, outs, v :: vs, _, fr, ⟨F1, F2, rfl, ⟨n, cs, h1, h2⟩, hnil, h3⟩ => by
    cases hi : (outs.headD default).items with
    | nil =>
      obtain ⟨L, a1, a2⟩ := res_ok (res := res) fr h3
      have hr : resultsOf P ((t, .nown) :: res) outs fr = (.nil :: (resultsOf P res outs.tail fr).1, (resultsOf P res outs.tail fr).2) := by simp only [resultsOf, hi, nilC]
      refine ⟨L, ?_, fun M hw hL ho => ?_⟩
      · rw [hr]; exact ⟨a1.ws, a1.sub.trans (List.sublist_append_right _ _), a1.rows, a1.ids⟩
      · rw [hr]; exact ⟨.leaf _ _ (hnil hi) (by rw [hnil hi]; rfl), a2 M hw hL ho⟩
    | cons x xs =>
      rw [hi] at h1
      obtain ⟨L1, a1, a2⟩ := adopt_ok (m := 8) fr h1
      obtain ⟨L2, b1, b2⟩ := res_ok (fr + (adopt P 8 t (.list (x :: xs)) fr).2.length) h3
      have hr : resultsOf P ((t, .nown) :: res) outs fr = ((adopt P 8 t (.list (x :: xs)) fr).1 :: (resultsOf P res outs.tail (fr + (adopt P 8 t (.list (x :: xs)) fr).2.length)).1, (adopt P 8 t (.list (x :: xs)) fr).2 ++ (resultsOf P res outs.tail (fr + (adopt P 8 t (.list (x :: xs)) fr).2.length)).2) := by simp only [resultsOf, hi, nilC]
      refine ⟨L1 ++ L2, ?_, fun M hw hL ho => ?_⟩
      · rw [hr]; exact a1.res.append b1
      · rw [hr]
        refine ⟨?_, b2 M hw hL.right ho⟩
        rw [h2]
        exact svc_slot (a2 M hw hL.left)
  | (t, .any) :: res, outs, v :: vs, F, fr, h3 => by
    obtain ⟨L, a1, a2⟩ := res_ok (res := res) fr h3
    exact ⟨L, a1, fun M hw hL ho => ⟨.junk _, a2 M hw hL ho⟩⟩
  | (t, .err) :: res, outs, v :: vs, F, fr, ⟨h0, h3⟩ => by
    obtain ⟨L, a1, a2⟩ := res_ok (res := res) fr h3
    exact ⟨L, a1, fun M hw hL ho => ⟨.leaf _ _ h0 (by rcases h0 with ⟨_, rfl⟩ | ⟨_, te, pe, rfl⟩ <;> rfl), a2 M hw hL ho⟩⟩
  | (t, .shr) :: res, outs, v :: vs, F, fr, ⟨⟨n, cs, h1, h2⟩, h3⟩ => by
    obtain ⟨L, a1, a2⟩ := res_ok (res := res) fr h3
    refine ⟨L, a1, fun M hw hL ho => ⟨?_, a2 M hw hL (fun _ => ho rfl)⟩⟩
    rw [h2]
    have h4 : Rd P M.ok w n t (outs.headD default) cs := h1.mono (ho rfl)
    subst hw
    exact svc_slot (reifyRo_ok h4)
  | (_, .shr) :: _, _, [], _, _, h => h.elim
  | (_, .err) :: _, _, [], _, _, h => h.elim
  | (_, .nown) :: _, _, [], _, _, h => h.elim
  | (_, .any) :: _, _, [], _, _, h => h.elim
  | (_, .val) :: _, _, [], _, _, h => h.elim
  | (_, .own) :: _, _, [], _, _, h => h.elim
  | (_, .box) :: _, _, [], _, _, h => h.elim
theorem Slots.length : ∀ {xs : List SV} {vs : List Value}, Slots P M xs vs → xs.length = vs.length
  | [], [], _ => rfl
  | x :: xs, v :: vs, ⟨_, h⟩ => by simp [Slots.length h]
  | [], _ :: _, h => h.elim
  | _ :: _, [], h => h.elim
theorem Slots.get : ∀ {xs : List SV} {vs : List Value}, Slots P M xs vs → ∀ (i : Nat) (x : SV) (v : Value), xs[i]? = some x → vs[i]? = some v → Slot P M x v
  | x :: xs, v :: vs, ⟨h1, h2⟩, 0, y, u, hy, hu => by simp at hy hu; subst hy hu; exact h1
  | x :: xs, v :: vs, ⟨h1, h2⟩, i + 1, y, u, hy, hu => Slots.get h2 i y u (by simpa using hy) (by simpa using hu)
  | [], [], _, i, y, u, hy, _ => by simp at hy
  | [], _ :: _, h, _, _, _, _, _ => h.elim
  | _ :: _, [], h, _, _, _, _, _ => h.elim
theorem slots_ret {xs : List SV} {vs : List Value} (h : Slots P M xs vs) : Slot P M (retSV xs) (retVal vs) := by
  have tup : ∀ {xs : List SV} {vs : List Value}, Slots P M xs vs → Slot P M (.tup xs) (.tuple vs.toArray) := fun h => .tup _ _ (by simpa using h.length) (fun i x v hx hv => h.get i x v hx (by simpa using hv))
  match xs, vs, h with
  | [], [], h => exact tup h
  | [x], [v], h => exact h.1
  | x :: y :: xs, v :: u :: vs, h => exact tup h
  | [], _ :: _, h => exact h.elim
  | _ :: _, [], h => exact h.elim
  | [x], v :: u :: vs, h => exact h.2.elim
  | x :: y :: xs, [v], h => exact h.2.elim
theorem Leaf.fresh (h : Leaf P M x v) : freshen stale x = .junk ∨ freshen stale x = x := by
  cases x with
  | junk => exact .inl rfl
  | undef => exact h.elim
  | agg => exact h.elim
  | arr => exact h.elim
  | tup => exact h.elim
  | nil => exact .inr rfl
  | sc => exact .inr rfl
  | ro => exact .inr rfl
  | con => exact .inr rfl
  | err => exact .inr rfl
  | rop => exact .inr rfl
  | ref id p => cases p with
    | nil => exact .inr rfl
    | cons s r => simp only [freshen]; cases memB stale id <;> simp
  | view id p lo hi => cases p with
    | nil => exact .inr rfl
    | cons s r => simp only [freshen]; cases memB stale id <;> simp
  | ptr id p => simp only [freshen]; cases memB stale id && twoIdx p <;> simp
mutual
theorem SVc.fresh : ∀ {t : TypeId} {x : SV} {cs : List Value}, SVc P M t x cs → SVc P M t (freshen stale x) cs
  | t, _, cs, .junk _ _ h1 h2 => .junk t cs h1 h2
  | t, x, _, .leaf _ _ v h1 h2 h3 h4 => by
    rcases h1.fresh (stale := stale) with h | h
    · rw [h]; exact .junk _ _ (by simp [h3]) (by simpa using h2)
    · rw [h]; exact .leaf t _ v h1 h2 h3 h4
  | t, _, cs, .agg _ u fs xs _ h1 h2 h3 => .agg t u fs _ cs h1 h2 (SVcL.fresh h3)
  | t, _, cs, .arr _ u k pv _ h1 h2 => .arr t u k pv cs h1 h2
theorem SVcL.fresh : ∀ {ts : List TypeId} {xs : List SV} {cs : List Value}, SVcL P M ts xs cs → SVcL P M ts (freshenL stale xs) cs
  | _, _, _, .nil => .nil
  | _, _, _, .cons t ts x xs c cs h1 h2 => .cons t ts _ _ c cs (SVc.fresh h1) (SVcL.fresh h2)
end
theorem Slot.fresh (h : Slot P M x v) : Slot P M (freshen stale x) v := by
  induction h with
  | junk v => exact .junk v
  | undef => exact .undef
  | leaf x v h1 h2 =>
    rcases h1.fresh (stale := stale) with h | h
    · rw [h]; exact .junk v
    · rw [h]; exact .leaf _ v h1 h2
  | agg u xs cs h1 => exact .agg u _ cs h1.fresh
  | arr u k pv cs h1 => exact .arr u k pv cs h1
  | tup xs vs h1 h2 ih =>
    refine .tup _ vs (by rw [freshenL_length]; exact h1) (fun i y v hy hv => ?_)
    obtain ⟨x, h3, h4⟩ := freshenL_get hy
    subst h4
    exact ih i x v h3 hv
mutual
theorem freshen_noids : ∀ (x : SV), idsOf x = [] → freshen stale x = x
  | .junk, _ | .undef, _ | .nil, _ | .sc _, _ | .err _, _ | .ro _ _, _ | .con _ _ _, _ | .rop _ _, _ | .arr _ _ _, _ => rfl
  | .ref _ _, h | .view _ _ _ _, h | .ptr _ _, h => by simp [idsOf] at h
  | .agg t xs, h => by rw [freshen, freshenL_noids xs (by simpa [idsOf] using h)]
  | .tup xs, h => by rw [freshen, freshenL_noids xs (by simpa [idsOf] using h)]
theorem freshenL_noids : ∀ (xs : List SV), idsOfL xs = [] → freshenL stale xs = xs
  | [], _ => rfl
  | x :: r, h => by
    simp only [idsOfL, List.append_eq_nil_iff] at h
    rw [freshenL, freshen_noids x h.1, freshenL_noids r h.2]
end
theorem idsOf_fieldsRo {f : TypeId → PV → SV} (hf : ∀ t p, idsOf (f t p) = []) : ∀ (fs : List TypeId) (pv : PV) (i : Nat), idsOfL (fieldsRo f fs pv i) = []
  | [], _, _ => rfl
  | t :: r, pv, i => by simp [fieldsRo, idsOfL, hf, idsOf_fieldsRo hf r pv (i + 1)]
theorem idsOf_reifyRo : ∀ (m : Nat) (t : TypeId) (pv : PV), idsOf (reifyRo P m t pv) = []
  | 0, _, _ => rfl
  | m + 1, t, pv => by
    unfold reifyRo
    cases tk P t <;> simp [idsOf]
    exact idsOf_fieldsRo (idsOf_reifyRo m) _ _ _
theorem idsOf_keepFs {f : TypeId → SV → PV → SV} (hf : ∀ t x p, idsOf x = [] → idsOf (f t x p) = []) : ∀ (fs : List TypeId) (xs : List SV) (pv : PV) (i : Nat), idsOfL xs = [] → idsOfL (keepFs f fs xs pv i) = []
  | [], _, _, _, _ => rfl
  | t :: r, [], pv, i, _ => by simp [keepFs, idsOfL, hf t .junk _ rfl, idsOf_keepFs hf r [] pv (i + 1) rfl]
  | t :: r, x :: xs, pv, i, h => by
    simp only [idsOfL, List.append_eq_nil_iff] at h
    simp [keepFs, idsOfL, hf t x _ h.1, idsOf_keepFs hf r xs pv (i + 1) h.2]
theorem idsOf_keepRo : ∀ (m : Nat) (t : TypeId) (x : SV) (pv : PV), idsOf x = [] → idsOf (keepRo P m t x pv) = []
  | 0, _, _, _, _ => rfl
  | m + 1, t, x, pv, h => by
    unfold keepRo
    cases tk P t with
    | slice e => exact h
    | struct fs =>
      simp only [idsOf]
      refine idsOf_keepFs (idsOf_keepRo m) _ _ _ _ ?_
      cases x <;> simp [SV.parts, idsOfL]
      simpa [idsOf] using h
    | _ => exact idsOf_reifyRo 1 t pv
theorem KeptSl.len : ∀ {n : Nat} {t : TypeId} {pv : PV} {co cn : List Value}, KeptSl P n t pv co cn → co.length = sizeOf P t → (∀ u ∈ co, one u = true) → cn.length = sizeOf P t ∧ ∀ u ∈ cn, one u = true
  | 0, _, _, _, _, h, _, _ => h.elim
  | n + 1, t, pv, co, cn, h, hl, h1 => by
    unfold KeptSl at h
    cases ht : tk P t <;> simp only [ht] at h
    case int k => obtain ⟨x, _, rfl⟩ := h; exact ⟨by rw [tk_size (by rw [ht]; simp), ht]; rfl, by simp [one, Value.oneCell']⟩
    case bool => obtain ⟨x, _, rfl⟩ := h; exact ⟨by rw [tk_size (by rw [ht]; simp), ht]; rfl, by simp [one, Value.oneCell']⟩
    case str => obtain ⟨x, _, rfl⟩ := h; exact ⟨by rw [tk_size (by rw [ht]; simp), ht]; rfl, by simp [one, Value.oneCell']⟩
    case other => obtain ⟨x, _, rfl, hx⟩ := h; exact ⟨by rw [tk_size (by rw [ht]; simp), ht]; rfl, by simpa using hx⟩
    case slice e => subst h; exact ⟨hl, h1⟩
    case struct fs =>
      obtain ⟨ps, rfl, h2⟩ := h
      have hsz : sizeOf P t = sumSz P fs := by rw [tk_size (by rw [ht]; simp), ht]; rfl
      rw [hsz] at hl ⊢
      have key : ∀ (fs : List TypeId) (ps : List PV) (co cn : List Value), KFlds P (KeptSl P n) fs ps co cn → (∀ u ∈ co, one u = true) → cn.length = sumSz P fs ∧ ∀ u ∈ cn, one u = true := by
        intro fs
        induction fs with
        | nil =>
          intro ps co cn h _
          cases ps with
          | nil => obtain ⟨_, rfl⟩ := h; exact ⟨rfl, by simp⟩
          | cons => exact h.elim
        | cons t ts ih =>
          intro ps co cn h h1
          cases ps with
          | nil => exact h.elim
          | cons p ps =>
            obtain ⟨a, a', b, b', rfl, rfl, e1, e2, e3⟩ := h
            have d1 := KeptSl.len e2 e1 (fun u hu => h1 u (by simp [hu]))
            have d2 := ih ps a' b' e3 (fun u hu => h1 u (by simp [hu]))
            refine ⟨?_, fun u hu => ?_⟩
            · simp only [List.length_append, d1.1, d2.1, sumSz, List.map_cons, List.sum_cons]
            · rcases List.mem_append.1 hu with hu | hu
              · exact d1.2 u hu
              · exact d2.2 u hu
      exact key fs ps co cn h2 h1
theorem kept_flat {m : Nat} {co cn : List Value} (h : KeptSl P (n + 1) t pv co cn) (hs : (∀ e, tk P t ≠ .slice e) ∧ ∀ fs, tk P t ≠ .struct fs) : SVc P M t (reifyRo P (m + 1) t pv) cn := by
  have : Rd P M.ok M.w 1 t pv cn := by
    unfold KeptSl at h; unfold Rd
    cases ht : tk P t <;> simp only [ht] at h ⊢
    · exact h
    · exact h
    · exact h
    · exact absurd ht (hs.1 _)
    · exact absurd ht (hs.2 _)
    · exact h
  exact reifyRo_ok this
theorem kept_arr {e : TypeId} {k0 : IntKind} (he : tk P e = .int k0) {m n : Nat} : ∀ (N : Nat) (xs : List SV) (qs : List PV) (co cn : List Value) (k : Nat) (pv : PV), KFlds P (KeptSl P n) (List.replicate N e) qs co cn → (∀ i, pv.fld (k + i) = qs.getD i default) → SVcL P M (List.replicate N e) (keepFs (keepRo P m) (List.replicate N e) xs pv k) cn
  | 0, xs, qs, co, cn, k, pv, hk, _ => by
    cases qs with
    | nil => obtain ⟨_, rfl⟩ := hk; exact .nil
    | cons => exact hk.elim
  | N + 1, xs, qs, co, cn, k, pv, hk, hq => by
    rw [List.replicate_succ] at hk ⊢
    cases qs with
    | nil => exact hk.elim
    | cons q qs =>
      obtain ⟨a, a', b, b', rfl, rfl, e2, e3, e4⟩ := hk
      have hq0 : pv.fld k = q := by simpa using hq 0
      have hsz : sizeOf P e = 1 := by rw [tk_size (by rw [he]; simp), he]; rfl
      simp only [keepFs, hq0]
      refine .cons _ _ _ _ _ _ ?_ (kept_arr he N _ qs a' b' (k + 1) pv e4 (fun i => by
        have := hq (i + 1)
        rw [show k + 1 + i = k + (i + 1) by omega, this]; simp))
      cases n with
      | zero => exact e3.elim
      | succ n =>
        cases m with
        | zero =>
          unfold KeptSl at e3
          simp only [he] at e3
          obtain ⟨x, _, rfl⟩ := e3
          exact .junk _ _ (by simp [hsz]) (by simp [one, Value.oneCell'])
        | succ m =>
          have : keepRo P (m + 1) e (xs.headD .junk) q = reifyRo P (0 + 1) e q := by unfold keepRo; simp only [he]
          rw [this]
          exact kept_flat e3 (by rw [he]; simp)
mutual
theorem kept_svc : ∀ {m n : Nat} {t : TypeId} {sv : SV} {pv p0 : PV} {co cn : List Value}, SVc P M t sv co → contT P h' t sv = some p0 → KeptSl P n t pv co cn → SVc P M t (keepRo P m t sv pv) cn
  | 0, n, t, sv, pv, p0, co, cn, h, _, hk => by
    have := hk.len h.len h.ones
    exact .junk _ _ this.1 this.2
  | m + 1, 0, t, sv, pv, p0, co, cn, h, _, hk => hk.elim
  | m + 1, n + 1, t, sv, pv, p0, co, cn, h, hc, hk => by
    unfold keepRo
    have hk0 := hk
    cases ht : tk P t with
    | slice e =>
      unfold KeptSl at hk
      simp only [ht] at hk
      subst hk; exact h
    | struct fs =>
      unfold KeptSl at hk
      simp only [ht] at hk
      obtain ⟨ps, rfl, hk⟩ := hk
      cases h with
      | junk => simp [contT] at hc
      | leaf _ _ _ _ _ _ h4 => exact absurd ht (h4 fs)
      | agg _ u fs' xs _ h1 h2 h3 =>
        rw [ht] at h1; injection h1 with h1; subst h1
        simp only [contT, ht, h2, cond_true] at hc
        cases hl : contTL P h' fs xs with
        | none => rw [hl] at hc; cases hc
        | some ps0 => exact .agg t t fs _ _ ht (alike_refl ht) (kept_svcL (k := 0) (qs := ps) h3 hl hk (fun i => by simp [PV.fld, PV.parts]))
      | arr _ u k q _ h1 h2 =>
        obtain ⟨N, e, ps', b1, b2, b3, _⟩ := h2
        have hfs : fs = List.replicate N e := by have := (alike_tk h1).symm.trans ht; rw [b2] at this; injection this with this; exact this.symm
        subst hfs
        exact .agg t t _ _ _ ht (alike_refl ht) (kept_arr b3 N _ ps _ _ 0 _ hk (fun i => by simp [PV.fld, PV.parts]))
    | int k => exact kept_flat (m := 0) hk0 (by rw [ht]; simp)
    | bool => exact kept_flat (m := 0) hk0 (by rw [ht]; simp)
    | str => exact kept_flat (m := 0) hk0 (by rw [ht]; simp)
    | other => exact kept_flat (m := 0) hk0 (by rw [ht]; simp)
    | bad => unfold KeptSl at hk; simp only [ht] at hk
theorem kept_svcL : ∀ {m n : Nat} {fs : List TypeId} {xs : List SV} {qs ps0 : List PV} {co cn : List Value} {k : Nat} {pv : PV}, SVcL P M fs xs co → contTL P h' fs xs = some ps0 → KFlds P (KeptSl P n) fs qs co cn → (∀ i, pv.fld (k + i) = qs.getD i default) → SVcL P M fs (keepFs (keepRo P m) fs xs pv k) cn
  | m, n, [], xs, qs, ps0, co, cn, k, pv, h, _, hk, _ => by
    cases qs with
    | nil => obtain ⟨_, rfl⟩ := hk; exact .nil
    | cons => exact hk.elim
  | m, n, t :: ts, xs, qs, ps0, co, cn, k, pv, h, hc, hk, hq => by
    cases h with
    | cons _ _ x xs c cs h1 h2 =>
      cases qs with
      | nil => exact hk.elim
      | cons q qs =>
        obtain ⟨a, a', b, b', e1, rfl, e2, e3, e4⟩ := hk
        have hcl := h1.len
        obtain ⟨rfl, rfl⟩ := List.append_inj e1 (by rw [hcl, e2])
        simp only [contTL] at hc
        cases hx : contT P h' t x with
        | none => rw [hx] at hc; cases hc
        | some p1 =>
          cases hl : contTL P h' ts xs with
          | none => rw [hx, hl] at hc; cases hc
          | some ps1 =>
            have hq0 : pv.fld k = q := by simpa using hq 0
            simp only [keepFs, hq0, List.headD_cons, List.tail_cons]
            exact .cons _ _ _ _ _ _ (kept_svc h1 hx e3) (kept_svcL h2 hl e4 (fun i => by
              have := hq (i + 1)
              rw [show k + 1 + i = k + (i + 1) by omega, this]; simp))
end
/-- What is lent, by number and place. -/
def LentId (P : Program) (M : Mm) (h' : Nat → Own) (x : Nat × List Stp) (r : Row) : Prop := match r.box with
  | false => ∃ u q, M.oh x.1 = .row u q ∧ ∀ {w' : World} {v' : PV} {G : List Nat} {n' : Nat}, (∀ k ∈ M.G.ft x.1, k ∉ r.ft → w'.heap[k]? = M.w.heap[k]?) → Ow P w' n' r.t v' [r.hd] G →
      ∃ N F1, Ow P w' N u (q.setAt x.2 v') [M.G.hnd x.1] F1 ∧ (∀ y ∈ F1, (y ∈ M.G.ft x.1 ∧ y ∉ r.ft) ∨ y ∈ G) ∧ (G.Nodup → (∀ y ∈ G, y ∈ M.G.ft x.1 → y ∈ r.ft) → F1.Nodup)
  | true => r.hd = M.G.hnd x.1 ∧ r.ft = M.G.ft x.1 ∧ ∃ sv p0, M.oh x.1 = .box r.t sv ∧ idsOf sv = [] ∧ contT P h' r.t sv = some p0 ∧ BoxC M.w r.t r.hd r.ft r.cs ∧ SVc P M r.t sv r.cs
def LentIds (P : Program) (M : Mm) (h' : Nat → Own) : List (Nat × List Stp) → List Row → Prop
  | [], [] => True
  | x :: l, r :: L => (∀ k ∈ r.ft, k ∈ M.G.ft x.1) ∧ r.ft.Nodup ∧ LentId P M h' x r ∧ LentIds P M h' l L
  | _, _ => False
theorem LentIds.sub : ∀ {l : List (Nat × List Stp)} {L : List Row}, LentIds P M h' l L → ∀ k ∈ L.flatMap (·.ft), ∃ x ∈ l, k ∈ M.G.ft x.1
  | [], [], _, k, hk => by simp at hk
  | x :: l, r :: L, ⟨h1, _, _, h4⟩, k, hk => by
    simp only [List.flatMap_cons, List.mem_append] at hk
    rcases hk with hk | hk
    · exact ⟨x, List.mem_cons_self, h1 k hk⟩
    · obtain ⟨y, hy, h⟩ := LentIds.sub h4 k hk
      exact ⟨y, List.mem_cons_of_mem _ hy, h⟩
  | [], _ :: _, h, _, _ => h.elim
  | _ :: _, [], h, _, _ => h.elim
theorem LentIds.nodup (hm : Mem P C M) : ∀ {l : List (Nat × List Stp)} {L : List Row}, LentIds P M h' l L → (l.map (·.1)).Nodup → (L.flatMap (·.ft)).Nodup
  | [], [], _, _ => by simp
  | x :: l, r :: L, ⟨h1, h2, _, h4⟩, hnd => by
    rw [List.map_cons, List.nodup_cons] at hnd
    rw [List.flatMap_cons, List.nodup_append]
    refine ⟨h2, LentIds.nodup hm h4 hnd.2, fun i hi j hj he => ?_⟩
    subst he
    obtain ⟨y, hy, hk⟩ := LentIds.sub h4 i hj
    exact hm.dj x.1 y.1 (fun he => hnd.1 (he ▸ List.mem_map.2 ⟨y, hy, rfl⟩)) i (h1 i hi) hk
  | [], _ :: _, h, _ => h.elim
  | _ :: _, [], h, _ => h.elim
theorem LentIds.there : ∀ {l : List (Nat × List Stp)} {L : List Row}, LentIds P M h' l L → ∀ i ∈ l.map (·.1), M.oh i ≠ .free
  | [], [], _, i, hi => by cases hi
  | x :: l, r :: L, ⟨_, _, h3, h4⟩, i, hi => by
    rcases List.mem_cons.1 hi with rfl | hi
    · unfold LentId at h3
      split at h3
      · obtain ⟨u, q, h, _⟩ := h3; rw [h]; simp
      · obtain ⟨_, _, sv, p0, h, _⟩ := h3; rw [h]; simp
    · exact LentIds.there h4 i hi
  | [], _ :: _, h, _, _ => h.elim
  | _ :: _, [], h, _, _ => h.elim
/-- A thing lent, behind the call. -/
def LentC (P : Program) (M : Mm) (w' : World) (h' : Nat → Own) (id : Nat) (c : Chg) : Prop :=
  c.hd = M.G.hnd id ∧ ((∃ u q q0, c.ob = .row u q ∧ M.oh id = .row u q0 ∧ ∃ n, Ow P w' n u q [c.hd] c.ft) ∨
    (∃ u sv sv0 cs, c.ob = .box u sv ∧ M.oh id = .box u sv0 ∧ idsOf sv = [] ∧ BoxC w' u c.hd c.ft cs ∧ SVc P M u sv cs))
theorem lent_ok (hm : Mem P C M) : ∀ {l : List (Nat × List Stp)} {L : List Row} {outs : List PV} {Gs : List (List Nat)}, LentIds P M h' l L → (l.map (·.1)).Nodup → (∀ i ∈ l.map (·.1), h' i = M.oh i) → LentAt P w L outs Gs → Gs.flatten.Nodup →
    (∀ y ∈ Gs.flatten, ∀ i ∈ l.map (·.1), y ∈ M.G.ft i → y ∈ L.flatMap (·.ft)) → (∀ i ∈ l.map (·.1), ∀ k ∈ M.G.ft i, k ∉ L.flatMap (·.ft) → w.heap[k]? = M.w.heap[k]?) →
    ∃ K : List (Nat × Chg), K.map (fun x => (x.1, x.2.ob)) = wrote P h' l outs ∧ K.map (·.1) = l.map (·.1) ∧ (K.flatMap (·.2.ft)).Nodup ∧ (∀ y ∈ K.flatMap (·.2.ft), y ∈ Gs.flatten ∨ ((∃ i ∈ l.map (·.1), y ∈ M.G.ft i) ∧ y ∉ L.flatMap (·.ft))) ∧ ∀ x ∈ K, LentC P M w h' x.1 x.2
  | [], [], outs, Gs, _, _, _, h, _, _, _ => by
    have : Gs = [] := h
    subst this
    exact ⟨[], rfl, rfl, by simp, by simp, by simp⟩
  | x :: l, r :: L, outs, _, ⟨h1, h2, h3, h5⟩, hnd, hh, ⟨G, Gs', rfl, h6, h7⟩, hGn, hsep, hkeep => by
    rw [List.map_cons, List.nodup_cons] at hnd
    rw [List.flatten_cons, List.nodup_append] at hGn
    have hother : ∀ y, y ∈ M.G.ft x.1 → y ∉ L.flatMap (·.ft) := fun y hy hL => by
      obtain ⟨z, hz, hk⟩ := LentIds.sub h5 y hL
      exact hm.dj x.1 z.1 (fun he => hnd.1 (he ▸ List.mem_map.2 ⟨z, hz, rfl⟩)) y hy hk
    have hhere : ∀ i ∈ l.map (·.1), ∀ y, y ∈ M.G.ft i → y ∉ r.ft := fun i hi y hy hr =>
      hm.dj x.1 i (fun he => hnd.1 (he ▸ hi)) y (h1 y hr) hy
    obtain ⟨K, k1, k2, k3, k5, k4⟩ := lent_ok hm h5 hnd.2 (fun i hi => hh i (List.mem_cons_of_mem _ hi)) h7 hGn.2.1
      (fun y hy i hi hk => by
        have := hsep y (by simp only [List.flatten_cons, List.mem_append]; exact .inr hy) i (List.mem_cons_of_mem _ hi) hk
        simp only [List.flatMap_cons, List.mem_append] at this
        exact this.resolve_left (hhere i hi y hk))
      (fun i hi k hk hn => hkeep i (List.mem_cons_of_mem _ hi) k hk (by
        simp only [List.flatMap_cons, List.mem_append]
        rintro (h | h)
        · exact hhere i hi k hk h
        · exact hn h))
    have hG : ∀ y ∈ G, y ∈ M.G.ft x.1 → y ∈ r.ft := fun y hy hk => by
      have := hsep y (by simp only [List.flatten_cons, List.mem_append]; exact .inl hy) x.1 (by simp) hk
      simp only [List.flatMap_cons, List.mem_append] at this
      exact this.resolve_right (hother y hk)
    have fin : ∀ (ob : Own) (F1 : List Nat), (∀ y ∈ F1, (y ∈ M.G.ft x.1 ∧ y ∉ r.ft) ∨ y ∈ G) → F1.Nodup → LentC P M w h' x.1 ⟨ob, M.G.hnd x.1, F1⟩ → (x.1, ob) :: wrote P h' l outs.tail = wrote P h' (x :: l) outs →
        ∃ K : List (Nat × Chg), K.map (fun x => (x.1, x.2.ob)) = wrote P h' (x :: l) outs ∧ K.map (·.1) = (x :: l).map (·.1) ∧ (K.flatMap (·.2.ft)).Nodup ∧ (∀ y ∈ K.flatMap (·.2.ft), y ∈ (G :: Gs').flatten ∨ ((∃ i ∈ (x :: l).map (·.1), y ∈ M.G.ft i) ∧ y ∉ (r :: L).flatMap (·.ft))) ∧ ∀ x ∈ K, LentC P M w h' x.1 x.2 := fun ob F1 f1 f2 f3 f4 => by
      refine ⟨(x.1, ⟨ob, M.G.hnd x.1, F1⟩) :: K, by rw [List.map_cons, k1]; exact f4, by simp [k2], ?_, fun y hy => ?_, fun z hz => ?_⟩
      · rw [List.flatMap_cons, List.nodup_append]
        refine ⟨f2, k3, fun a ha b hb he => ?_⟩
        subst he
        rcases f1 a ha with ⟨ha1, ha2⟩ | ha1
        · rcases k5 a hb with hb1 | ⟨⟨i, hi, hb1⟩, _⟩
          · have := hsep a (by simp only [List.flatten_cons, List.mem_append]; exact .inr hb1) x.1 (by simp) ha1
            simp only [List.flatMap_cons, List.mem_append] at this
            rcases this with h | h
            · exact ha2 h
            · exact hother a ha1 h
          · exact hm.dj x.1 i (fun he => hnd.1 (he ▸ hi)) a ha1 hb1
        · rcases k5 a hb with hb1 | ⟨⟨i, hi, hb1⟩, hb2⟩
          · exact hGn.2.2 a ha1 a hb1 rfl
          · have := hsep a (by simp only [List.flatten_cons, List.mem_append]; exact .inl ha1) i (List.mem_cons_of_mem _ hi) hb1
            simp only [List.flatMap_cons, List.mem_append] at this
            rcases this with h | h
            · exact hhere i hi a hb1 h
            · exact hb2 h
      · simp only [List.flatMap_cons, List.mem_append] at hy ⊢
        simp only [List.flatten_cons, List.mem_append, List.map_cons, List.mem_cons]
        rcases hy with hy | hy
        · rcases f1 y hy with ⟨h, h'⟩ | h
          · exact .inr ⟨⟨x.1, .inl rfl, h⟩, fun hc => hc.elim h' (hother y h)⟩
          · exact .inl (.inl h)
        · rcases k5 y hy with h | ⟨⟨i, hi, h⟩, h'⟩
          · exact .inl (.inr h)
          · exact .inr ⟨⟨i, .inr hi, h⟩, fun hc => hc.elim (hhere i hi y h) h'⟩
      · rcases List.mem_cons.1 hz with rfl | hz
        · exact f3
        · exact k4 z hz
    cases hb : r.box with
    | false =>
      simp only [LentId, hb] at h3
      simp only [LentAt1, hb] at h6
      obtain ⟨u, q, h3, hz⟩ := h3
      obtain ⟨n, h6⟩ := h6
      have hid : h' x.1 = .row u q := (hh x.1 (by simp)).trans h3
      obtain ⟨N, F1, z1, z2, z3⟩ := hz (fun k hk hn => hkeep x.1 (by simp) k hk (by
        simp only [List.flatMap_cons, List.mem_append]
        rintro (h | h)
        · exact hn h
        · exact hother k hk h)) h6
      refine fin (.row u (q.setAt x.2 (outs.headD default))) F1 z2 (z3 hGn.1 hG) ⟨rfl, .inl ⟨u, _, q, rfl, h3, N, z1⟩⟩ ?_
      obtain ⟨id, p⟩ := x
      simp only [wrote, hid]
    | true =>
      simp only [LentId, hb] at h3
      simp only [LentAt1, hb] at h6
      obtain ⟨hd1, hft1, sv, p0, h3, hno, hc, hbx, hsv⟩ := h3
      obtain ⟨cs, n, h6, hk⟩ := h6
      have hid : h' x.1 = .box r.t sv := (hh x.1 (by simp)).trans h3
      refine fin (.box r.t (keepRo P 8 r.t sv (outs.headD default))) G (fun y hy => .inr hy) hGn.1 ⟨rfl, .inr ⟨r.t, _, sv, cs, rfl, h3, idsOf_keepRo 8 _ _ _ hno, hd1 ▸ h6, kept_svc hsv hc hk⟩⟩ ?_
      obtain ⟨id, p⟩ := x
      simp only [wrote, hid]
  | [], _ :: _, _, _, h, _, _, _, _, _, _ => h.elim
  | _ :: _, [], _, _, h, _, _, _, _, _, _ => h.elim
theorem ArgsAt.mono (hok : ∀ k, ok k → ok' k) : ∀ {ms : List (TypeId × Mode)} {vs : List Value} {ps : List PV} {F : List Nat} {L : List Row}, ArgsAt P ok w ms vs ps F L → ArgsAt P ok' w ms vs ps F L
  | [], [], [], _, _, h => h
  | (t, .ro) :: ms, v :: vs, p :: ps, F, L, ⟨⟨n, cs, h1, h2⟩, h3⟩ => ⟨⟨n, cs, h1.mono hok, h2⟩, ArgsAt.mono hok h3⟩
  | (t, .own) :: ms, v :: vs, p :: ps, F, L, ⟨F1, F2, h1, h2, h3⟩ => ⟨F1, F2, h1, h2, ArgsAt.mono hok h3⟩
  | (t, .mut) :: ms, v :: vs, p :: ps, F, L, ⟨r, L', h1, h2, h3, h4, h5, h6⟩ => ⟨r, L', h1, h2, h3, h4, h5, ArgsAt.mono hok h6⟩
  | (t, .box) :: ms, v :: vs, p :: ps, F, L, ⟨r, L', h1, h2, h3, h4, ⟨n, h5⟩, h6⟩ => ⟨r, L', h1, h2, h3, h4, ⟨n, h5.mono hok⟩, ArgsAt.mono hok h6⟩
  | (t, .mut2) :: ms, v :: vs, p :: ps, F, L, ⟨r1, r2, L', t1, t2, a, b, p1, p2, h1, h2, h3, h4, h5, h6, h7, h8, h9⟩ => ⟨r1, r2, L', t1, t2, a, b, p1, p2, h1, h2, h3, h4, h5, h6, h7, h8, ArgsAt.mono hok h9⟩
  | (t, .muts) :: ms, v :: vs, p :: ps, F, L, ⟨M, L', cs, fs, h1, h2, h3, h4, h5⟩ => ⟨M, L', cs, fs, h1, h2, h3, h4, ArgsAt.mono hok h5⟩
  | (_, .muts) :: _, [], _, _, _, h => h.elim
  | (_, .muts) :: _, _ :: _, [], _, _, h => h.elim
  | (_, .mut2) :: _, [], _, _, _, h => h.elim
  | (_, .mut2) :: _, _ :: _, [], _, _, h => h.elim
  | [], _ :: _, _, _, _, h => h.elim
  | [], [], _ :: _, _, _, h => h.elim
  | (_, .ro) :: _, [], _, _, _, h => h.elim
  | (_, .own) :: _, [], _, _, _, h => h.elim
  | (_, .mut) :: _, [], _, _, _, h => h.elim
  | (_, .box) :: _, [], _, _, _, h => h.elim
  | (_, .box) :: _, _ :: _, [], _, _, h => h.elim
  | (_, .ro) :: _, _ :: _, [], _, _, h => h.elim
  | (_, .own) :: _, _ :: _, [], _, _, h => h.elim
  | (_, .mut) :: _, _ :: _, [], _, _, h => h.elim
theorem mut_one (hm : Mem P C M) {id : Nat} {p : List Stp} {u : TypeId} {q : PV} {e : TypeId} (hs : Leaf P M (.ref id p) v) (ho : M.oh id = .row u q) (ht : tk P t = .slice e) (hal : alike P t (tyAt P u p) = true) :
    ∃ r : Row, (r.box = false ∧ r.t = t) ∧ r.hd = v ∧ (∃ n, Ow P M.w n t (q.at p) [v] r.ft) ∧ (∀ k ∈ r.ft, k ∈ M.G.ft id) ∧ r.ft.Nodup ∧ LentId P M h' (id, p) r := by
  have hlf := hs
  simp only [Leaf, ho] at hlf
  obtain ⟨n, hn⟩ := hm.row id _ _ ho
  rcases hlf with ⟨rfl, hv⟩ | ⟨ad, t', e', hp, ht', hcell⟩
  · refine ⟨⟨false, t, v, M.G.ft id, []⟩, ⟨rfl, rfl⟩, rfl, ⟨n, ?_⟩, fun k hk => hk, hm.nd id, ⟨u, q, ho, fun {w' v' G n'} _ h6 => ?_⟩⟩
    · rw [hv]; exact hn.alike (alike_symm hal)
    · refine ⟨n', G, ?_, fun y hy => .inr hy, fun h _ => h⟩
      rw [← hv]; exact h6.alike hal
  · obtain ⟨m1, cs', Fi, z1, z2, z3, z4, z5⟩ := hn.zipH (hm.nd id) hp
    have htt := hp.ty
    subst htt
    have hcs : cs' = [v] := by
      have hlen := z1.len
      rw [tk_size (by rw [ht']; simp), ht'] at hlen
      simp only [TK.sz] at hlen
      obtain ⟨v0, rfl⟩ : ∃ v0, cs' = [v0] := by
        match cs', hlen with
        | [x], _ => exact ⟨x, rfl⟩
      have := z2 0 v0 rfl
      rw [add_zero, hcell] at this
      injection this with this
      rw [this]
    subst hcs
    exact ⟨⟨false, t, v, Fi, []⟩, ⟨rfl, rfl⟩, rfl, ⟨m1, z1.alike (alike_symm hal)⟩, z3, z4, ⟨u, q, ho, fun {w' v' G n'} hw h6 => z5 hw (h6.alike hal)⟩⟩
theorem LentIds.append : ∀ {l l' : List (Nat × List Stp)} {L L' : List Row}, LentIds P M h' l L → LentIds P M h' l' L' → LentIds P M h' (l ++ l') (L ++ L')
  | [], l', [], L', _, h => h
  | x :: l, l', r :: L, L', ⟨h1, h2, h3, h4⟩, h => ⟨h1, h2, h3, LentIds.append h4 h⟩
  | [], _, _ :: _, _, h, _ => h.elim
  | _ :: _, _, [], _, h, _ => h.elim
mutual
theorem lend_ok (hm : Mem P C M) : ∀ (n : Nat) {t : TypeId} {x : SV} {p : PV} {m1 : List (Nat × List Stp)} {cs : List Value}, SVc P M t x cs → lendT P h' n t x = some (p, m1) → (∀ i ∈ idsOf x, h' i = M.oh i) →
    ∃ L1, LendAt P M.w n t p cs L1 ∧ LentIds P M h' m1 L1 ∧ ∀ i ∈ m1.map (·.1), i ∈ idsOf x
  | 0, t, x, p, m1, cs, hs, hl, _ => by simp [lendT] at hl
  | n + 1, t, x, p, m1, cs, hs, hl, hh => by
    unfold lendT at hl
    unfold LendAt
    cases ht : tk P t with
    | slice e =>
      simp only [ht] at hl ⊢
      cases x with
      | ref i q =>
        simp only at hl
        split at hl
        case h_2 => cases hl
        rename_i u v ho
        rw [hh i (by simp [idsOf])] at ho
        cases hal : alike P t (tyAt P u q) <;> simp only [hal, cond_true, cond_false] at hl
        · cases hl
        · simp at hl
          obtain ⟨rfl, rfl⟩ := hl
          cases hs with
          | leaf _ _ w1 f1 _ _ _ =>
            obtain ⟨ra, g1, g2, g3, g4, g5, g6⟩ := mut_one (h' := h') hm f1 ho ht hal
            exact ⟨[ra], ⟨w1, ra, rfl, rfl, g1, g2, g3⟩, ⟨g4, g5, g6, trivial⟩, fun j hj => by simpa [idsOf] using hj⟩
      | _ => simp at hl
    | struct fs =>
      simp only [ht] at hl ⊢
      cases x with
      | agg u xs =>
        simp only at hl
        cases hal : alike P t u <;> simp only [hal, cond_true, cond_false] at hl
        · cases hl
        · split at hl
          case h_2 => cases hl
          rename_i ps m hf
          simp at hl
          obtain ⟨rfl, rfl⟩ := hl
          cases hs with
          | agg _ _ fs' _ _ h1 h2 h3 =>
            rw [ht] at h1
            injection h1 with h1
            subst h1
            obtain ⟨L1, a1, a2, a3⟩ := lend_oks hm n h3 hf (fun i hi => hh i (by simpa [idsOf] using hi))
            exact ⟨L1, ⟨ps, rfl, a1⟩, a2, fun i hi => by simpa [idsOf] using a3 i hi⟩
          | leaf _ _ _ f1 _ _ f4 => exact absurd ht (f4 fs)
      | _ => simp at hl
    | int k =>
      simp only [ht] at hl ⊢
      cases x with
      | sc v =>
        cases v with
        | int k' a =>
          simp only at hl
          split at hl
          case isFalse => cases hl
          rename_i hk
          simp at hl
          obtain ⟨rfl, rfl⟩ := hl
          cases hs with
          | leaf _ _ w1 f1 _ _ _ =>
            have : w1 = .int k' a := f1
            subst this
            exact ⟨[], ⟨⟨a, rfl, by rw [hk]⟩, rfl⟩, trivial, by simp⟩
        | _ => simp at hl
      | _ => simp at hl
    | bool =>
      simp only [ht] at hl ⊢
      cases x with
      | sc v =>
        cases v with
        | bool a =>
          simp at hl
          obtain ⟨rfl, rfl⟩ := hl
          cases hs with
          | leaf _ _ w1 f1 _ _ _ =>
            have : w1 = .bool a := f1
            subst this
            exact ⟨[], ⟨⟨a, rfl, rfl⟩, rfl⟩, trivial, by simp⟩
        | _ => simp at hl
      | _ => simp at hl
    | str =>
      simp only [ht] at hl ⊢
      cases x with
      | sc v =>
        cases v with
        | string a =>
          simp at hl
          obtain ⟨rfl, rfl⟩ := hl
          cases hs with
          | leaf _ _ w1 f1 _ _ _ =>
            have : w1 = .string a := f1
            subst this
            exact ⟨[], ⟨⟨a, rfl, rfl⟩, rfl⟩, trivial, by simp⟩
        | _ => simp at hl
      | _ => simp at hl
    | other => simp [ht] at hl
    | bad => simp [ht] at hl
theorem lend_oks (hm : Mem P C M) : ∀ (n : Nat) {fs : List TypeId} {xs : List SV} {ps : List PV} {m1 : List (Nat × List Stp)} {cs : List Value}, SVcL P M fs xs cs → lendFs (lendT P h' n) fs xs = some (ps, m1) → (∀ i ∈ idsOfL xs, h' i = M.oh i) →
    ∃ L1, LendFs (LendAt P M.w n) fs ps cs L1 ∧ LentIds P M h' m1 L1 ∧ ∀ i ∈ m1.map (·.1), i ∈ idsOfL xs
  | n, [], xs, ps, m1, cs, hs, hl, _ => by
    cases hs
    simp [lendFs] at hl
    obtain ⟨rfl, rfl⟩ := hl
    exact ⟨[], ⟨rfl, rfl⟩, trivial, by simp⟩
  | n, t :: ts, xs, ps, m1, cs, hs, hl, hh => by
    cases hs with
    | cons _ _ x xs c cs h1 h2 =>
      simp only [lendFs] at hl
      split at hl
      case h_2 => cases hl
      rename_i p m ps' m' hx hf
      simp at hl
      obtain ⟨rfl, rfl⟩ := hl
      obtain ⟨L1, a1, a2, a3⟩ := lend_ok hm n h1 hx (fun i hi => hh i (by simp [idsOfL, hi]))
      obtain ⟨L2, b1, b2, b3⟩ := lend_oks hm n h2 hf (fun i hi => hh i (by simp [idsOfL, hi]))
      refine ⟨L1 ++ L2, ⟨c, cs, L1, L2, rfl, rfl, a1, b1⟩, LentIds.append a2 b2, fun i hi => ?_⟩
      rw [List.map_append, List.mem_append] at hi
      rcases hi with hi | hi
      · simp [idsOfL, a3 i hi]
      · simp [idsOfL, b3 i hi]
end
theorem lend_top (hm : Mem P C M) {t : TypeId} {x : SV} {v : Value} {p : PV} {m1 : List (Nat × List Stp)} (hs : Slot P M x v) (hh : ∀ i ∈ idsOf x, h' i = M.oh i) (hl : lendS P h' t x = some (p, m1)) :
    ∃ cs L1 fs, tk P t = .struct fs ∧ v = .agg cs.toArray ∧ LendAt P M.w 8 t p cs L1 ∧ LentIds P M h' m1 L1 ∧ ∀ i ∈ m1.map (·.1), i ∈ idsOf x := by
  unfold lendS at hl
  split at hl
  case h_2 => cases hl
  rename_i fs ht
  have hl0 := hl
  unfold lendT at hl0
  simp only [ht] at hl0
  cases x with
  | agg u xs =>
    simp only at hl0
    cases hal : alike P t u <;> simp only [hal, cond_true, cond_false] at hl0
    · cases hl0
    · obtain ⟨cs, hv, hcl⟩ := agg_inv hs ht hal
      obtain ⟨L1, a1, a2, a3⟩ := lend_ok hm 8 (.agg t u fs xs cs.toList ht hal hcl) hl hh
      exact ⟨cs.toList, L1, fs, ht, by rw [hv], a1, a2, a3⟩
  | _ => simp at hl0
theorem args_ok (hm : Mem P C M) : ∀ {ms : List (TypeId × Mode)} {xs : List SV} {vs : List Value} {ps : List PV} {l : List Nat} {m : List (Nat × List Stp)}, Slots P M xs vs → (∀ id ∈ idsOfL xs, h' id = M.oh id) → argsOf P h' ms xs = some (ps, l, m) →
    ∃ L, ArgsAt P (okOf M (roIds ms xs)) M.w ms vs ps (l.flatMap M.G.ft) L ∧ LentIds P M h' m L ∧ (∀ i ∈ l, ∃ u q, M.oh i = .row u q) ∧ (∀ i ∈ m.map (·.1), i ∈ idsOfL xs)
  | [], [], [], ps, l, m, _, _, hc => by
    simp [argsOf] at hc
    obtain ⟨rfl, rfl, rfl⟩ := hc
    exact ⟨[], ⟨rfl, rfl⟩, trivial, by simp, by simp⟩
  | (t, .ro) :: ms, x :: xs, v :: vs, ps, l, m, ⟨hs1, hs2⟩, hh, hc => by
    simp only [argsOf] at hc
    split at hc
    · rename_i p ps' l' m' hx hl
      simp at hc
      obtain ⟨rfl, rfl, rfl⟩ := hc
      obtain ⟨L, a1, a2, a3, a4⟩ := args_ok hm hs2 (fun id hi => hh id (by simp [idsOfL, hi])) hl
      obtain ⟨n, cs, b1, b2⟩ := cont_val hm hs1 (fun id hi => hh id (by simp [idsOfL, hi])) hx
      have up : ∀ {l1 l2 : List Nat}, (∀ i ∈ l1, i ∈ l2) → ∀ k, okOf M l1 k → okOf M l2 k := fun hs k hk => hk.imp id (fun ⟨i, hi, hk⟩ => ⟨i, hs i hi, hk⟩)
      exact ⟨L, ⟨⟨n, cs, b1.mono (up (fun i hi => by simp [roIds, hi])), b2⟩, a1.mono (up (fun i hi => by simp [roIds, hi]))⟩, a2, a3, fun i hi => by simp [idsOfL, a4 i hi]⟩
    · cases hc
  | (t, .own) :: ms, x :: xs, v :: vs, ps, l, m, ⟨hs1, hs2⟩, hh, hc => by
    simp only [argsOf] at hc
    split at hc
    · rename_i p q ps' l' m' hx hl
      simp at hc
      obtain ⟨rfl, rfl, rfl⟩ := hc
      obtain ⟨L, a1, a2, a3, a4⟩ := args_ok hm hs2 (fun id hi => hh id (by simp [idsOfL, hi])) hl
      obtain ⟨b1, b2⟩ := take_val hm hs1 (fun id hi => hh id (by simp [idsOfL, hi])) hx
      refine ⟨L, ⟨q.flatMap M.G.ft, l'.flatMap M.G.ft, by simp, b1, by simpa [roIds] using a1⟩, a2, fun i hi => ?_, fun i hi => by simp [idsOfL, a4 i hi]⟩
      rcases List.mem_append.1 hi with hi | hi
      · exact (b2 i hi).2
      · exact a3 i hi
    · cases hc
  | (t, .mut) :: ms, x :: xs, v :: vs, ps, l, m, ⟨hs1, hs2⟩, hh, hc => by
    cases x with
    | ref id p =>
      have hid := hh id (by simp [idsOfL, idsOf])
      simp only [argsOf] at hc
      split at hc
      · rename_i e u q ps' l' m' ht ho hl
        rw [hid] at ho
        cases hal : alike P t (tyAt P u p) <;> simp only [hal, cond_true, cond_false] at hc
        · cases hc
        · simp at hc
          obtain ⟨rfl, rfl, rfl⟩ := hc
          obtain ⟨L, a1, a2, a3, a4⟩ := args_ok hm hs2 (fun i hi => hh i (by simp [idsOfL, hi])) hl
          have hlf := (hs1.leaf_inv (by simp) (by simp) (by simp) (by simp) (by simp)).1
          simp only [Leaf, ho] at hlf
          obtain ⟨n, hn⟩ := hm.row id _ _ ho
          have hmem : ∀ i ∈ ((id, p) :: m').map (·.1), i ∈ idsOfL (.ref id p :: xs) := fun i hi => by
            rcases List.mem_cons.1 hi with rfl | hi
            · simp [idsOfL, idsOf]
            · simp [idsOfL, a4 i hi]
          rcases hlf with ⟨rfl, hv⟩ | ⟨ad, t', e', hp, ht', hcell⟩
          · refine ⟨⟨false, t, v, M.G.ft id, []⟩ :: L, ⟨_, _, rfl, ⟨rfl, rfl⟩, rfl, ⟨e, ht⟩, ⟨n, ?_⟩, by simpa [roIds] using a1⟩, ⟨fun k hk => hk, hm.nd id, ⟨u, q, ho, fun {w' v' G n'} _ h6 => ?_⟩, a2⟩, a3, hmem⟩
            · rw [hv]; exact hn.alike (alike_symm hal)
            · refine ⟨n', G, ?_, fun y hy => .inr hy, fun h _ => h⟩
              rw [← hv]; exact h6.alike hal
          · obtain ⟨m1, cs', Fi, z1, z2, z3, z4, z5⟩ := hn.zipH (hm.nd id) hp
            have htt := hp.ty
            subst htt
            have hcs : cs' = [v] := by
              have hlen := z1.len
              rw [tk_size (by rw [ht']; simp), ht'] at hlen
              simp only [TK.sz] at hlen
              obtain ⟨v0, rfl⟩ : ∃ v0, cs' = [v0] := by
                match cs', hlen with
                | [x], _ => exact ⟨x, rfl⟩
              have := z2 0 v0 rfl
              rw [add_zero, hcell] at this
              injection this with this
              rw [this]
            subst hcs
            refine ⟨⟨false, t, v, Fi, []⟩ :: L, ⟨_, _, rfl, ⟨rfl, rfl⟩, rfl, ⟨e, ht⟩, ⟨m1, z1.alike (alike_symm hal)⟩, by simpa [roIds] using a1⟩, ⟨z3, z4, ⟨u, q, ho, fun {w' v' G n'} hw h6 => z5 hw (h6.alike hal)⟩, a2⟩, a3, hmem⟩
      · cases hc
    | _ => simp [argsOf] at hc
  | (t, .box) :: ms, x :: xs, v :: vs, ps, l, m, ⟨hs1, hs2⟩, hh, hc => by
    cases x with
    | ptr id p => cases p with
      | cons s r => simp [argsOf] at hc
      | nil =>
        have hid := hh id (by simp [idsOfL, idsOf])
        simp only [argsOf] at hc
        split at hc
        · rename_i u u' sv ps' l' m' ht ho hl
          rw [hid] at ho
          cases hal : (Nat.beq u u' && isNil (idsOf sv) && Nat.blt (sizeOf P u) 4096) <;> simp only [hal, cond_true, cond_false] at hc
          · cases hc
          · simp only [Bool.and_eq_true, Nat.blt_eq] at hal
            obtain ⟨⟨hu, hno⟩, hsz⟩ := hal
            have hu' : u = u' := Nat.beq_eq.mp hu
            subst hu'
            have hno' : idsOf sv = [] := by cases h : idsOf sv <;> rw [h] at hno <;> first | rfl | cases hno
            split at hc
            · rename_i pv hcv
              simp at hc
              obtain ⟨rfl, rfl, rfl⟩ := hc
              obtain ⟨L, a1, a2, a3, a4⟩ := args_ok hm hs2 (fun i hi => hh i (by simp [idsOfL, hi])) hl
              have hlf := (hs1.leaf_inv (by simp) (by simp) (by simp) (by simp) (by simp)).1
              simp only [Leaf, ho] at hlf
              obtain ⟨g, o, t', e1, e2, e3⟩ := hlf
              obtain ⟨_, rfl⟩ := e3
              obtain ⟨g', bcs, b1, b2, b3, b4⟩ := hm.box id u sv ho
              rw [e1] at b1; injection b1 with b1; injection b1 with b1; injection b1 with b1
              subst b1
              have hv : v = M.G.hnd id := e2.trans e1.symm
              obtain ⟨n, hrd⟩ := cont_svc hm b4 (by rw [hno']; simp) hcv
              rw [hno'] at hrd
              have hbx : BoxC M.w u v (M.G.ft id) bcs.toList := ⟨g, bcs, e2, b2, b3, rfl⟩
              refine ⟨⟨true, u, v, M.G.ft id, bcs.toList⟩ :: L, ⟨_, _, rfl, ⟨rfl, ht, hsz⟩, rfl, hbx, ⟨n, hrd.mono (fun k hk => ?_)⟩, by simpa [roIds] using a1⟩, ⟨fun k hk => hk, hm.nd id, ⟨hv, rfl, sv, pv, ho, hno', hcv, hbx, b4⟩, a2⟩, a3, fun i hi => ?_⟩
              · exact hk.imp (fun h => h) (fun ⟨i, hi, _⟩ => by cases hi)
              · rcases List.mem_cons.1 hi with rfl | hi
                · simp [idsOfL, idsOf]
                · simp [idsOfL, a4 i hi]
            · cases hc
        · cases hc
    | _ => simp [argsOf] at hc
  | (t, .mut2) :: ms, x :: xs, v :: vs, ps, l, m, ⟨hs1, hs2⟩, hh, hc => by
    simp only [argsOf] at hc
    split at hc
    case h_2 => cases hc
    rename_i p m1 ps' l' m' hx hl
    simp at hc
    obtain ⟨rfl, rfl, rfl⟩ := hc
    obtain ⟨L, a1, a2, a3, a4⟩ := args_ok hm hs2 (fun i hi => hh i (by simp [idsOfL, hi])) hl
    unfold arg2 at hx
    split at hx
    case h_2 => cases hx
    rename_i u i q1 j q2 t1 t2 ht
    split at hx
    case h_2 => cases hx
    rename_i u1 v1 u2 v2 e1 e2 ho1 ho2 ht1 ht2
    rw [hh i (by simp [idsOfL, idsOf])] at ho1
    rw [hh j (by simp [idsOfL, idsOf])] at ho2
    cases hal : (alike P t u && (alike P t1 (tyAt P u1 q1) && alike P t2 (tyAt P u2 q2))) <;> simp only [hal, cond_true, cond_false] at hx
    · cases hx
    simp only [Bool.and_eq_true] at hal
    obtain ⟨hal, hal1, hal2⟩ := hal
    simp at hx
    obtain ⟨rfl, rfl⟩ := hx
    obtain ⟨cs, rfl, hcl⟩ := agg_inv hs1 ht hal
    generalize hcs : cs.toList = cl at hcl
    cases hcl with
    | cons _ _ _ _ c1 r1 b1 b2 =>
    cases b2 with
    | cons _ _ _ _ c2 r2 d1 d2 =>
    cases d2
    cases b1 with
    | leaf _ _ w1 f1 _ _ _ =>
    cases d1 with
    | leaf _ _ w2 f2 _ _ _ =>
    obtain ⟨ra, g1, g2, g3, g4, g5, g6⟩ := mut_one (h' := h') hm f1 ho1 ht1 hal1
    obtain ⟨rb, k1, k2, k3, k4, k5, k6⟩ := mut_one (h' := h') hm f2 ho2 ht2 hal2
    have hcs' : cs = #[w1, w2] := by apply Array.toList_inj.1; rw [hcs]; rfl
    subst hcs'
    refine ⟨ra :: rb :: L, ⟨ra, rb, L, t1, t2, w1, w2, _, _, rfl, ht, rfl, rfl, ⟨g1, k1⟩, ⟨g2, k2⟩, ⟨⟨e1, ht1⟩, e2, ht2⟩, ⟨g3, k3⟩, by simpa [roIds] using a1⟩, ⟨g4, g5, g6, k4, k5, k6, a2⟩, a3, fun y hy => ?_⟩
    simp only [List.cons_append, List.nil_append, List.map_cons, List.mem_cons] at hy
    rcases hy with rfl | rfl | hy
    · simp [idsOfL, idsOf]
    · simp [idsOfL, idsOf]
    · simp [idsOfL, a4 y hy]
  | (t, .muts) :: ms, x :: xs, v :: vs, ps, l, m, ⟨hs1, hs2⟩, hh, hc => by
    simp only [argsOf] at hc
    split at hc
    case h_2 => cases hc
    rename_i p m1 ps' l' m' hx hl
    simp at hc
    obtain ⟨rfl, rfl, rfl⟩ := hc
    obtain ⟨L, a1, a2, a3, a4⟩ := args_ok hm hs2 (fun i hi => hh i (by simp [idsOfL, hi])) hl
    obtain ⟨cs, L1, fs, ht, hv, b1, b2, b3⟩ := lend_top (h' := h') hm hs1 (fun i hi => hh i (by simp [idsOfL, hi])) hx
    refine ⟨L1 ++ L, ⟨L1, L, cs, fs, rfl, ht, b1, hv, by simpa [roIds] using a1⟩, LentIds.append b2 a2, a3, fun y hy => ?_⟩
    rw [List.map_append, List.mem_append] at hy
    rcases hy with hy | hy
    · simp [idsOfL, b3 y hy]
    · simp [idsOfL, a4 y hy]
  | (_, .muts) :: _, [], _, _, _, _, _, _, hc => by simp [argsOf] at hc
  | (_, .mut2) :: _, [], _, _, _, _, _, _, hc => by simp [argsOf] at hc
  | [], _ :: _, _, _, _, _, _, _, hc => by simp [argsOf] at hc
  | (_, .box) :: _, [], _, _, _, _, _, _, hc => by simp [argsOf] at hc
  | (_, .ro) :: _, [], _, _, _, _, _, _, hc => by simp [argsOf] at hc
  | (_, .own) :: _, [], _, _, _, _, _, _, hc => by simp [argsOf] at hc
  | (_, .mut) :: _, [], _, _, _, _, _, _, hc => by simp [argsOf] at hc
  | _, _ :: _, [], _, _, _, h, _, _ => h.elim
  | _, [], _ :: _, _, _, _, h, _, _ => h.elim
end
end Go.Proofs.YtfbkfhdlingedaaAm

/-! A call of a function that is known. -/
namespace Go.Proofs.YtfbkfhdlingedaaAm
open Go RowKit
section
variable {P : Program} {C : Cx} {M : Mm} {x : SV} {v : Value} {n : Nat} {t t' u : TypeId} {w w' : World} {pv : PV} {cs : List Value} {F : List Nat} {ok ok' : Nat → Prop} {h' : Nat → Own} {stale : List Nat} {o : Oper} {a : Act} {e : Eff} {fr : Nat}
variable [Glb P]
theorem memB_mem {l : List Nat} {i : Nat} : memB l i = true ↔ i ∈ l := by
  unfold memB
  rw [List.any_eq_true]
  exact ⟨fun ⟨x, h1, h2⟩ => by rw [Nat.beq_eq.mp h2]; exact h1, fun h => ⟨i, h, by simp⟩⟩
theorem disj_spec {l m : List Nat} (h : disj l m = true) : ∀ i ∈ l, i ∉ m := fun i hi hm => by
  have := List.all_eq_true.1 h i hi
  rw [memB_mem.2 hm] at this; cases this
theorem run_enter {c : Call} {f : FuncId} (ho : o.op = .call c) (hcal : c.callee = .value (.func f)) (hf : ∃ fn, P.funcs[f]? = some fn ∧ fn.body.isNone = false ∧ (fn.name == "runtime.NumGoroutine") = false) :
    (execOp a.eval o).run P w = .ok (.enter f (c.args.toList.map a.eval).toArray) w := by
  obtain ⟨fn, h1, h2, h3⟩ := hf
  have he : execOp a.eval o = callFunc f (#[] ++ c.args.map a.eval ++ #[]) := by
    obtain ⟨dst, op, ty, pos, after, guard⟩ := o
    obtain ⟨callee, args, ats⟩ := c
    simp only at ho hcal
    subst ho hcal
    rfl
  rw [he]
  have hargs : (#[] ++ c.args.map a.eval ++ #[]) = (c.args.toList.map a.eval).toArray := by
    apply Array.ext'; simp
  rw [hargs]
  have h3' : fn.name ≠ "runtime.NumGoroutine" := by simpa using h3
  have h2' : fn.body ≠ none := fun hb => by rw [hb] at h2; cases h2
  simp [callFunc, go_sem, h1, h2', h3']
theorem Rd.lt {n : Nat} (h : Rd P ok w n t pv cs) : Rd P (fun k => ok k ∧ k < w.heap.size) w n t pv cs :=
  h.step (fun k hk ho => ⟨⟨ho, hk⟩, rfl⟩)
theorem ArgsAt.lt : ∀ {ms : List (TypeId × Mode)} {vs : List Value} {ps : List PV} {F : List Nat} {L : List Row}, ArgsAt P ok w ms vs ps F L → ArgsAt P (fun k => ok k ∧ k < w.heap.size) w ms vs ps F L
  | [], [], [], _, _, h => h
  | (t, .ro) :: ms, v :: vs, p :: ps, F, L, ⟨⟨n, cs, h1, h2⟩, h3⟩ => ⟨⟨n, cs, Rd.lt h1, h2⟩, ArgsAt.lt h3⟩
  | (t, .own) :: ms, v :: vs, p :: ps, F, L, ⟨F1, F2, h1, h2, h3⟩ => ⟨F1, F2, h1, h2, ArgsAt.lt h3⟩
  | (t, .mut) :: ms, v :: vs, p :: ps, F, L, ⟨r, L', h1, h2, h3, h4, h5, h6⟩ => ⟨r, L', h1, h2, h3, h4, h5, ArgsAt.lt h6⟩
  | (t, .mut2) :: ms, v :: vs, p :: ps, F, L, ⟨r1, r2, L', t1, t2, a, b, p1, p2, h1, h2, h3, h4, h5, h6, h7, h8, h9⟩ => ⟨r1, r2, L', t1, t2, a, b, p1, p2, h1, h2, h3, h4, h5, h6, h7, h8, ArgsAt.lt h9⟩
  | (t, .muts) :: ms, v :: vs, p :: ps, F, L, ⟨M, L', cs, fs, h1, h2, h3, h4, h5⟩ => ⟨M, L', cs, fs, h1, h2, h3, h4, ArgsAt.lt h5⟩
  | (_, .muts) :: _, [], _, _, _, h => h.elim
  | (_, .muts) :: _, _ :: _, [], _, _, h => h.elim
  | (_, .mut2) :: _, [], _, _, _, h => h.elim
  | (_, .mut2) :: _, _ :: _, [], _, _, h => h.elim
  | (t, .box) :: ms, v :: vs, p :: ps, F, L, ⟨r, L', h1, h2, h3, h4, ⟨n, h5⟩, h6⟩ => ⟨r, L', h1, h2, h3, h4, ⟨n, Rd.lt h5⟩, ArgsAt.lt h6⟩
  | [], _ :: _, _, _, _, h => h.elim
  | [], [], _ :: _, _, _, h => h.elim
  | (_, .ro) :: _, [], _, _, _, h => h.elim
  | (_, .own) :: _, [], _, _, _, h => h.elim
  | (_, .mut) :: _, [], _, _, _, h => h.elim
  | (_, .box) :: _, [], _, _, _, h => h.elim
  | (_, .box) :: _, _ :: _, [], _, _, h => h.elim
  | (_, .ro) :: _, _ :: _, [], _, _, h => h.elim
  | (_, .own) :: _, _ :: _, [], _, _, h => h.elim
  | (_, .mut) :: _, _ :: _, [], _, _, h => h.elim
theorem isNil_nil {l : List Nat} (h : isNil l = true) : l = [] := by cases l <;> first | rfl | cases h
theorem noBox : ∀ {res : List (TypeId × RMode)} {outs : List PV} {fr : Nat}, boxRes res = false → ∀ x ∈ (resultsOf P res outs fr).2, ∀ u sv, x.2 ≠ .box u sv
  | [], _, _, _, x, hx, _, _ => by simp [resultsOf] at hx
  | (t, .val) :: res, outs, fr, h, x, hx, u, sv => noBox (res := res) (outs := outs.tail) (fr := fr) h x hx u sv
  | (t, .err) :: res, outs, fr, h, x, hx, u, sv => noBox (res := res) (outs := outs.tail) (fr := fr) h x hx u sv
  | (t, .any) :: res, outs, fr, h, x, hx, u, sv => noBox (res := res) (outs := outs.tail) (fr := fr) h x hx u sv
  | (t, .own) :: res, outs, fr, h, x, hx, u, sv => by
    simp only [resultsOf, List.mem_append] at hx
    rcases hx with hx | hx
    · exact adopt_noBox 8 t _ fr x hx u sv
    · exact noBox (res := res) h x hx u sv
  | (t, .nown) :: res, outs, fr, h, x, hx, u, sv => by
    cases hi : (outs.headD default).items with
    | nil =>
      simp only [resultsOf, hi, nilC] at hx
      exact noBox (res := res) h x hx u sv
    | cons y ys =>
      simp only [resultsOf, hi, nilC, List.mem_append] at hx
      rcases hx with hx | hx
      · exact adopt_noBox 8 t _ fr x hx u sv
      · exact noBox (res := res) h x hx u sv
  | (t, .box) :: res, _, _, h, _, _, _, _ => by cases h
  | (t, .shr) :: res, outs, fr, h, x, hx, u, sv => noBox (res := res) (outs := outs.tail) (fr := fr) h x hx u sv
where
  adopt_noBox : ∀ (m : Nat) (t : TypeId) (p : PV) (fr : Nat), ∀ x ∈ (adopt P m t p fr).2, ∀ u sv, x.2 ≠ .box u sv
    | 0, t, p, fr, x, hx, u, sv => by simp [adopt] at hx
    | m + 1, t, p, fr, x, hx, u, sv => by
      unfold adopt at hx
      cases ht : tk P t <;> simp only [ht] at hx <;> first | cases hx; done | skip
      · rcases List.mem_cons.1 hx with rfl | hx
        · simp
        · cases hx
      · exact fields_noBox m _ p 0 fr x hx u sv
  fields_noBox : ∀ (m : Nat) (fs : List TypeId) (p : PV) (i fr : Nat), ∀ x ∈ (fieldsAdopt (adopt P m) fs p i fr).2, ∀ u sv, x.2 ≠ .box u sv
    | m, [], p, i, fr, x, hx, u, sv => by simp [fieldsAdopt] at hx
    | m, t :: fs, p, i, fr, x, hx, u, sv => by
      simp only [fieldsAdopt, List.mem_append] at hx
      rcases hx with hx | hx
      · exact adopt_noBox m t _ fr x hx u sv
      · exact fields_noBox m fs p (i + 1) _ x hx u sv
theorem nilCase_some {α : Type} {r : α} {res : List (TypeId × RMode)} {outs : List PV} {f : List PV → Option α} (h : nilCase res outs f = some r) : ∃ outs', f outs' = some r ∧ (outs' = outs ∨ ∃ t, res = [(t, .nown)] ∧ outs' = .list (outs.headD default).items :: outs.tail) := by
  unfold nilCase at h
  split at h
  · rename_i t
    cases hi : (outs.headD default).items with
    | nil => rw [hi] at h; exact ⟨_, h, .inr ⟨t, rfl, rfl⟩⟩
    | cons x xs => rw [hi] at h; exact ⟨_, h, .inr ⟨t, rfl, rfl⟩⟩
  · exact ⟨_, h, .inl rfl⟩
theorem nil_res {res : List (TypeId × RMode)} {outs outs' : List PV} {vs : List Value} {G : List Nat} {ok : Nat → Prop} {w : World} (hs : outs' = outs ∨ ∃ t, res = [(t, .nown)] ∧ outs' = .list (outs.headD default).items :: outs.tail) (h : ResAt P ok w res outs vs G) : ResAt P ok w res outs' vs G := by
  rcases hs with rfl | ⟨t, rfl, rfl⟩
  · exact h
  · cases vs with
    | nil => exact h.elim
    | cons v vs => exact h
theorem nil_drop {res : List (TypeId × RMode)} {outs outs' : List PV} (hs : outs' = outs ∨ ∃ t, res = [(t, .nown)] ∧ outs' = .list (outs.headD default).items :: outs.tail) : dropRes res outs = dropRes res outs' := by
  rcases hs with rfl | ⟨t, rfl, rfl⟩
  · rfl
  · rfl
theorem shr_rows : ∀ {res : List (TypeId × RMode)} {outs : List PV} {fr : Nat}, hasShr res = true → oneRes res = true → (resultsOf P res outs fr).2 = []
  | [(_, .shr)], _, _, _, _ => rfl
  | [(_, .val)], _, _, h, _ => by cases h
  | [(_, .own)], _, _, h, _ => by cases h
  | [(_, .nown)], _, _, h, _ => by cases h
  | [(_, .box)], _, _, h, _ => by cases h
  | [(_, .any)], _, _, h, _ => by cases h
  | [(_, .err)], _, _, h, _ => by cases h
  | [], _, _, h, _ => by cases h
  | _ :: _ :: _, _, _, _, h => by cases h
/-- What is known of a function that is called. -/
def TOk (P : Program) [Glb P] (C : Cx) (f : FuncId) (s : ASpec) : Prop := FnOk P f s ∧ (hasShr s.res = true → allRo s.params = true ∧ oneRes s.res = true ∧ ∀ k, C.may k → C.rok k)
theorem ok_call0 (hm : At P C M) {c : Call} {f : FuncId} {s : ASpec} (ho : o.op = .call c) (hcal : c.callee = .value (.func f)) (hns : hasShr s.res = false) (hf : FnOk P f s) {xs : List SV} (hy : Slots P M xs (c.args.toList.map a.eval)) (hh : ∀ id ∈ idsOfL xs, h' id = M.oh id)
    (hfree : ∀ id, h' id = .free → M.oh id = .free) (h : eCall0 P h' some fr s xs = some e) : OpOk P C M o a e := by
  unfold eCall0 at h
  split at h
  case h_2 => cases h
  rename_i ps l mp ha
  obtain ⟨m, hmm⟩ : ∃ m, mp.map (·.1) = m := ⟨_, rfl⟩
  simp only [hmm] at h
  cases hb : (nodupB (l ++ m) && disj (roIds s.params xs) (l ++ m) && (!boxRes s.res || isNil (roIds s.params xs))) <;> simp only [hb, cond_true, cond_false] at h
  · cases h
  simp only [Bool.and_eq_true] at hb
  obtain ⟨hb, hbr⟩ := hb
  cases hd : s.den ps with
  | none => rw [hd] at h; simp at h
  | some outs0 =>
    rw [hd] at h
    simp only [Option.bind_some] at h
    obtain ⟨outs, h, hsame⟩ := nilCase_some h
    cases hfa : freeAll h' (resultsOf P s.res outs fr).2 <;> simp only [hfa, cond_true, cond_false] at h
    · cases h
    injection h with h
    obtain ⟨L, a1, a2, a3, a4⟩ := args_ok hm.mem hy hh ha
    rw [hmm] at a4
    have hnd := nodupB_nodup hb.1
    have hndm : m.Nodup := (List.nodup_append.1 hnd).2.1
    have hLn : (L.flatMap (·.ft)).Nodup := a2.nodup hm.mem (hmm ▸ hndm)
    have hLs : ∀ k ∈ L.flatMap (·.ft), ∃ i ∈ m, k ∈ M.G.ft i := fun k hk => by
      obtain ⟨x, hx, h1⟩ := a2.sub k hk
      exact ⟨x.1, hmm ▸ List.mem_map.2 ⟨x, hx, rfl⟩, h1⟩
    have hlm : ∀ i ∈ l, ∀ j ∈ m, i ≠ j := fun i hi j hj => (List.nodup_append.1 hnd).2.2 i hi j hj
    have hZ : ∀ k ∈ l.flatMap M.G.ft ++ L.flatMap (·.ft), ∃ i ∈ l ++ m, k ∈ M.G.ft i := fun k hk => by
      rcases List.mem_append.1 hk with hk | hk
      · obtain ⟨i, hi, h1⟩ := List.mem_flatMap.1 hk; exact ⟨i, List.mem_append_left _ hi, h1⟩
      · obtain ⟨i, hi, h1⟩ := hLs k hk; exact ⟨i, List.mem_append_right _ hi, h1⟩
    have hsepm : ∀ i ∈ m, ∀ k, k ∈ M.G.ft i → k ∈ l.flatMap M.G.ft ++ L.flatMap (·.ft) → k ∈ L.flatMap (·.ft) := fun i hi k hk hz => by
      rcases List.mem_append.1 hz with hz | hz
      · obtain ⟨j, hj, h1⟩ := List.mem_flatMap.1 hz
        exact absurd h1 (hm.mem.dj i j (hlm j hj i hi).symm k hk)
      · exact hz
    have hZn : (l.flatMap M.G.ft ++ L.flatMap (·.ft)).Nodup := by
      rw [List.nodup_append]
      refine ⟨ft_nodup hm.mem (List.nodup_append.1 hnd).1, hLn, fun a ha b hb he => ?_⟩
      subst he
      obtain ⟨i, hi, h1⟩ := List.mem_flatMap.1 ha
      obtain ⟨j, hj, h2⟩ := hLs a hb
      exact hm.mem.dj i j (hlm i hi j hj) a h1 h2
    have hmh : ∀ i ∈ m, h' i = M.oh i := fun i hi => hh i (a4 i hi)
    have hok : ∀ k ∈ l.flatMap M.G.ft ++ L.flatMap (·.ft), ¬ okOf M (roIds s.params xs) k := fun k hk hc => by
      obtain ⟨i, hi, hki⟩ := hZ k hk
      rcases hc with hc | ⟨j, hj, hkj⟩
      · exact hc.2 i hki
      · exact hm.mem.dj j i (fun he => disj_spec hb.2 j hj (he ▸ hi)) k hkj hki
    have hcalls := hf.2 M.w _ _ _ _ L outs0 (Glb.step hm.holds (Nat.le_refl _) (fun k hk ho => ⟨⟨.inl ho, hk⟩, rfl⟩)) a1.lt hZn (fun k hk hc => hok k hk hc.1) hd
    intro K Q hK
    unfold Oper.wp
    rw [run_enter ho hcal hf.1, Oper.upon_enter]
    refine Calls.mono hcalls fun e' w' ⟨v, he', vs, F, Gs, hv, hres, hlent, hFn, hFZ, hstep⟩ => ?_
    subst he'
    rw [okR_no hns] at hres
    replace hres := nil_res hsame hres
    rw [nil_drop hsame] at hlent
    refine hK v w' ?_
    obtain ⟨R, r1, r2⟩ := res_ok fr hres
    have hsepF : ∀ y ∈ F ++ Gs.flatten, ∀ i ∈ m, y ∈ M.G.ft i → y ∈ L.flatMap (·.ft) := fun y hy i hi hk => by
      rcases hFZ y hy with h | h
      · have h9 : y < M.w.heap.size := hm.mem.lt hk
        omega
      · exact hsepm i hi y hk h
    obtain ⟨K', k1, k2, k3, k5, k4⟩ := lent_ok hm.mem a2 (hmm ▸ hndm) (fun i hi => hmh i (hmm ▸ hi)) hlent (List.nodup_append.1 hFn).2.1
      (fun y hy i hi hk => hsepF y (List.mem_append_right _ hy) i (hmm ▸ hi) hk)
      (fun i hi k hk hn => hstep.block k (hm.mem.lt hk) (fun hz => hn (hsepm i (hmm ▸ hi) k hk hz)))
    rw [hmm] at k2 k5
    have hRfree : ∀ x ∈ R, M.oh x.1 = .free := fun x hx => by
      have h1 : (x.1, x.2.ob) ∈ (resultsOf P s.res outs fr).2 := by rw [← r1.ws]; exact List.mem_map.2 ⟨x, hx, rfl⟩
      have := List.all_eq_true.1 hfa _ h1
      refine hfree x.1 ?_
      cases hx1 : h' x.1 <;> rw [hx1] at this <;> simp at this
    let Lall : List (Nat × Chg) := l.map (fun i => (i, ⟨.dead, undef, []⟩)) ++ K' ++ R
    have hws : Lall.map (fun x => (x.1, x.2.ob)) = l.map (fun i => (i, Own.dead)) ++ wrote P h' mp (dropRes s.res outs) ++ (resultsOf P s.res outs fr).2 := by
      simp only [Lall, List.map_append, k1, r1.ws, List.map_map]
      rfl
    have hkeys : Lall.map (·.1) = l ++ m ++ R.map (·.1) := by
      simp only [Lall, List.map_append, k2, List.map_map]
      have : l.map ((fun x : Nat × Chg => x.1) ∘ fun i => (i, (⟨.dead, undef, []⟩ : Chg))) = l := (List.map_congr_left (fun x _ => rfl)).trans (List.map_id l)
      exact congrArg (fun z => z ++ m ++ R.map (·.1)) this
    have hkn : (Lall.map (·.1)).Nodup := by
      rw [hkeys, List.nodup_append]
      refine ⟨hnd, ?_, fun i hi j hj he => ?_⟩
      · rw [r1.ids]; exact List.nodup_range'
      · obtain ⟨x, hx, rfl⟩ := List.mem_map.1 hj
        have hfr := hRfree x hx
        rw [← he] at hfr
        rcases List.mem_append.1 hi with hi | hi
        · obtain ⟨u, q, hr⟩ := a3 i hi; rw [hfr] at hr; cases hr
        · exact a2.there i (hmm.symm ▸ hi) hfr
    have hft : Lall.flatMap (·.2.ft) = K'.flatMap (·.2.ft) ++ R.flatMap (·.2.ft) := by
      simp only [Lall, List.flatMap_append]
      have : (l.map (fun i => (i, (⟨.dead, undef, []⟩ : Chg)))).flatMap (·.2.ft) = [] := by
        rw [List.flatMap_map]; simp
      rw [this]; rfl
    have hins : ∀ i ∈ l ++ m, ∃ x ∈ Lall, x.1 = i := fun i hi => by
      have : i ∈ Lall.map (·.1) := by rw [hkeys]; exact List.mem_append_left _ hi
      obtain ⟨x, hx, rfl⟩ := List.mem_map.1 this
      exact ⟨x, hx, rfl⟩
    have htouch : ∀ k, (k ∈ l.flatMap M.G.ft ++ L.flatMap (·.ft)) → ∃ x ∈ Lall, k ∈ M.G.ft x.1 := fun k hk => by
      obtain ⟨i, hi, hki⟩ := hZ k hk
      obtain ⟨x, hx, rfl⟩ := hins i hi
      exact ⟨x, hx, hki⟩
    have hst : ∀ i ∈ m, ∀ u q, M.oh i = .row u q → flat P 8 (etype P u) = true ∨ memB e.stale i = true := fun i hi u q hu => by
      cases hfl : flat P 8 (etype P u)
      · refine .inr (memB_mem.2 ?_)
        rw [← h]
        refine List.mem_filter.2 ⟨hi, ?_⟩
        rw [hmh i hi, hu]; simp [rowFlat, hfl]
      · exact .inl rfl
    have hchg : ∀ x ∈ Lall, ChgOk P M w' e.stale x.1 x.2 := fun x hx => by
      rcases List.mem_append.1 hx with hx | hx
      · rcases List.mem_append.1 hx with hx | hx
        · obtain ⟨i, hi, rfl⟩ := List.mem_map.1 hx
          obtain ⟨u, q, hr⟩ := a3 i hi
          exact .inl ⟨rfl, rfl, by rw [hr]; simp⟩
        · have hxm : x.1 ∈ m := by rw [← k2]; exact List.mem_map.2 ⟨x, hx, rfl⟩
          obtain ⟨b3, hb⟩ := k4 x hx
          rcases hb with ⟨u, q, q0, b1, b2, b4⟩ | ⟨u, sv, sv0, cs, b1, b2, b4, ⟨g, arr, d1, d2, d3, d4⟩, b6⟩
          · exact .inr (.inr ⟨u, q, b1, b4, .inr ⟨⟨q0, b2⟩, b3, hst x.1 hxm u q0 b2⟩⟩)
          · exact .inr (.inl ⟨u, sv, g, arr, b1, freshen_noids sv b4, d1, d2, d3, d4 ▸ b6, .inr ⟨⟨sv0, b2⟩, b3⟩⟩)
      · rcases r1.rows x hx with ⟨u, q, b1, b2⟩ | ⟨u, p, n, cs, b1, ⟨g, arr, d1, d2, d3, d4⟩, b3⟩
        · exact .inr (.inr ⟨u, q, b1, b2, .inl (hRfree x hx)⟩)
        · have hnil : roIds s.params xs = [] := by
            cases hbx : boxRes s.res
            · have h1 : (x.1, x.2.ob) ∈ (resultsOf P s.res outs fr).2 := by rw [← r1.ws]; exact List.mem_map.2 ⟨x, hx, rfl⟩
              exact absurd b1 (noBox hbx _ h1 _ _)
            · rw [hbx] at hbr; exact isNil_nil (by simpa using hbr)
          have hrd : Rd P M.ok M.w n u p cs := b3.imp (fun a v hoka hv => by
              have hz := hstep.block a.block hoka.2 (fun hz => hok a.block hz hoka.1)
              rw [← cell_same (w := M.w) (w' := w') (a := a) hz]; exact hv) (fun k hk => by
              rcases hk.1 with h9 | ⟨i, hi, _⟩
              · exact h9
              · rw [hnil] at hi; cases hi)
          exact .inr (.inl ⟨u, _, g, arr, b1, freshen_noids _ (idsOf_reifyRo 8 u p), d1, d2, d3, d4 ▸ reifyRo_ok hrd, .inl (hRfree x hx)⟩)
    have hperm : (K'.flatMap (·.2.ft) ++ R.flatMap (·.2.ft)).Nodup := by
      rw [List.nodup_append] at hFn ⊢
      refine ⟨k3, hFn.1.sublist r1.sub, fun i hi j hj he => ?_⟩
      subst he
      rcases k5 i hi with h | ⟨⟨x, hx, h⟩, hn⟩
      · exact hFn.2.2 i (r1.sub.subset hj) i h rfl
      · exact hn (hsepF i (List.mem_append_left _ (r1.sub.subset hj)) x hx h)
    have hT := trans_chg (stale := e.stale) hm hkn hchg ⟨hstep.os, hstep.tape, hstep.output, hstep.size, fun k hk hn => hstep.block k hk (fun hc => hn (htouch k hc))⟩ (by rw [hft]; exact hperm)
      (fun k hk => by
        rw [hft] at hk
        rcases List.mem_append.1 hk with hk | hk
        · rcases k5 k hk with h | ⟨⟨i, hi, h⟩, _⟩
          · exact (hFZ k (List.mem_append_right _ h)).imp id (htouch k)
          · obtain ⟨x, hx, rfl⟩ := hins i (List.mem_append_right _ hi)
            exact .inr ⟨x, hx, h⟩
        · exact (hFZ k (List.mem_append_left _ (r1.sub.subset hk))).imp id (htouch k)) e.val e.wi
    have hnew := newOh_chg hkn hchg e.val e.wi
    have hee : e = ⟨e.val, Lall.map (fun x => (x.1, x.2.ob)), e.wi, e.stale⟩ := by rw [hws, ← h]
    rw [← hee] at hT hnew
    refine ⟨M.G.chg Lall, hT, ?_⟩
    refine Slot.fresh ?_
    have hR : Holds (⟨w', newOh M.oh e, M.G.chg Lall⟩ : Mm) R := fun x hx => by
      have hl : lookC Lall x.1 = some x.2 := lookC_of hkn (List.mem_append_right _ hx)
      exact ⟨by show newOh M.oh e x.1 = _; rw [hnew, hl], (chg_some hl).1, (chg_some hl).2⟩
    have hsl := slots_ret (r2 ⟨w', newOh M.oh e, M.G.chg Lall⟩ rfl hR (fun h => by rw [hns] at h; cases h))
    rw [hv]
    have hval : e.val = retSV (resultsOf P s.res outs fr).1 := by rw [← h]
    rw [hval]; exact hsl
theorem ok_callShr (hm : At P C M) {c : Call} {f : FuncId} {s : ASpec} (ho : o.op = .call c) (hcal : c.callee = .value (.func f)) (hsr : hasShr s.res = true) (hf : TOk P C f s) {xs : List SV} (hy : Slots P M xs (c.args.toList.map a.eval)) (hh : ∀ id ∈ idsOfL xs, h' id = M.oh id)
    (hro : ∀ id ∈ roIds s.params xs, h' id = M.oh id) (h : eCallShr P h' some fr s xs = some e) : OpOk P C M o a e := by
  unfold eCallShr at h
  split at h
  case h_2 => cases h
  rename_i ps ha
  cases hb : (nodupB (roIds s.params xs) && noFree h' (roIds s.params xs)) <;> simp only [hb, cond_true, cond_false] at h
  · cases h
  simp only [Bool.and_eq_true] at hb
  obtain ⟨hb, hbf⟩ := hb
  cases hd : s.den ps with
  | none => rw [hd] at h; simp at h
  | some outs =>
    rw [hd] at h
    simp only [Option.bind_some] at h
    injection h with h
    obtain ⟨c1, c2, c3⟩ := hf.2 hsr
    obtain ⟨L, a1, a2, a3, a4⟩ := args_ok hm.mem hy hh ha
    have hL : L = [] := by
      cases L with
      | nil => rfl
      | cons r L => exact a2.elim
    subst hL
    have hnd := nodupB_nodup hb
    have hcalls := hf.1.2 M.w _ _ _ _ [] outs (Glb.step hm.holds (Nat.le_refl _) (fun k hk ho => ⟨⟨.inl ho, hk⟩, rfl⟩)) a1.lt (by simp) (by simp) hd
    intro K Q hK
    unfold Oper.wp
    rw [run_enter ho hcal hf.1.1, Oper.upon_enter]
    refine Calls.mono hcalls fun e' w' ⟨v, he', vs, F, Gs, hv, hres, hlent, hFn, hFZ, hstep⟩ => ?_
    subst he'
    refine hK v w' ?_
    obtain ⟨R, r1, r2⟩ := res_ok fr hres
    have hR0 : R = [] := by
      have := r1.ws
      rw [shr_rows hsr c2] at this
      exact List.map_eq_nil_iff.1 this
    subst hR0
    obtain ⟨dl, hdl⟩ : ∃ dl, dl = roIds s.params xs := ⟨_, rfl⟩
    rw [← hdl] at h hnd hbf hro
    let Lall : List (Nat × Chg) := dl.map (fun i => (i, (⟨.dead, undef, []⟩ : Chg)))
    have hkm : Lall.map (·.1) = dl := by
      simp only [Lall, List.map_map]
      exact (List.map_congr_left (fun x _ => rfl)).trans (List.map_id dl)
    have hkn : (Lall.map (·.1)).Nodup := by rw [hkm]; exact hnd
    have hft : Lall.flatMap (·.2.ft) = [] := by
      simp only [Lall]
      rw [List.flatMap_map]; simp
    have hchg : ∀ x ∈ Lall, ChgOk P M w' [] x.1 x.2 := fun x hx => by
      obtain ⟨i, hi, rfl⟩ := List.mem_map.1 hx
      refine .inl ⟨rfl, rfl, fun hfr => ?_⟩
      have h9 := List.all_eq_true.1 (show dl.all (fun i => match h' i with | .free => false | _ => true) = true from hbf) i hi
      rw [hro i hi, hfr] at h9
      simp at h9
    have hT := trans_chg (stale := []) hm hkn hchg ⟨hstep.os, hstep.tape, hstep.output, hstep.size, fun k hk _ => hstep.block k hk (by simp)⟩ (by rw [hft]; simp) (fun k hk => by rw [hft] at hk; cases hk) e.val e.wi
    have hws : Lall.map (fun x => (x.1, x.2.ob)) = dl.map (fun i => (i, Own.dead)) := by
      simp only [Lall, List.map_map]
      rfl
    have hee : e = ⟨e.val, Lall.map (fun x => (x.1, x.2.ob)), e.wi, []⟩ := by rw [hws, ← h]
    have hst0 : e.stale = [] := by rw [← h]
    rw [← hee] at hT
    refine ⟨M.G.chg Lall, by rw [hst0]; exact hT, ?_⟩
    have hlk : ∀ id, (M.G.chg Lall).ft id = if id ∈ dl then [] else M.G.ft id := fun id => by
      by_cases hid : id ∈ dl
      · rw [if_pos hid]
        exact (chg_some (lookC_of hkn (List.mem_map.2 ⟨id, hid, rfl⟩))).2
      · rw [if_neg hid]
        refine (chg_none ?_).2
        cases hl : lookC Lall id with
        | none => rfl
        | some x =>
          have h9 : (id, x).1 ∈ Lall.map (·.1) := List.mem_map.2 ⟨(id, x), lookC_mem hl, rfl⟩
          rw [hkm] at h9
          exact absurd h9 hid
    have hshr : hasShr s.res = true → ∀ k, okR (fun k => okOf M (roIds s.params xs) k ∧ k < M.w.heap.size) M.w s.res k → (⟨w', newOh M.oh e, M.G.chg Lall⟩ : Mm).ok k := fun _ k hk => by
      rw [okR_yes hsr, ← hdl] at hk
      rcases hk with ⟨hk, _⟩ | hk
      · rcases hk with hk | ⟨j, hj, hkj⟩
        · refine ⟨hk.1, fun id hid => ?_⟩
          have hid' : k ∈ (M.G.chg Lall).ft id := hid
          rw [hlk] at hid'
          split at hid'
          · cases hid'
          · exact hk.2 id hid'
        · refine ⟨?_, fun id hid => ?_⟩
          · show M.G.rok k
            rw [hm.mem.gh.2]
            exact c3 k (hm.mem.own j k hkj)
          · have hid' : k ∈ (M.G.chg Lall).ft id := hid
            rw [hlk] at hid'
            split at hid'
            · cases hid'
            · rename_i hne
              exact hm.mem.dj id j (fun he => hne (he ▸ hj)) k hid' hkj
      · refine ⟨?_, fun id hid => ?_⟩
        · show M.G.rok k
          rw [hm.mem.gh.2]
          exact c3 k (hm.mem.new k (Nat.le_trans hm.mem.kept.size hk))
        · have hid' : k ∈ (M.G.chg Lall).ft id := hid
          rw [hlk] at hid'
          split at hid'
          · cases hid'
          · have h9 : k < M.w.heap.size := hm.mem.lt hid'
            omega
    refine Slot.fresh ?_
    have hsl := slots_ret (r2 ⟨w', newOh M.oh e, M.G.chg Lall⟩ rfl (fun x hx => by cases hx) hshr)
    rw [hv]
    have hval : e.val = retSV (resultsOf P s.res outs fr).1 := by rw [← h]
    rw [hval]; exact hsl
theorem ro_ids : ∀ {ms : List (TypeId × Mode)} {xs : List SV}, ∀ id ∈ roIds ms xs, id ∈ idsOfL xs
  | [], [], id, h => by simp [roIds] at h
  | [], _ :: _, id, h => by simp [roIds] at h
  | _ :: _, [], id, h => by simp [roIds] at h
  | (_, .ro) :: ms, x :: xs, id, h => by
    simp only [roIds, List.mem_append] at h
    simp only [idsOfL, List.mem_append]
    exact h.imp (fun h => h) (fun h => ro_ids id h)
  | (_, .own) :: ms, x :: xs, id, h => by simp only [idsOfL, List.mem_append]; exact .inr (ro_ids (ms := ms) id (by simpa [roIds] using h))
  | (_, .mut) :: ms, x :: xs, id, h => by simp only [idsOfL, List.mem_append]; exact .inr (ro_ids (ms := ms) id (by simpa [roIds] using h))
  | (_, .mut2) :: ms, x :: xs, id, h => by simp only [idsOfL, List.mem_append]; exact .inr (ro_ids (ms := ms) id (by simpa [roIds] using h))
  | (_, .muts) :: ms, x :: xs, id, h => by simp only [idsOfL, List.mem_append]; exact .inr (ro_ids (ms := ms) id (by simpa [roIds] using h))
  | (_, .box) :: ms, x :: xs, id, h => by simp only [idsOfL, List.mem_append]; exact .inr (ro_ids (ms := ms) id (by simpa [roIds] using h))
theorem ok_call (hm : At P C M) {c : Call} {f : FuncId} {s : ASpec} (ho : o.op = .call c) (hcal : c.callee = .value (.func f)) (hf : TOk P C f s) {xs : List SV} (hy : Slots P M xs (c.args.toList.map a.eval)) (hh : ∀ id ∈ idsOfL xs, h' id = M.oh id)
    (hfree : ∀ id, h' id = .free → M.oh id = .free) (h : eCall P h' some fr s xs = some e) : OpOk P C M o a e := by
  unfold eCall at h
  cases hsr : hasShr s.res <;> simp only [hsr, cond_true, cond_false] at h
  · exact ok_call0 hm ho hcal hsr hf.1 hy hh hfree h
  · exact ok_callShr hm ho hcal hsr hf hy hh (fun id hid => hh id (ro_ids id hid)) h
/-! ### Conversions -/
theorem bytes_seq {el : TypeId} (he : tk P el = .int .u8) : ∀ {ps : List PV} {news : List Value} {F : List Nat}, OwSeq (Ow P w n el) 1 ps news F → ∃ ns : List Int, ps = ns.map (fun x => .sc (.int .u8 x)) ∧ news = ns.map (Value.int .u8)
  | [], news, F, h => ⟨[], rfl, h.1⟩
  | p :: ps, news, F, ⟨c, cs', f, F', h1, h2, h3, h4, h5⟩ => by
    obtain ⟨ns, e1, e2⟩ := bytes_seq he h5
    cases n with
    | zero => exact h4.elim
    | succ n =>
      unfold Ow at h4
      simp only [he] at h4
      obtain ⟨⟨x, rfl, rfl⟩, _⟩ := h4
      exact ⟨x :: ns, by simp [e1], by simp [h1, e2]⟩
theorem foldl_push (f : Int → UInt8) : ∀ (ns : List Int) (r : ByteArray), ns.foldl (fun r n => r.push (f n)) r = ⟨r.data ++ (ns.map f).toArray⟩
  | [], r => by simp
  | n :: ns, r => by
    rw [List.foldl_cons, foldl_push f ns]
    simp [ByteArray.push]
theorem ok_convert (hm : At P C M) {src dst : TypeId} {y : Operand} (ho : o.op = .convert src dst y) {sy : SV} (hy : Slot P M sy (a.eval y)) (hh : ∀ id ∈ fr :: idsOf sy, h' id = M.oh id) (h : eConvert P h' some fr src dst sy = some e) : OpOk P C M o a e := by
  unfold eConvert at h
  split at h
  · rename_i k1 k2 h1 h2
    split at h
    · rename_i k n
      have hy' := hy.sc_inv.1
      have hu1 := run_underlying (tk_int h1) M.w
      have hu2 := run_underlying (tk_int h2) M.w
      injection h with h; subst h
      have hc : (Go.convert src dst (.int k n)).run P M.w = .ok (.int k2 (k2.wrap n)) M.w := by simp [Go.convert, hu1, hu2, Conv.intToInt]
      exact opOk_val (by simp [execOp, ho, hy', hc]) (hm.pure (slot_sc rfl))
    · cases h
  · rename_i h1 h2
    split at h
    · rename_i s
      have hy' := hy.sc_inv.1
      have hu1 := run_underlying (tk_str h1) M.w
      have hu2 := run_underlying (tk_str h2) M.w
      injection h with h; subst h
      have hc : (Go.convert src dst (.string s)).run P M.w = .ok (.string s) M.w := by simp [Go.convert, hu1, hu2]
      exact opOk_val (by simp [execOp, ho, hy', hc]) (hm.pure (slot_sc rfl))
    · cases h
  · rename_i el h1 h2
    split at h
    · rename_i he
      split at h
      · rename_i v hc
        injection h with h; subst h
        have hu1 := run_underlying (tk_slice h1).1 M.w
        have hu2 := run_underlying (tk_str h2) M.w
        have hu3 := run_underlying (tk_int he) M.w
        obtain ⟨A, cap, ps, n, hv, hp, hle, hr⟩ := cont_slice hm.mem hy (fun id hid => hh id (List.mem_cons_of_mem _ hid)) h1 hc
        subst hp
        have hsz : sizeOf P el = 1 := by rw [tk_size (by rw [he]; simp), he]; rfl
        have hfl : flat P 8 el = true := by unfold flat; rw [he]
        unfold Rd at hr
        simp only [h1] at hr
        obtain ⟨A', cap', ps', e1, e2, _, e4⟩ := hr
        injection e2 with e2; subst e2
        rw [hv] at e1
        simp only [List.cons.injEq, Value.slice.injEq, and_true, true_and] at e1
        obtain ⟨rfl, rfl⟩ := e1
        have hconv : ∀ s, (Conv.bytesToString (a.eval y)).run P M.w = .ok (.string s) M.w → (Go.convert src dst (a.eval y)).run P M.w = .ok (.string s) M.w := fun s hs => by
          rw [hv] at hs ⊢
          simp [Go.convert, hu1, hu2, hu3, hs]
        have hend : (Conv.bytesToString (a.eval y)).run P M.w = .ok (.string (bytesOfL (PV.list ps).items)) M.w := by
          cases A with
          | none =>
            have : ps = [] := by
              cases ps with
              | nil => rfl
              | cons p r => obtain ⟨ad, h, _⟩ := e4 (by simp); cases h
            subst this
            rw [hv]; rfl
          | some ad =>
            have hcells : ∃ news, news.length = ps.length * 1 ∧ Loc M.w ad news ∧ OwSeq (Ow P M.w n el) 1 ps news [] := by
              by_cases h0 : 0 < ps.length
              · obtain ⟨ad', e5, _, e6⟩ := e4 h0
                injection e5 with e5; subst e5
                rw [hsz] at e6
                exact rowAt_cells (fun p c hpc => flat_ow hfl hpc) e6
              · have : ps = [] := List.eq_nil_of_length_eq_zero (by omega)
                subst this
                exact ⟨[], rfl, fun q u hq => by simp at hq, rfl, rfl⟩
            obtain ⟨news, d1, d2, d3⟩ := hcells
            obtain ⟨ns, f1, f2⟩ := bytes_seq he d3
            subst f1 f2
            have hload : (loadCells ad (ns.map (fun x => (PV.sc (.int .u8 x)))).length).run P M.w = .ok (ns.map (Value.int .u8)).toArray M.w := by
              have := run_loadCells_list (P := P) M.w ad (ns.map (Value.int .u8)) d2
              simpa using this
            rw [hv, run_bytesToString M.w ad _ cap ns hload, foldl_push (fun n => UInt8.ofNat n.toNat)]
            simp [bytesOfL, PV.items, PV.toInt, ByteArray.empty, ByteArray.emptyWithCapacity, Function.comp_def]
            rfl
        exact opOk_val (by simp [execOp, ho, hconv _ hend]) (hm.pure (slot_sc rfl))
      · cases h
    · cases h
  · rename_i el h1 h2
    split at h
    · rename_i s he hfr
      rw [hh fr (by simp)] at hfr
      split at h
      · rename_i hsz
        injection h with h; subst h
        have hy' := hy.sc_inv.1
        have hs1 : sizeOf P el = 1 := by rw [tk_size (by rw [he]; simp), he]; rfl
        have hrun := Go.Lib.run_convert_string_bytes (P := P) M.w src dst el s (tk_str h1) (tk_slice h2).1 (tk_int he)
        have hold := Go.Lib.bytesWorld_at_old M.w el s
        have hnew := Go.Lib.bytesWorld_at_new M.w el s
        have hcs : (Go.Lib.bytesCells M.w el s).size = grownCap M.w s.size 0 el := by
          have := grownCap_ge M.w s.size 0 el
          simp [Go.Lib.bytesCells]; omega
        have hrow : ownsR (Go.Lib.bytesWorld M.w el s) el (sizeOf P el) (.slice (some ⟨M.w.heap.size, 0, none⟩) s.size (grownCap M.w s.size 0 el)) s.size (s.data.toList.map fun b => Value.int .u8 b.toNat) := by
          rw [hs1]
          refine ⟨by simp, .inr ⟨M.w.heap.size, _, _, _, rfl, .inr (Nat.le_refl _), hnew, grownCap_ge M.w s.size 0 el, grownCap_le_maxLen M.w s.size 0 el hsz, by rw [hcs]; simp, ?_⟩⟩
          simp only [Go.Lib.bytesCells, Nat.mul_one, Array.toList_append]
          rw [List.take_left' (by simp)]
          simp
        have hseq : ∀ l : List UInt8, OwSeq (Ow P (Go.Lib.bytesWorld M.w el s) 1 el) (sizeOf P el) (l.map fun b => PV.sc (.int .u8 b.toNat)) (l.map fun b => Value.int .u8 b.toNat) [] := fun l => by
          induction l with
          | nil => exact ⟨rfl, rfl⟩
          | cons b r ih => exact ⟨[.int .u8 b.toNat], _, [], [], rfl, hs1.symm, rfl, by unfold Ow; simp only [he]; exact ⟨⟨_, rfl, rfl⟩, by simp⟩, ih⟩
        have how : ∃ n, Ow P (Go.Lib.bytesWorld M.w el s) n dst (.list (bytesL s)) [.slice (some ⟨M.w.heap.size, 0, none⟩) s.size (grownCap M.w s.size 0 el)] [M.w.heap.size] := by
          refine ⟨2, ?_⟩
          unfold Ow
          simp only [h2]
          refine ⟨_, s.data.toList.map (fun b => Value.int .u8 b.toNat), bytesL s, [], rfl, rfl, ?_, rfl, ?_⟩
          · have : (bytesL s).length = s.size := by simp [bytesL]
            rw [this]; exact hrow
          · exact hseq s.data.toList
        have hstep : Step M.w (Go.Lib.bytesWorld M.w el s) (fun k => k ∈ ([] : List Nat).flatMap M.G.ft) := ⟨rfl, rfl, rfl, by rw [Go.Lib.bytesWorld_size]; omega, fun k hk _ => hold k hk⟩
        exact opOk_val (by simp [execOp, ho, hy', hrun]) (goes_row (l := []) hm hfr (by simp) hstep (by simp) (by simp) [fr] how rfl)
      · cases h
    · cases h
  · cases h
end
end Go.Proofs.YtfbkfhdlingedaaAm

/-! Any operation. -/
namespace Go.Proofs.YtfbkfhdlingedaaAm
open Go RowKit
section
variable {P : Program} {h : Nat → Own} {α : Type} {k : Eff → Option α} {T : FuncId → Option ASpec} {fr : Nat}
variable [Gl P]
theorem ePick_nat {a b c : SV} : ePick k a b c = (ePick some a b c).bind k := by
  unfold ePick; repeat' split
  all_goals rfl
theorem eConvert_nat {s d : TypeId} {x : SV} : eConvert P h k fr s d x = (eConvert P h some fr s d x).bind k := by
  unfold eConvert; repeat' split
  all_goals rfl
theorem eIndex_nat {t : TypeId} {x y : SV} : eIndex P k t x y = (eIndex P some t x y).bind k := by
  unfold eIndex eIndexV eIndexS; simp only [cond_eq_ite]; repeat' split
  all_goals rfl
theorem eIndexAddr_nat {t : TypeId} {x y : SV} : eIndexAddr P h k t x y = (eIndexAddr P h some t x y).bind k := by
  unfold eIndexAddr eIndexArr eIndexAddrS; simp only [cond_eq_ite]; repeat' split
  all_goals rfl
theorem eIndexAddrG_nat {t : TypeId} {g : Nat} {y : SV} : eIndexAddrG P h k t g y = (eIndexAddrG P h some t g y).bind k := by
  unfold eIndexAddrG
  split
  · exact eIndexAddr_nat
  · rfl
theorem eFieldAddr_nat {t : TypeId} {i : Nat} {x : SV} : eFieldAddr P h k t i x = (eFieldAddr P h some t i x).bind k := by
  unfold eFieldAddr; simp only [cond_eq_ite]; repeat' split
  all_goals rfl
theorem eField_nat {t : TypeId} {i : Nat} {x : SV} : eField P k t i x = (eField P some t i x).bind k := by
  unfold eField; simp only [cond_eq_ite]; repeat' split
  all_goals rfl
theorem eNilCheck_nat {x : SV} : eNilCheck h k x = (eNilCheck h some x).bind k := by
  unfold eNilCheck; repeat' split
  all_goals rfl
theorem eLoad_nat {t : TypeId} {x : SV} : eLoad P h k t x = (eLoad P h some t x).bind k := by
  unfold eLoad; simp only [cond_eq_ite]; repeat' split
  all_goals rfl
theorem eLoadG_nat {t : TypeId} {g : Nat} : eLoadG P h k t g = (eLoadG P h some t g).bind k := by
  unfold eLoadG; split
  · exact eLoad_nat
  · rfl
theorem eStore_nat {t : TypeId} {x y : SV} : eStore P h k t x y = (eStore P h some t x y).bind k := by
  unfold eStore eStore0 eStoreIn; simp only [cond_eq_ite]; repeat' split
  all_goals rfl
theorem eAlloc_nat {t : TypeId} : eAlloc P h k fr t = (eAlloc P h some fr t).bind k := by
  unfold eAlloc; repeat' split
  all_goals rfl
theorem eBox_nat {t : TypeId} {x : SV} : eBox P h k fr t x = (eBox P h some fr t x).bind k := by
  unfold eBox; simp only [cond_eq_ite]; repeat' split
  all_goals rfl
theorem eBuild_nat {t : TypeId} {is : List Nat} {xs : List SV} : eBuild P k t is xs = (eBuild P some t is xs).bind k := by
  unfold eBuild; simp only [cond_eq_ite]; repeat' split
  all_goals rfl
theorem eBuildSlice_nat {t : TypeId} {n : Nat} {ps : List (Nat × Operand)} {xs : List SV} : eBuildSlice P h k fr t n ps xs = (eBuildSlice P h some fr t n ps xs).bind k := by
  unfold eBuildSlice eBuildShl eBuildSlice0; simp only [cond_eq_ite]; repeat' split
  all_goals rfl
theorem eMakeSlice_nat {t : TypeId} {x y : SV} : eMakeSlice P h k fr t x y = (eMakeSlice P h some fr t x y).bind k := by
  unfold eMakeSlice; repeat' split
  all_goals rfl
theorem eExtract_nat {i : Nat} {x : SV} : eExtract k i x = (eExtract some i x).bind k := by
  unfold eExtract; simp only [cond_eq_ite]; repeat' split
  all_goals rfl
theorem boundsK_nat {lo hi : Option Operand} {r : List SV} {n : Int} {f : Nat → Nat → Option α} {g : Nat → Nat → Option Eff} (hf : ∀ l h, f l h = (g l h).bind k) : boundsK lo hi r n f = (boundsK lo hi r n g).bind k := by
  unfold boundsK; repeat' split
  all_goals first | rfl | exact hf _ _
theorem eSlice_nat {t : TypeId} {lo hi : Option Operand} {x : SV} {r : List SV} : eSlice P h k t lo hi x r = (eSlice P h some t lo hi x r).bind k := by
  unfold eSlice; simp only [cond_eq_ite]; repeat' split
  all_goals first | rfl | exact boundsK_nat (fun _ _ => rfl)
theorem eLen_nat {t : TypeId} {x : SV} : eLen P h k t x = (eLen P h some t x).bind k := by
  unfold eLen; repeat' split
  all_goals rfl
theorem eAppend_nat {t t' : TypeId} {x y : SV} : eAppend P h k fr t t' x y = (eAppend P h some fr t t' x y).bind k := by
  unfold eAppend eAppend0 eAppendIn eAppendShl; simp only [cond_eq_ite]; repeat' split
  all_goals rfl
theorem eCopy_nat {t t' : TypeId} {x y : SV} : eCopy P h k t t' x y = (eCopy P h some t t' x y).bind k := by
  unfold eCopy; simp only [cond_eq_ite]; repeat' split
  all_goals rfl
theorem nilCase_nat {res : List (TypeId × RMode)} {outs : List PV} {f : List PV → Option Eff} {f' : List PV → Option α} (hf : ∀ o, f' o = (f o).bind k) : nilCase res outs f' = (nilCase res outs f).bind k := by
  unfold nilCase
  split
  · cases (outs.headD default).items with
    | nil => exact hf _
    | cons x xs => exact hf _
  · exact hf _
theorem eCall0_nat {s : ASpec} {xs : List SV} : eCall0 P h k fr s xs = (eCall0 P h some fr s xs).bind k := by
  unfold eCall0; simp only [cond_eq_ite]; repeat' split
  all_goals first
    | rfl
    | (rename_i ps l m _ _; cases s.den ps with
       | none => rfl
       | some outs =>
         simp only [Option.bind_some]
         exact nilCase_nat (fun outs => by split <;> rfl))
theorem eCallShr_nat {s : ASpec} {xs : List SV} : eCallShr P h k fr s xs = (eCallShr P h some fr s xs).bind k := by
  unfold eCallShr; simp only [cond_eq_ite]; repeat' split
  · cases s.den _ <;> rfl
  all_goals rfl
theorem eCall_nat {s : ASpec} {xs : List SV} : eCall P h k fr s xs = (eCall P h some fr s xs).bind k := by
  unfold eCall
  cases hasShr s.res
  · exact eCall0_nat
  · exact eCallShr_nat
theorem intOp_nat {op : BinOp} {kd : IntKind} {i j : Int} : intOp op kd i j (fun v => k ⟨.sc v, [], [], []⟩) = (intOp op kd i j (fun v => some (⟨.sc v, [], [], []⟩ : Eff))).bind k := by
  unfold intOp; repeat' split
  all_goals rfl
theorem strOp_nat {op : BinOp} {i j : ByteArray} : strOp op i j (fun v => k ⟨.sc v, [], [], []⟩) = (strOp op i j (fun v => some (⟨.sc v, [], [], []⟩ : Eff))).bind k := by
  unfold strOp; repeat' split
  all_goals rfl
theorem binK_nat {t : TypeId} {op : BinOp} {x y : SV} : binK P t op x y (fun v => k ⟨.sc v, [], [], []⟩) = (binK P t op x y (fun v => some (⟨.sc v, [], [], []⟩ : Eff))).bind k := by
  unfold binK; repeat' split
  all_goals first | rfl | exact intOp_nat | exact strOp_nat
theorem eqSc_nat {t : TypeId} {x y : SV} {f : Bool → Option Eff} {f' : Bool → Option α} (h : ∀ b, f' b = (f b).bind k) : eqSc P t x y f' = (eqSc P t x y f).bind k := by
  unfold eqSc; repeat' split
  all_goals first | rfl | exact h _
theorem eqFl_nat : ∀ {ts : List TypeId} {xs ys : List SV} {f : Bool → Option Eff} {f' : Bool → Option α}, (∀ b, f' b = (f b).bind k) → eqFl P ts xs ys f' = (eqFl P ts xs ys f).bind k
  | [], [], [], _, _, h => h true
  | t :: ts, x :: xs, y :: ys, f, f', h => by
    rw [eqFl, eqFl]
    exact eqSc_nat (fun p => eqFl_nat (fun q => h (p && q)))
  | [], _ :: _, _, _, _, _ => by simp [eqFl]
  | [], [], _ :: _, _, _, _ => by simp [eqFl]
  | _ :: _, [], _, _, _, _ => by simp [eqFl]
  | _ :: _, _ :: _, [], _, _, _ => by simp [eqFl]
theorem eBin_nat {t : TypeId} {op : BinOp} {x y : SV} : eBin P op t x y (fun v => k ⟨.sc v, [], [], []⟩) = (eBin P op t x y (fun v => some (⟨.sc v, [], [], []⟩ : Eff))).bind k := by
  unfold eBin
  split
  · unfold eqS; simp only [cond_eq_ite]; repeat' split
    all_goals first | rfl | exact eqFl_nat (fun _ => rfl)
  · exact binK_nat
theorem nilC_nat {l : List PV} {f : PV → List PV → Option Eff} {f' : PV → List PV → Option α} (hf : ∀ x r, f' x r = (f x r).bind k) : nilC l none f' = (nilC l none f).bind k := by
  cases l with
  | nil => rfl
  | cons x r => exact hf x r
theorem eRowNil_nat {id : Nat} {b : Bool} : eRowNil h id b (fun v => k ⟨.sc v, [], [], []⟩) = (eRowNil h id b (fun v => some (⟨.sc v, [], [], []⟩ : Eff))).bind k := by
  unfold eRowNil
  split
  · exact nilC_nat fun _ _ => rfl
  · rfl
theorem eBinO_nat {t : TypeId} {op : BinOp} {z : Operand} {x y : SV} : eBinO P h op t z x y (fun v => k ⟨.sc v, [], [], []⟩) = (eBinO P h op t z x y (fun v => some (⟨.sc v, [], [], []⟩ : Eff))).bind k := by
  unfold eBinO
  split
  · repeat' split
    all_goals rfl
  · repeat' split
    all_goals rfl
  · repeat' split
    all_goals first | rfl | exact eRowNil_nat
  · exact eBin_nat
theorem unK_nat {op : UnOp} {x : SV} : unK op x (fun v => k ⟨.sc v, [], [], []⟩) = (unK op x (fun v => some (⟨.sc v, [], [], []⟩ : Eff))).bind k := by
  unfold unK; repeat' split
  all_goals rfl
/-- What follows an operation stands behind it. -/
theorem opE_nat {o : Oper} {xs : List SV} : opE P h k T fr o xs = (opE P h some T fr o xs).bind k := by
  unfold opE
  repeat' split
  all_goals first
    | rfl
    | exact ePick_nat | exact eBinO_nat | exact unK_nat | exact eConvert_nat | exact eIndex_nat | exact eIndexAddr_nat | exact eIndexAddrG_nat | exact eFieldAddr_nat | exact eField_nat | exact eNilCheck_nat | exact eLoad_nat | exact eLoadG_nat
    | exact eStore_nat | exact eAlloc_nat | exact eBox_nat | exact eBuild_nat | exact eBuildSlice_nat | exact eMakeSlice_nat | exact eExtract_nat | exact eSlice_nat | exact eLen_nat | exact eAppend_nat | exact eCopy_nat | exact eCall_nat
end
end Go.Proofs.YtfbkfhdlingedaaAm

