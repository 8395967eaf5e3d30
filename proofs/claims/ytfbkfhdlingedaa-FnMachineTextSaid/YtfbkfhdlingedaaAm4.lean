/- An abstract machine for the loaded code, proved sound, part 4 of 5: no conditions. -/
import Derived.Test.YtfbkfhdlingedaaAm3
import Derived.Laws.Small
import Derived.Orders
import Derived.LoopN
import Derived.ProofKit
import Derived.OpenShut
import Derived.ShutString
import Derived.ChangeOld
import Derived.SizedLaws
import Derived.Deep.Slices
set_option linter.unusedVariables false
set_option linter.unusedSimpArgs false
set_option linter.unusedSectionVars false
/-! Any operation does what the machine says; what it writes is told. -/
namespace Go.Proofs.YtfbkfhdlingedaaAm
open Go RowKit
section
variable {P : Program} {h : Nat → Own} {T : FuncId → Option ASpec} {fr : Nat} {e : Eff}
variable [Gl P]
def Told (e : Eff) : Prop := ∀ x ∈ e.ws, x.1 ∈ e.wi
theorem told_nil {x : SV} {wi stale : List Nat} : Told ⟨x, [], wi, stale⟩ := by simp [Told]
theorem wrote_ids : ∀ {l : List (Nat × List Stp)} {outs : List PV}, ∀ x ∈ wrote P h l outs, x.1 ∈ l.map (·.1)
  | [], _, x, hx => by simp [wrote] at hx
  | (id, p) :: l, outs, x, hx => by
    simp only [wrote] at hx
    split at hx
    · rcases List.mem_cons.1 hx with rfl | hx
      · simp
      · exact List.mem_cons_of_mem _ (wrote_ids x hx)
    · rcases List.mem_cons.1 hx with rfl | hx
      · simp
      · exact List.mem_cons_of_mem _ (wrote_ids x hx)
    · cases hx
theorem told_boundsK {lo hi : Option Operand} {r : List SV} {n : Int} {f : Nat → Nat → Option Eff} (hf : ∀ l h e, f l h = some e → Told e) (h : boundsK lo hi r n f = some e) : Told e := by
  unfold boundsK at h
  repeat' split at h
  all_goals first | cases h; done | exact hf _ _ _ h
theorem told_call0 {s : ASpec} {xs : List SV} (he : eCall0 P h some fr s xs = some e) : Told e := by
  unfold eCall0 at he
  split at he
  case h_2 => cases he
  simp only [cond_eq_ite] at he
  split at he
  · cases hd : s.den _ with
    | none => rw [hd] at he; simp at he
    | some outs =>
      rw [hd] at he
      simp only [Option.bind_some] at he
      obtain ⟨outs, he, _⟩ := nilCase_some he
      split at he
      · injection he with he; subst he
        intro x hx
        simp only [List.mem_append] at hx ⊢
        rcases hx with (hx | hx) | hx
        · obtain ⟨i, hi, rfl⟩ := List.mem_map.1 hx; exact .inl (.inl hi)
        · exact .inl (.inr (wrote_ids x hx))
        · exact .inr (List.mem_map.2 ⟨x, hx, rfl⟩)
      · cases he
  · cases he
theorem told_call {s : ASpec} {xs : List SV} (he : eCall P h some fr s xs = some e) : Told e := by
  unfold eCall at he
  cases hs : hasShr s.res <;> simp only [hs, cond_true, cond_false] at he
  · exact told_call0 he
  · unfold eCallShr at he
    split at he
    case h_2 => cases he
    simp only [cond_eq_ite] at he
    split at he
    · cases hd : s.den _ with
      | none => rw [hd] at he; simp at he
      | some outs =>
        rw [hd] at he
        simp only [Option.bind_some] at he
        injection he with he; subst he
        intro x hx
        obtain ⟨i, hi, rfl⟩ := List.mem_map.1 hx
        exact hi
    · cases he
theorem told_eqFl {F : Bool → Value} : ∀ {ts : List TypeId} {xs ys : List SV} {G : Bool → Bool}, eqFl P ts xs ys (fun b => some (⟨.sc (F (G b)), [], [], []⟩ : Eff)) = some e → Told e
  | [], [], [], G, he => by injection he with he; subst he; exact told_nil
  | t :: ts, x :: xs, y :: ys, G, he => by
    rw [eqFl] at he
    unfold eqSc at he
    split at he
    · split at he
      · exact told_eqFl (G := fun q => G (_ && q)) he
      · cases he
    · exact told_eqFl (G := fun q => G (_ && q)) he
    · exact told_eqFl (G := fun q => G (_ && q)) he
    · cases he
  | [], _ :: _, _, _, he => by simp [eqFl] at he
  | [], [], _ :: _, _, he => by simp [eqFl] at he
  | _ :: _, [], _, _, he => by simp [eqFl] at he
  | _ :: _, _ :: _, [], _, he => by simp [eqFl] at he
theorem told_bin {op : BinOp} {t : TypeId} {x y : SV} (he : eBin P op t x y (fun v => some (⟨.sc v, [], [], []⟩ : Eff)) = some e) : Told e := by
  unfold eBin at he
  split at he
  · unfold eqS at he
    simp only [cond_eq_ite] at he
    split at he
    · split at he
      · split at he
        · exact told_eqFl (F := fun b => .bool b) (G := fun b => b) he
        · exact told_eqFl (F := fun b => .bool b) (G := fun b => !b) he
        · cases he
      · cases he
    · cases he
  · unfold binK at he; repeat' split at he
    all_goals first
      | (cases he; done) | (injection he with he; subst he; exact told_nil)
      | (unfold intOp at he; repeat' split at he
         all_goals first | (cases he; done) | (injection he with he; subst he; exact told_nil))
      | (unfold strOp at he; repeat' split at he
         all_goals first | (cases he; done) | (injection he with he; subst he; exact told_nil))
theorem told_rowNil {h' : Nat → Own} {id : Nat} {b : Bool} (he : eRowNil h' id b (fun v => some (⟨.sc v, [], [], []⟩ : Eff)) = some e) : Told e := by
  unfold eRowNil at he
  split at he
  · rename_i u pv _
    cases hi : pv.items with
    | nil => rw [hi] at he; cases he
    | cons p ps => rw [hi] at he; injection he with he; subst he; exact told_nil
  · cases he
theorem told_binO {h' : Nat → Own} {op : BinOp} {t : TypeId} {z : Operand} {x y : SV} (he : eBinO P h' op t z x y (fun v => some (⟨.sc v, [], [], []⟩ : Eff)) = some e) : Told e := by
  unfold eBinO at he
  split at he
  · split at he
    all_goals first | (injection he with he; subst he; exact told_nil) | cases he
  · split at he
    all_goals first | (injection he with he; subst he; exact told_nil) | cases he
  · split at he
    all_goals first | exact told_rowNil he | cases he
  · exact told_bin he
theorem told {o : Oper} {xs : List SV} (he : opE P h some T fr o xs = some e) : Told e := by
  unfold opE at he
  repeat' split at he
  all_goals first
    | (cases he; done)
    | (injection he with he; subst he; exact told_nil)
    | exact told_call he
    | (unfold ePick at he; repeat' split at he
       all_goals first | (cases he; done) | (injection he with he; subst he; exact told_nil))
    | exact told_binO he
    | (unfold binK at he; repeat' split at he
       all_goals first
         | (cases he; done) | (injection he with he; subst he; exact told_nil)
         | (unfold intOp at he; repeat' split at he
            all_goals first | (cases he; done) | (injection he with he; subst he; exact told_nil))
         | (unfold strOp at he; repeat' split at he
            all_goals first | (cases he; done) | (injection he with he; subst he; exact told_nil)))
    | (unfold unK at he; repeat' split at he
       all_goals first | (cases he; done) | (injection he with he; subst he; exact told_nil))
    | (unfold eConvert at he; repeat' split at he
       all_goals first | (cases he; done) | (injection he with he; subst he; exact told_nil) | (injection he with he; subst he; intro x hx; simp at hx ⊢; simp [hx]))
    | (unfold eIndex eIndexV eIndexS at he; simp only [cond_eq_ite] at he; repeat' split at he
       all_goals first | (cases he; done) | (injection he with he; subst he; exact told_nil))
    | (unfold eIndexAddrG eIndexAddr eIndexArr eIndexAddrS at he; simp only [cond_eq_ite] at he; repeat' split at he
       all_goals first | (cases he; done) | (injection he with he; subst he; exact told_nil))
    | (unfold eIndexAddr eIndexArr eIndexAddrS at he; simp only [cond_eq_ite] at he; repeat' split at he
       all_goals first | (cases he; done) | (injection he with he; subst he; exact told_nil))
    | (unfold eFieldAddr at he; simp only [cond_eq_ite] at he; repeat' split at he
       all_goals first | (cases he; done) | (injection he with he; subst he; exact told_nil))
    | (unfold eField at he; simp only [cond_eq_ite] at he; repeat' split at he
       all_goals first | (cases he; done) | (injection he with he; subst he; exact told_nil))
    | (unfold eNilCheck at he; repeat' split at he
       all_goals first | (cases he; done) | (injection he with he; subst he; exact told_nil))
    | (unfold eLoadG eLoad at he; simp only [cond_eq_ite] at he; repeat' split at he
       all_goals first | (cases he; done) | (injection he with he; subst he; exact told_nil))
    | (unfold eLoad at he; simp only [cond_eq_ite] at he; repeat' split at he
       all_goals first | (cases he; done) | (injection he with he; subst he; exact told_nil))
    | (unfold eStore eStore0 eStoreIn at he; simp only [cond_eq_ite] at he; repeat' split at he
       all_goals first | (cases he; done) | (injection he with he; subst he; intro x hx; simp at hx ⊢; rcases hx with ⟨i, hi, rfl⟩ | rfl <;> simp_all) | (injection he with he; subst he; intro x hx; simp at hx ⊢; simp [hx]))
    | (unfold eAlloc at he; repeat' split at he
       all_goals first | (cases he; done) | (injection he with he; subst he; intro x hx; simp at hx ⊢; simp [hx]))
    | (unfold eBox at he; simp only [cond_eq_ite] at he; repeat' split at he
       all_goals first | (cases he; done) | (injection he with he; subst he; intro x hx; simp at hx ⊢; simp [hx]))
    | (unfold eBuild at he; simp only [cond_eq_ite] at he; repeat' split at he
       all_goals first | (cases he; done) | (injection he with he; subst he; exact told_nil))
    | (unfold eBuildSlice eBuildShl eBuildSlice0 at he; simp only [cond_eq_ite] at he; repeat' split at he
       all_goals first | (cases he; done) | (injection he with he; subst he; intro x hx; simp at hx ⊢; rcases hx with ⟨i, hi, rfl⟩ | rfl <;> simp_all))
    | (unfold eMakeSlice at he; repeat' split at he
       all_goals first | (cases he; done) | (injection he with he; subst he; intro x hx; simp at hx ⊢; simp [hx]))
    | (unfold eExtract at he; simp only [cond_eq_ite] at he; repeat' split at he
       all_goals first | (cases he; done) | (injection he with he; subst he; exact told_nil))
    | (unfold eSlice at he; simp only [cond_eq_ite] at he; repeat' split at he
       all_goals first | (cases he; done) | exact told_boundsK (fun l h e hf => by injection hf with hf; subst hf; exact told_nil) he)
    | (unfold eLen at he; repeat' split at he
       all_goals first | (cases he; done) | (injection he with he; subst he; exact told_nil))
    | (unfold eCopy at he; simp only [cond_eq_ite] at he; repeat' split at he
       all_goals first | (cases he; done) | (injection he with he; subst he; intro x hx; simp at hx ⊢; simp [hx]))
    | (unfold eAppend eAppend0 eAppendIn eAppendShl at he; simp only [cond_eq_ite] at he; repeat' split at he
       all_goals first | (cases he; done) | (injection he with he; subst he; intro x hx; simp at hx ⊢; rcases hx with ⟨i, hi, rfl⟩ | ⟨i, hi, rfl⟩ | rfl <;> simp_all))
end
section
variable {P : Program} {C : Cx} {M : Mm} {o : Oper} {a : Act} {e : Eff} {h' : Nat → Own} {fr : Nat} {T : FuncId → Option ASpec}
variable [Glb P]
theorem slots1 {x : SV} {y : Operand} (h : Slots P M [x] ([y].map a.eval)) : Slot P M x (a.eval y) := h.1
theorem slots2 {x x' : SV} {y y' : Operand} (h : Slots P M [x, x'] ([y, y'].map a.eval)) : Slot P M x (a.eval y) ∧ Slot P M x' (a.eval y') := ⟨h.1, h.2.1⟩
theorem slot_unCon {x : SV} {v : Value} (h : Slot P M x v) : Slot P M (unCon x) v := by
  cases x with
  | con g t pv =>
    obtain ⟨⟨_, h1⟩, h2⟩ := h.leaf_inv (by simp) (by simp) (by simp) (by simp) (by simp)
    exact .leaf _ _ h1 h2
  | _ => exact h
theorem idsOf_unCon (x : SV) : idsOf (unCon x) = idsOf x := by cases x <;> rfl
theorem run_max2 (ts : Array TypeId) (t : TypeId) (k k' : IntKind) (x y : Int) (w : World) : (Builtin.max_ ts t #[.int k x, .int k' y]).run P w = .ok (.int k (maxI x y)) w := run_max_int2 w ts t k k' x y
theorem run_min2 (ts : Array TypeId) (t : TypeId) (k k' : IntKind) (x y : Int) (w : World) : (Builtin.min_ ts t #[.int k x, .int k' y]).run P w = .ok (.int k (minI x y)) w := run_min_int2 w ts t k k' x y
theorem run_max3 (ts : Array TypeId) (t : TypeId) (k k' k2 : IntKind) (x y z : Int) (w : World) : (Builtin.max_ ts t #[.int k x, .int k' y, .int k2 z]).run P w = .ok (.int k (maxI (maxI x y) z)) w := by
  simp [Builtin.max_, Builtin.max2, maxI]
theorem run_min3 (ts : Array TypeId) (t : TypeId) (k k' k2 : IntKind) (x y z : Int) (w : World) : (Builtin.min_ ts t #[.int k x, .int k' y, .int k2 z]).run P w = .ok (.int k (minI (minI x y) z)) w := by
  simp [Builtin.min_, Builtin.min2, minI]
  try rfl
theorem run_max4 (ts : Array TypeId) (t : TypeId) (k k' k2 k3 : IntKind) (x y z u : Int) (w : World) : (Builtin.max_ ts t #[.int k x, .int k' y, .int k2 z, .int k3 u]).run P w = .ok (.int k (maxI (maxI (maxI x y) z) u)) w := by
  simp [Builtin.max_, Builtin.max2, maxI]
theorem run_min4 (ts : Array TypeId) (t : TypeId) (k k' k2 k3 : IntKind) (x y z u : Int) (w : World) : (Builtin.min_ ts t #[.int k x, .int k' y, .int k2 z, .int k3 u]).run P w = .ok (.int k (minI (minI (minI x y) z) u)) w := by
  simp [Builtin.min_, Builtin.min2, minI]
  try rfl
theorem args_len3 {x y z : SV} {l : List Operand} (hy : Slots P M [x, y, z] (l.map a.eval)) : ∃ p q r, l = [p, q, r] := by
  match l, hy with
  | [p, q, r], _ => exact ⟨p, q, r, rfl⟩
  | [], h => exact h.elim
  | [_], h => exact h.2.elim
  | [_, _], h => exact h.2.2.elim
  | _ :: _ :: _ :: _ :: _, h => exact h.2.2.2.elim
theorem args_len4 {x y z u : SV} {l : List Operand} (hy : Slots P M [x, y, z, u] (l.map a.eval)) : ∃ p q r s, l = [p, q, r, s] := by
  match l, hy with
  | [p, q, r, s], _ => exact ⟨p, q, r, s, rfl⟩
  | [], h => exact h.elim
  | [_], h => exact h.2.elim
  | [_, _], h => exact h.2.2.elim
  | [_, _, _], h => exact h.2.2.2.elim
  | _ :: _ :: _ :: _ :: _ :: _, h => exact h.2.2.2.2.elim
theorem opE_ok (hT : ∀ f s, T f = some s → TOk P C f s) (hm : At P C M) {xs : List SV} (hy : Slots P M xs ((opnds o.op).map a.eval)) (hh : ∀ id ∈ freshOf o fr ++ idsOfL xs, h' id = M.oh id) (hfree : ∀ id, h' id = .free → M.oh id = .free)
    (h : opE P h' some T fr o xs = some e) : OpOk P C M o a e := by
  have hi : ∀ id ∈ idsOfL xs, h' id = M.oh id := fun id hid => hh id (List.mem_append_right _ hid)
  have hf : ∀ id ∈ freshOf o fr, h' id = M.oh id := fun id hid => hh id (List.mem_append_left _ hid)
  unfold opE at h
  split at h <;> rename_i ho <;> simp only [opnds, ho] at hy
  case h_1 => injection h with h; subst h; exact ok_move hm ho hy.1
  case h_2 => injection h with h; subst h; exact ok_assign hm ho hy.1
  case h_3 => exact ok_pick hm ho hy.1 hy.2.1 hy.2.2.1 h
  case h_4 => exact ok_binO hm ho hy.1 hy.2.1 (fun id hid => hi id (by simp [idsOfL, hid])) h
  case h_5 => exact ok_unOp hm ho hy.1 h
  case h_6 => exact ok_convert hm ho hy.1 (fun id hid => hh id (by simpa [freshOf, ho, idsOfL] using hid)) h
  case h_7 => exact ok_index hm ho hy.1 hy.2.1 h
  case h_8 =>
    unfold eIndexAddrG at h
    split at h
    · rename_i u pv hg
      exact ok_indexAddr hm ho (hm.global hg) hy.2.1 (fun id hid => by simp [idsOf] at hid) h
    · cases h
  case h_9 => exact ok_indexAddr hm ho (slot_unCon hy.1) hy.2.1 (fun id hid => hi id (by rw [idsOf_unCon] at hid; simp [idsOfL, hid])) h
  case h_10 => exact ok_fieldAddr hm ho hy.1 (fun id hid => hi id (by simp [idsOfL, hid])) h
  case h_11 => exact ok_field hm ho hy.1 h
  case h_12 => exact ok_nilCheck hm ho hy.1 (fun id hid => hi id (by simp [idsOfL, hid])) h
  case h_13 =>
    unfold eLoadG at h
    split at h
    · rename_i u pv hg
      exact ok_load hm ho (hm.global hg) (fun id hid => by simp [idsOf] at hid) h
    · cases h
  case h_14 => exact ok_load hm ho hy.1 (fun id hid => hi id (by simp [idsOfL, hid])) h
  case h_15 => exact ok_store hm ho hy.1 hy.2.1 (fun id hid => hi id (by simpa [idsOfL] using hid)) h
  case h_16 => exact ok_alloc hm ho (fun id hid => hf id (by simpa [freshOf, ho] using hid)) h
  case h_17 => exact ok_box hm ho hy.1 (fun id hid => hf id (by simpa [freshOf, ho] using hid)) h
  case h_18 => exact ok_build hm ho (by rw [List.map_map] at hy; exact hy) h
  case h_19 => exact ok_buildSlice hm ho (by rw [List.map_map] at hy; exact hy) (fun id hid => hh id (by simpa [freshOf, ho] using hid)) h
  case h_20 => exact ok_makeSlice hm ho hy.1 hy.2.1 (fun id hid => hf id (by simpa [freshOf, ho] using hid)) h
  case h_21 => exact ok_extract hm ho hy.1 h
  case h_22 => exact ok_slice hm ho (slot_unCon hy.1) (by simpa using hy.2) (fun id hid => hi id (by rw [idsOf_unCon] at hid; simp [idsOfL, hid])) h
  case h_23 c =>
    split at h
    · rename_i hcal hat
      rename_i t x
      obtain ⟨y, hargs⟩ : ∃ y, c.args.toList = [y] := by
        cases hc : c.args.toList with
        | nil => rw [hc] at hy; exact hy.elim
        | cons y r => cases r with
          | nil => exact ⟨y, rfl⟩
          | cons => rw [hc] at hy; exact hy.2.elim
      rw [hargs] at hy
      have hargs' : c.args = #[y] := by rw [← Array.toArray_toList (xs := c.args), hargs]
      have hat' : c.argTypes[0]? = some t := by rw [← Array.getElem?_toList, hat]; rfl
      exact ok_len hm ho hcal hargs' hat' hy.1 (fun id hid => hi id (by simp [idsOfL, hid])) h
    · rename_i hcal hat
      rename_i t t' x x'
      obtain ⟨y, z, hargs⟩ : ∃ y z, c.args.toList = [y, z] := by
        cases hc : c.args.toList with
        | nil => rw [hc] at hy; exact hy.elim
        | cons y r => cases r with
          | nil => rw [hc] at hy; exact hy.2.elim
          | cons z r => cases r with
            | nil => exact ⟨y, z, rfl⟩
            | cons => rw [hc] at hy; exact hy.2.2.elim
      rw [hargs] at hy
      have hargs' : c.args = #[y, z] := by rw [← Array.toArray_toList (xs := c.args), hargs]
      have hat' : c.argTypes = #[t, t'] := by rw [← Array.toArray_toList (xs := c.argTypes), hat]
      exact ok_append hm ho hcal hargs' hat' hy.1 hy.2.1 (fun id hid => hh id (by
        rcases List.mem_cons.1 hid with rfl | hid
        · simp [freshOf, ho]
        · simp [idsOfL] at hid ⊢; exact .inr hid)) h
    · rename_i hcal hat
      rename_i t t' x x'
      obtain ⟨y, z, hargs⟩ : ∃ y z, c.args.toList = [y, z] := by
        cases hc : c.args.toList with
        | nil => rw [hc] at hy; exact hy.elim
        | cons y r => cases r with
          | nil => rw [hc] at hy; exact hy.2.elim
          | cons z r => cases r with
            | nil => exact ⟨y, z, rfl⟩
            | cons => rw [hc] at hy; exact hy.2.2.elim
      rw [hargs] at hy
      have hargs' : c.args = #[y, z] := by rw [← Array.toArray_toList (xs := c.args), hargs]
      have hat' : c.argTypes = #[t, t'] := by rw [← Array.toArray_toList (xs := c.argTypes), hat]
      exact ok_copy hm ho hcal hargs' hat' hy.1 hy.2.1 (fun id hid => hi id (by simp [idsOfL, hid])) h
    · rename_i hcal
      rename_i kd i kd' j
      obtain ⟨y, z, hargs⟩ : ∃ y z, c.args.toList = [y, z] := by
        cases hc : c.args.toList with
        | nil => rw [hc] at hy; exact hy.elim
        | cons y r => cases r with
          | nil => rw [hc] at hy; exact hy.2.elim
          | cons z r => cases r with
            | nil => exact ⟨y, z, rfl⟩
            | cons => rw [hc] at hy; exact hy.2.2.elim
      rw [hargs] at hy
      have hargs' : c.args = #[y, z] := by rw [← Array.toArray_toList (xs := c.args), hargs]
      injection h with h; subst h
      have hy1 := hy.1.sc_inv.1; have hz1 := hy.2.1.sc_inv.1
      have hr := run_max2 (P := P) c.argTypes o.type kd kd' i j M.w
      exact opOk_val (by simp [execOp, ho, resolve, hcal, hargs', hy1, hz1, invoke, builtin, hr]) (hm.pure (slot_sc rfl))
    · rename_i hcal
      rename_i kd i kd' j
      obtain ⟨y, z, hargs⟩ : ∃ y z, c.args.toList = [y, z] := by
        cases hc : c.args.toList with
        | nil => rw [hc] at hy; exact hy.elim
        | cons y r => cases r with
          | nil => rw [hc] at hy; exact hy.2.elim
          | cons z r => cases r with
            | nil => exact ⟨y, z, rfl⟩
            | cons => rw [hc] at hy; exact hy.2.2.elim
      rw [hargs] at hy
      have hargs' : c.args = #[y, z] := by rw [← Array.toArray_toList (xs := c.args), hargs]
      injection h with h; subst h
      have hy1 := hy.1.sc_inv.1; have hz1 := hy.2.1.sc_inv.1
      have hr := run_min2 (P := P) c.argTypes o.type kd kd' i j M.w
      exact opOk_val (by simp [execOp, ho, resolve, hcal, hargs', hy1, hz1, invoke, builtin, hr]) (hm.pure (slot_sc rfl))
    · rename_i hcal
      rename_i kd0 j0 kd1 j1 kd2 j2
      obtain ⟨y0, y1, y2, hargs⟩ : ∃ y0 y1 y2, c.args.toList = [y0, y1, y2] := args_len3 hy
      rw [hargs] at hy
      have hargs' : c.args = #[y0, y1, y2] := by rw [← Array.toArray_toList (xs := c.args), hargs]
      injection h with h; subst h
      have e0 := hy.1.sc_inv.1
      have e1 := hy.2.1.sc_inv.1
      have e2 := hy.2.2.1.sc_inv.1
      have hr := run_max3 (P := P) c.argTypes o.type kd0 kd1 kd2 j0 j1 j2 M.w
      exact opOk_val (by simp [execOp, ho, resolve, hcal, hargs', e0, e1, e2, invoke, builtin, hr]) (hm.pure (slot_sc rfl))
    · rename_i hcal
      rename_i kd0 j0 kd1 j1 kd2 j2
      obtain ⟨y0, y1, y2, hargs⟩ : ∃ y0 y1 y2, c.args.toList = [y0, y1, y2] := args_len3 hy
      rw [hargs] at hy
      have hargs' : c.args = #[y0, y1, y2] := by rw [← Array.toArray_toList (xs := c.args), hargs]
      injection h with h; subst h
      have e0 := hy.1.sc_inv.1
      have e1 := hy.2.1.sc_inv.1
      have e2 := hy.2.2.1.sc_inv.1
      have hr := run_min3 (P := P) c.argTypes o.type kd0 kd1 kd2 j0 j1 j2 M.w
      exact opOk_val (by simp [execOp, ho, resolve, hcal, hargs', e0, e1, e2, invoke, builtin, hr]) (hm.pure (slot_sc rfl))
    · rename_i hcal
      rename_i kd0 j0 kd1 j1 kd2 j2 kd3 j3
      obtain ⟨y0, y1, y2, y3, hargs⟩ : ∃ y0 y1 y2 y3, c.args.toList = [y0, y1, y2, y3] := args_len4 hy
      rw [hargs] at hy
      have hargs' : c.args = #[y0, y1, y2, y3] := by rw [← Array.toArray_toList (xs := c.args), hargs]
      injection h with h; subst h
      have e0 := hy.1.sc_inv.1
      have e1 := hy.2.1.sc_inv.1
      have e2 := hy.2.2.1.sc_inv.1
      have e3 := hy.2.2.2.1.sc_inv.1
      have hr := run_max4 (P := P) c.argTypes o.type kd0 kd1 kd2 kd3 j0 j1 j2 j3 M.w
      exact opOk_val (by simp [execOp, ho, resolve, hcal, hargs', e0, e1, e2, e3, invoke, builtin, hr]) (hm.pure (slot_sc rfl))
    · rename_i hcal
      rename_i kd0 j0 kd1 j1 kd2 j2 kd3 j3
      obtain ⟨y0, y1, y2, y3, hargs⟩ : ∃ y0 y1 y2 y3, c.args.toList = [y0, y1, y2, y3] := args_len4 hy
      rw [hargs] at hy
      have hargs' : c.args = #[y0, y1, y2, y3] := by rw [← Array.toArray_toList (xs := c.args), hargs]
      injection h with h; subst h
      have e0 := hy.1.sc_inv.1
      have e1 := hy.2.1.sc_inv.1
      have e2 := hy.2.2.1.sc_inv.1
      have e3 := hy.2.2.2.1.sc_inv.1
      have hr := run_min4 (P := P) c.argTypes o.type kd0 kd1 kd2 kd3 j0 j1 j2 j3 M.w
      exact opOk_val (by simp [execOp, ho, resolve, hcal, hargs', e0, e1, e2, e3, invoke, builtin, hr]) (hm.pure (slot_sc rfl))
    · rename_i hcal
      split at h
      · rename_i s hs
        exact ok_call hm ho hcal (hT _ _ hs) hy hi hfree h
      · cases h
    · cases h
  case h_24 => cases h
theorem opE_ok' (hT : ∀ f s, T f = some s → TOk P C f s) (hm : At P C M) {xs : List SV} (hy : Slots P M xs ((opnds o.op).map a.eval)) (hh : ∀ id ∈ idsFor o fr xs, h' id = M.oh id) (hfree : ∀ id, h' id = .free → M.oh id = .free)
    (h : opE P h' some T fr o xs = some e) : OpOk P C M o a e := by
  cases ho : o.op with
  | move y =>
    simp only [opnds, ho] at hy
    unfold opE at h
    simp only [ho] at h
    match xs, hy, h with
    | [x], hy, h => injection h with h; subst h; exact ok_move hm ho hy.1
    | [], hy, _ => exact hy.elim
    | _ :: _ :: _, hy, _ => exact hy.2.elim
  | assign y =>
    simp only [opnds, ho] at hy
    unfold opE at h
    simp only [ho] at h
    match xs, hy, h with
    | [x], hy, h => injection h with h; subst h; exact ok_assign hm ho hy.1
    | [], hy, _ => exact hy.elim
    | _ :: _ :: _, hy, _ => exact hy.2.elim
  | _ =>
    refine opE_ok hT hm hy (fun id hid => hh id ?_) hfree h
    simp only [idsFor, ho]
    exact hid
end
end Go.Proofs.YtfbkfhdlingedaaAm

/-! The machine's state and the frame's; one operation of a region. -/
namespace Go.Proofs.YtfbkfhdlingedaaAm
open Go RowKit
section
variable {P : Program} {C : Cx} {M : Mm} {σ σ' : St} {a a' : Act} {w w' : World} {o : Oper} {e : Eff} {v : Value} {x : SV} {T : FuncId → Option ASpec} {ops : Array Oper} {base fr : Nat}
variable [Glb P]
structure RelG (P : Program) [Glb P] (C : Cx) (σ : St) (a : Act) (w : World) (G : Gh) : Prop where
  at_ : At P C ⟨w, σ.oh, G⟩
  defers : a.defers = []
  size : σ.slots.length ≤ a.tmps.size
  slot : ∀ t, Slot P ⟨w, σ.oh, G⟩ (σ.slots.getD t .junk) (a.tmps.getD t undef)
def Rel (P : Program) [Glb P] (C : Cx) (σ : St) (a : Act) (w : World) : Prop := ∃ G, RelG P C σ a w G
theorem slot_evc (v : Value) : Slot P M (evc v) v := by
  unfold evc
  split
  · exact .leaf _ _ rfl rfl
  · cases h : v.oneCell'
    · exact .junk _
    · exact slot_sc h
theorem RelG.ev {G : Gh} (h : RelG P C σ a w G) (y : Operand) : Slot P ⟨w, σ.oh, G⟩ (σ.ev y) (a.eval y) := by
  cases y with
  | tmp t => exact h.slot t
  | const v => exact slot_evc v
  | global g => exact .junk _
  | func f => exact slot_sc rfl
theorem RelG.evs {G : Gh} (h : RelG P C σ a w G) : ∀ ys : List Operand, Slots P ⟨w, σ.oh, G⟩ (ys.map σ.ev) (ys.map a.eval)
  | [] => trivial
  | y :: ys => ⟨h.ev y, h.evs ys⟩
theorem Trans.at (hm : At P C M) {M' : Mm} {stale : List Nat} (ht : Trans P C M M' stale) : At P C M' where
  mem := ht.mem hm.mem
  glb := hm.glb
  ap := hm.ap
  pins := fun id hid => by
    have h0 := hm.pins id hid
    cases ht.ids id with
    | same h1 => rw [h1]; cases ho : M.oh id <;> simp [freshenOwn]; exact absurd ho h0
    | dead h1 => rw [h1]; simp
    | row t pv h1 => rw [h1]; simp
    | box t sv g cs h1 => rw [h1]; simp
    | hole t pv p h1 => rw [h1]; simp
    | fill t pv h1 => rw [h1]; simp
    | shl t ps h1 => rw [h1]; simp
theorem freshenL_getD (stale : List Nat) (l : List SV) (t : Nat) : (freshenL stale l).getD t .junk = freshen stale (l.getD t .junk) := by
  rw [List.getD_eq_getElem?_getD, List.getD_eq_getElem?_getD]
  induction l generalizing t with
  | nil => simp [freshenL, freshen]
  | cons x r ih => cases t with
    | zero => simp [freshenL]
    | succ t => simpa [freshenL] using ih t
theorem app_oh (σ : St) (d : Option Tmp) (e : Eff) : (σ.app d e).oh = newOh σ.oh e := by
  funext i
  unfold St.app St.freshen newOh
  cases hs : e.stale with
  | nil => exact (freshenOwn_nil _).symm
  | cons a r => rfl
def setD (s : List SV) (d : Option Tmp) (y : SV) : List SV := match d with | some d => s.set d y | none => s
theorem app_slots (σ : St) (d : Option Tmp) (e : Eff) : (σ.app d e).slots = freshenL e.stale (setD σ.slots d e.val) := by
  unfold St.app St.freshen setD
  cases hs : e.stale with
  | nil => exact (freshenL_nil _).symm
  | cons a r => rfl
/-- Behind an operation. -/
theorem RelG.move {G : Gh} (h : RelG P C σ a w G) (d : Option Tmp) (hg : Goes P C ⟨w, σ.oh, G⟩ e v w') : Rel P C (σ.app d e) (a.put d v) w' := by
  obtain ⟨G', ht, hs⟩ := hg
  have hoh := app_oh σ d e
  refine ⟨G', ?_, ?_, ?_, fun t => ?_⟩
  · rw [hoh]; exact ht.at h.at_
  · cases d <;> exact h.defers
  · rw [app_slots, freshenL_length]
    cases d <;> simpa [Act.put, setD] using h.size
  · rw [hoh, app_slots, freshenL_getD]
    cases d with
    | none => exact (h.slot t).step h.at_.mem ht
    | some d =>
      simp only [Act.put, setD]
      by_cases htd : t = d
      · subst htd
        by_cases hl : t < σ.slots.length
        · have hl' := Nat.lt_of_lt_of_le hl h.size
          have h1 : (σ.slots.set t e.val).getD t .junk = e.val := by simp [List.getD_eq_getElem?_getD, hl]
          have h2 : (a.tmps.setIfInBounds t v).getD t undef = v := by simp [Array.getD_eq_getD_getElem?, hl']
          rw [h1, h2]; exact hs
        · have h1 : (σ.slots.set t e.val).getD t .junk = .junk := by simp [List.getD_eq_getElem?_getD, Nat.le_of_not_lt hl]
          rw [h1]; exact .junk _
      · have h1 : (σ.slots.set d e.val).getD t .junk = σ.slots.getD t .junk := by simp [List.getD_eq_getElem?_getD, Ne.symm htd]
        have h2 : (a.tmps.setIfInBounds d v).getD t undef = a.tmps.getD t undef := by simp [Array.getD_eq_getD_getElem?, Array.getElem?_setIfInBounds_ne (Ne.symm htd)]
        rw [h1, h2]; exact (h.slot t).step h.at_.mem ht
/-- What an operation did. -/
structure Rec where
  e : Eff
  ids : List Nat
  on : Bool
def gslot (ops : Array Oper) (σ : St) (o : Oper) : Option (SV × Bool) := match o.guard with
  | none => none
  | some (j, pol) => match (ops[j]?).bind (·.dst) with
    | some d => some (σ.slots.getD d .junk, pol)
    | none => some (.junk, pol)
def GOn : Option (SV × Bool) → Prop
  | none => True
  | some (x, pol) => x = .sc (.bool pol)
def GOff : Option (SV × Bool) → Prop
  | none => False
  | some (x, pol) => x = .sc (.bool !pol) ∨ x = .undef
def StepOk (P : Program) [Glb P] (T : FuncId → Option ASpec) (ops : Array Oper) (fr : Nat) (o : Oper) (σ : St) (R : Rec) : Prop :=
  (R.on = true ∧ GOn (gslot ops σ o) ∧ R.ids = idsFor o fr ((opnds o.op).map σ.ev) ∧ opE P (restrict σ.oh R.ids) some T fr o ((opnds o.op).map σ.ev) = some R.e) ∨
  (R.on = false ∧ GOff (gslot ops σ o) ∧ R.ids = [] ∧ R.e = ⟨.undef, [], [], []⟩)
inductive Runs (P : Program) [Glb P] (T : FuncId → Option ASpec) (bs : Array Nat) (drawn : Bool) (ops : Array Oper) (base : Nat) : Nat → List Oper → St → List Acc → List Rec → St → Prop
  | nil (i : Nat) (σ : St) (accs : List Acc) : Runs P T bs drawn ops base i [] σ accs [] σ
  | cons (i : Nat) (o : Oper) (l : List Oper) (σ σ' : St) (accs : List Acc) (R : Rec) (recs : List Rec) : StepOk P T ops (base + 8 * i) o σ R →
      (drawn = true → R.on = true → clashFree (bs.getD i 0) R.ids R.e.wi (!isNil R.e.stale) accs = true) →
      Runs P T bs drawn ops base (i + 1) l (σ.app o.dst R.e) (if R.on = true then ⟨i, R.ids, R.e.wi, !isNil R.e.stale⟩ :: accs else accs) recs σ' →
      Runs P T bs drawn ops base i (o :: l) σ accs (R :: recs) σ'
theorem put_same {σ : St} {d : Tmp} {x : SV} (h : σ.slots.getD d .junk = x) (hx : x ≠ .junk) : σ.put (some d) x = σ := by
  unfold St.put
  have : σ.slots.set d x = σ.slots := by
    rw [List.getD_eq_getElem?_getD] at h
    cases hg : σ.slots[d]? with
    | none => rw [hg] at h; exact absurd h.symm hx
    | some y =>
      rw [hg] at h; simp at h; subst h
      exact List.ext_getElem? (fun i => by
        by_cases hi : d = i
        · subst hi; rw [hg]; simp [(List.getElem?_eq_some_iff.1 hg).1]
        · simp [hi])
  simp only [this]
theorem app_undef (σ : St) (d : Option Tmp) : σ.app d ⟨.undef, [], [], []⟩ = σ.put d .undef := by
  unfold St.app St.freshen St.put; cases d <;> rfl
theorem runOps_runs {α : Type} {bs : Array Nat} {drawn : Bool} {k : St → Option α} {r : α} : ∀ {l : List Oper} {i : Nat} {σ : St} {accs : List Acc}, runOps P T bs drawn ops base i l σ accs k = some r → ∃ recs σ', Runs P T bs drawn ops base i l σ accs recs σ' ∧ k σ' = some r
  | [], i, σ, accs, h => ⟨[], σ, .nil i σ accs, by simpa [runOps] using h⟩
  | o :: l, i, σ, accs, h => by
    have go : GOn (gslot ops σ o) → (opE P (restrict σ.oh (idsFor o (base + 8 * i) ((opnds o.op).map σ.ev))) (fun e =>
        bif drawn && !clashFree (bs.getD i 0) (idsFor o (base + 8 * i) ((opnds o.op).map σ.ev)) e.wi (!isNil e.stale) accs then none else runOps P T bs drawn ops base (i + 1) l (σ.app o.dst e) (⟨i, idsFor o (base + 8 * i) ((opnds o.op).map σ.ev), e.wi, !isNil e.stale⟩ :: accs) k) T (base + 8 * i) o ((opnds o.op).map σ.ev)) = some r →
        ∃ recs σ', Runs P T bs drawn ops base i (o :: l) σ accs recs σ' ∧ k σ' = some r := fun hg h => by
      rw [opE_nat] at h
      cases he : opE P (restrict σ.oh (idsFor o (base + 8 * i) ((opnds o.op).map σ.ev))) some T (base + 8 * i) o ((opnds o.op).map σ.ev) with
      | none => rw [he] at h; cases h
      | some e =>
        rw [he] at h
        simp only [Option.bind_some] at h
        cases hc : (drawn && !clashFree (bs.getD i 0) (idsFor o (base + 8 * i) ((opnds o.op).map σ.ev)) e.wi (!isNil e.stale) accs) <;> simp only [hc, cond_true, cond_false] at h
        · obtain ⟨recs, σ', h1, h2⟩ := runOps_runs h
          refine ⟨⟨e, idsFor o (base + 8 * i) ((opnds o.op).map σ.ev), true⟩ :: recs, σ', .cons i o l σ σ' accs _ recs (.inl ⟨rfl, hg, rfl, he⟩) (fun hd _ => ?_) (by simpa using h1), h2⟩
          subst hd; simpa using hc
        · cases h
    have off : GOff (gslot ops σ o) → runOps P T bs drawn ops base (i + 1) l (σ.put o.dst .undef) accs k = some r → ∃ recs σ', Runs P T bs drawn ops base i (o :: l) σ accs recs σ' ∧ k σ' = some r := fun hg h => by
      rw [← app_undef] at h
      obtain ⟨recs, σ', h1, h2⟩ := runOps_runs h
      exact ⟨⟨⟨.undef, [], [], []⟩, [], false⟩ :: recs, σ', .cons i o l σ σ' accs _ recs (.inr ⟨rfl, hg, rfl, rfl⟩) (fun _ h => by cases h) (by simpa using h1), h2⟩
    unfold runOps at h
    cases hgu : o.guard with
    | none =>
      rw [hgu] at h
      exact go (by simp [gslot, hgu, GOn]) h
    | some g =>
      obtain ⟨j, pol⟩ := g
      rw [hgu] at h
      simp only at h
      cases hd : (ops[j]?).bind (·.dst) with
      | none => rw [hd] at h; cases h
      | some d =>
        rw [hd] at h
        simp only at h
        have hgs : gslot ops σ o = some (σ.slots.getD d .junk, pol) := by simp only [gslot, hgu, hd]
        split at h
        · rename_i b hb
          have hp : ∀ c, b = c → σ.put (some d) (.sc (.bool c)) = σ := fun c hc => by subst hc; exact put_same hb (by simp)
          split at h
          · rename_i hbp
            rw [hp pol hbp] at h
            exact go (by rw [hgs]; simp only [GOn]; rw [hb, hbp]) h
          · rename_i hbp
            have hbn : b = !pol := by cases b <;> cases pol <;> simp_all
            rw [hp _ hbn] at h
            exact off (by rw [hgs]; simp only [GOff]; rw [hb, hbn]; exact .inl rfl) h
        · rename_i hu
          exact off (by rw [hgs]; simp only [GOff]; rw [hu]; exact .inr rfl) h
        · cases h
theorem undef_sc {G : Gh} (h : RelG P C σ a w G) {d : Tmp} (hs : σ.slots.getD d .junk = .undef) : a.tmps.getD d undef = undef := by
  have := h.slot d
  rw [hs] at this
  generalize a.tmps.getD d undef = y at this
  cases this with
  | undef => rfl
  | leaf _ _ hl => exact hl.elim
theorem getD_some_of {xs : Array Value} {d : Nat} {v : Value} (h : xs.getD d undef = v) (hv : v ≠ undef) : xs[d]? = some v := by
  rw [Array.getD_eq_getD_getElem?] at h
  cases hx : xs[d]? with
  | none => rw [hx] at h; exact absurd h.symm hv
  | some y => rw [hx] at h; simp at h; rw [h]
/-- One operation of a region, in the model. -/
theorem step_sound {Q : Exit → Act → World → Prop} (hT : ∀ f s, T f = some s → TOk P C f s) {i : Nat} (hi : ops[i]? = some o) (hR : Rel P C σ a w) {R : Rec} (hs : StepOk P T ops fr o σ R) {K : Act → World → Prop} (hK : ∀ a' w', Rel P C (σ.app o.dst R.e) a' w' → K a' w') : wpOp P ops Q i K a w := by
  obtain ⟨G, hG⟩ := hR
  unfold wpOp
  simp only [hi]
  have hun : undef ≠ .bool true ∧ undef ≠ .bool false := by unfold undef; simp
  rcases hs with ⟨_, hg, hids, he⟩ | ⟨_, hg, _, he⟩
  · have hw : Region.wanted o (yielded ops a.tmps) = true := by
      unfold Region.wanted
      cases hgu : o.guard with
      | none => rfl
      | some g =>
        obtain ⟨j, pol⟩ := g
        simp only [gslot, hgu] at hg
        cases hd : (ops[j]?).bind (·.dst) with
        | none => rw [hd] at hg; cases hg
        | some d =>
          rw [hd] at hg
          have hsl := hG.slot d
          have hgx : σ.slots.getD d .junk = .sc (.bool pol) := hg
          rw [hgx] at hsl
          have := getD_some_of hsl.sc_inv.1 (by cases pol <;> simp [undef])
          simp [yielded, hd, this]
    rw [if_pos hw]
    refine .inl ?_
    have hop : OpOk P C ⟨w, σ.oh, G⟩ o a R.e := opE_ok' (h' := restrict σ.oh R.ids) hT hG.at_ (hG.evs _) (fun id hid => by
        rw [← hids] at hid
        simp [restrict, memB_mem.2 hid]) (fun id hid => by
        simp only [restrict] at hid
        cases hb : memB R.ids id <;> rw [hb] at hid
        · cases hid
        · exact hid) he
    exact hop K Q (fun v w' hgo => hK _ _ (hG.move o.dst hgo))
  · have hw : Region.wanted o (yielded ops a.tmps) = false := by
      unfold Region.wanted
      cases hgu : o.guard with
      | none => simp [gslot, hgu, GOff] at hg
      | some g =>
        obtain ⟨j, pol⟩ := g
        simp only [gslot, hgu] at hg
        cases hd : (ops[j]?).bind (·.dst) with
        | none => rw [hd] at hg; rcases hg with hg | hg <;> cases hg
        | some d =>
          rw [hd] at hg
          have hsl := hG.slot d
          rcases hg with hg | hg
          · have hgx : σ.slots.getD d .junk = .sc (.bool !pol) := hg
            rw [hgx] at hsl
            have := getD_some_of hsl.sc_inv.1 (by cases pol <;> simp [undef])
            simp [yielded, hd, this]
          · have hu := undef_sc hG hg
            cases hx : a.tmps[d]? with
            | none => simp [yielded, hd, hx]
            | some y =>
              have : y = undef := by rw [Array.getD_eq_getD_getElem?, hx] at hu; exact hu
              subst this
              simp [yielded, hd, hx, undef]
    rw [hw]
    simp only [Bool.false_eq_true, if_false]
    rw [he] at hK
    exact hK _ _ (hG.move o.dst (hG.at_.pure .undef))
end
end Go.Proofs.YtfbkfhdlingedaaAm

/-! A region in the order of its text; what a run of it tells. -/
namespace Go.Proofs.YtfbkfhdlingedaaAm
open Go RowKit
section
variable {P : Program} {C : Cx} {M : Mm} {σ σ' : St} {a a' : Act} {w w' : World} {o : Oper} {e : Eff} {v : Value} {x : SV} {T : FuncId → Option ASpec} {ops : Array Oper} {base fr : Nat} {bs : Array Nat} {drawn : Bool}
variable [Glb P]
theorem runs_list {Q : Exit → Act → World → Prop} (hT : ∀ f s, T f = some s → TOk P C f s) : ∀ {l : List Oper} {i : Nat} {σ : St} {accs : List Acc} {recs : List Rec} {σ' : St} {a : Act} {w : World}, Runs P T bs drawn ops base i l σ accs recs σ' → (∀ m o, l[m]? = some o → ops[i + m]? = some o) → Rel P C σ a w →
    (∀ a' w', Rel P C σ' a' w' → Q .normal a' w') → wpOps P ops Q (List.range' i l.length) a w
  | [], i, σ, accs, recs, σ', a, w, h, _, hR, hQ => by
    cases h with
    | nil => exact hQ _ _ hR
  | o :: l, i, σ, accs, recs, σ', a, w, h, hl, hR, hQ => by
    cases h with
    | cons _ _ _ _ _ _ R recs h1 h2 h3 =>
      rw [List.length_cons, List.range'_succ, wpOps_cons]
      refine step_sound hT (hl 0 o rfl) hR h1 (fun a' w' hR' => ?_)
      exact runs_list hT h3 (fun m o' hm => by
        have := hl (m + 1) o' (by simpa using hm)
        rw [show i + 1 + m = i + (m + 1) by omega]; exact this) hR' hQ
theorem region_text {α : Type} {Q : Exit → Act → World → Prop} (hT : ∀ f s, T f = some s → TOk P C f s) {k : St → Option α} {r : α} {id : Nat} (h : runOps P T bs false ops base 0 ops.toList σ [] k = some r) (hR : Rel P C σ a w)
    (hQ : ∀ σ' a' w', k σ' = some r → Rel P C σ' a' w' → Q .normal a' w') : (Code.region id ops false).wp P Q a w := by
  obtain ⟨recs, σ', h1, h2⟩ := runOps_runs h
  refine wp_region ?_
  have := runs_list (Q := Q) hT h1 (fun m o hm => by simpa using hm) hR (fun a' w' hR' => hQ σ' a' w' h2 hR')
  rwa [List.range_eq_range', ← Array.length_toList]
/-! ### What a run tells -/
def dstOf (ops : Array Oper) (i : Nat) : Option Tmp := (ops[i]?).bind (·.dst)
def appI (ops : Array Oper) (R : Nat → Rec) (i : Nat) (σ : St) : St := σ.app (dstOf ops i) (R i).e
/-- The state behind those of the first m operations that c picks. -/
def stc (ops : Array Oper) (R : Nat → Rec) (σ : St) (c : Nat → Bool) : Nat → St
  | 0 => σ
  | m + 1 => if c m = true then appI ops R m (stc ops R σ c m) else stc ops R σ c m
structure Clash (R : Nat → Rec) (i j : Nat) : Prop where
  si : (R i).e.stale = []
  sj : (R j).e.stale = []
  a : ∀ k ∈ (R j).e.wi, k ∉ (R i).ids
  b : ∀ k ∈ (R j).e.wi, k ∉ (R i).e.wi
  c : ∀ k ∈ (R i).e.wi, k ∉ (R j).ids
theorem isNil_eq {l : List Nat} (h : isNil l = true) : l = [] := by cases l <;> simp [isNil] at h; rfl
theorem clashFree_spec {bf : Nat} {R : Nat → Rec} {j : Nat} {accs : List Acc} (h : clashFree bf (R j).ids (R j).e.wi (!isNil (R j).e.stale) accs = true) {i : Nat} (hi : ⟨i, (R i).ids, (R i).e.wi, !isNil (R i).e.stale⟩ ∈ accs) : bf.testBit i = true ∨ Clash R i j := by
  have := List.all_eq_true.1 h _ hi
  simp only [Bool.or_eq_true, Bool.and_eq_true, Bool.not_not] at this
  rcases this with h1 | ⟨⟨⟨⟨h1, h2⟩, h3⟩, h4⟩, h5⟩
  · exact .inl h1
  · exact .inr ⟨isNil_eq h2, isNil_eq h1, disj_spec h3, disj_spec h4, disj_spec h5⟩
theorem runs_full {R : Nat → Rec} {σ0 : St} : ∀ {l : List Oper} {i : Nat} {σ : St} {accs : List Acc} {recs : List Rec} {σ' : St}, Runs P T bs true ops base i l σ accs recs σ' → (∀ m r, recs[m]? = some r → R (i + m) = r) → (∀ m o, l[m]? = some o → ops[i + m]? = some o) →
    σ = stc ops R σ0 (fun _ => true) i → (∀ j, j < i → (R j).on = true → ⟨j, (R j).ids, (R j).e.wi, !isNil (R j).e.stale⟩ ∈ accs) →
    σ' = stc ops R σ0 (fun _ => true) (i + l.length) ∧ ∀ m o, l[m]? = some o → StepOk P T ops (base + 8 * (i + m)) o (stc ops R σ0 (fun _ => true) (i + m)) (R (i + m)) ∧ ((R (i + m)).on = true → ∀ j, j < i + m → (R j).on = true → (bs.getD (i + m) 0).testBit j = true ∨ Clash R j (i + m))
  | [], i, σ, accs, recs, σ', h, _, _, hs, _ => by
    cases h with
    | nil => exact ⟨hs, fun m o hm => by simp at hm⟩
  | o :: l, i, σ, accs, recs, σ', h, hrec, hl, hs, hacc => by
    cases h with
    | cons _ _ _ _ _ _ R0 recs h1 h2 h3 =>
      have hRi : R i = R0 := hrec 0 R0 rfl
      have hoi : ops[i]? = some o := hl 0 o rfl
      have hdst : dstOf ops i = o.dst := by unfold dstOf; rw [hoi]; rfl
      have hs' : σ.app o.dst R0.e = stc ops R σ0 (fun _ => true) (i + 1) := by
        show _ = if true = true then appI ops R i (stc ops R σ0 (fun _ => true) i) else _
        rw [if_pos rfl, ← hs, appI, hRi, hdst]
      obtain ⟨a1, a2⟩ := runs_full (R := R) (σ0 := σ0) h3 (fun m r hm => by
        have := hrec (m + 1) r (by simpa using hm)
        rw [show i + 1 + m = i + (m + 1) by omega]; exact this) (fun m o' hm => by
        have := hl (m + 1) o' (by simpa using hm)
        rw [show i + 1 + m = i + (m + 1) by omega]; exact this) hs' (fun j hj hon => by
        by_cases hji : j = i
        · subst hji
          rw [hRi] at hon ⊢
          rw [if_pos hon]; simp
        · have := hacc j (by omega) hon
          split
          · exact List.mem_cons_of_mem _ this
          · exact this)
      refine ⟨by rw [a1]; congr 1; simp; omega, fun m o' hm => ?_⟩
      cases m with
      | zero =>
        simp at hm; subst hm
        simp only [Nat.add_zero]
        rw [hRi, ← hs]
        refine ⟨h1, fun hon j hj hjon => ?_⟩
        have hc := h2 rfl hon
        rw [← hRi] at hc
        exact clashFree_spec hc (hacc j hj hjon)
      | succ m =>
        have := a2 m o' (by simpa using hm)
        rw [show i + 1 + m = i + (m + 1) by omega] at this
        exact this
end
end Go.Proofs.YtfbkfhdlingedaaAm

/-! Operations that do not meet may change places. -/
namespace Go.Proofs.YtfbkfhdlingedaaAm
open Go RowKit
def looks (ops : Array Oper) (o : Oper) : List Tmp :=
  ((opnds o.op).filterMap fun | .tmp t => some t | _ => none) ++ (match o.guard with | some (g, _) => ((ops[g]?).bind (·.dst)).toList | none => [])
section
variable {P : Program} {C : Cx} {M : Mm} {σ σ' : St} {a a' : Act} {w w' : World} {o : Oper} {e : Eff} {v : Value} {x : SV} {T : FuncId → Option ASpec} {ops : Array Oper} {base fr : Nat} {bs : Array Nat} {drawn : Bool} {R : Nat → Rec} {i j : Nat} {l : List Nat}
variable [Glb P]
theorem looks_tmp {t : Tmp} (h : Operand.tmp t ∈ opnds o.op) : t ∈ looks ops o := List.mem_append_left _ (List.mem_filterMap.2 ⟨_, h, rfl⟩)
theorem looks_guard {g : Nat} {b : Bool} {d : Tmp} (h : o.guard = some (g, b)) (hd : (ops[g]?).bind (·.dst) = some d) : d ∈ looks ops o := by
  refine List.mem_append_right _ ?_
  rw [h]; simp only [hd]; simp
theorem gslot_congr (hs : ∀ t ∈ looks ops o, σ'.slots.getD t .junk = σ.slots.getD t .junk) : gslot ops σ' o = gslot ops σ o := by
  unfold gslot
  cases hg : o.guard with
  | none => rfl
  | some g =>
    obtain ⟨j, pol⟩ := g
    simp only
    cases hd : (ops[j]?).bind (·.dst) with
    | none => rfl
    | some d => simp only; rw [hs d (looks_guard hg hd)]
theorem evs_congr (hs : ∀ t ∈ looks ops o, σ'.slots.getD t .junk = σ.slots.getD t .junk) : (opnds o.op).map σ'.ev = (opnds o.op).map σ.ev := by
  refine List.map_congr_left fun y hy => ?_
  cases y with
  | tmp t => exact hs t (looks_tmp hy)
  | _ => rfl
theorem restrict_congr (h : ∀ id ∈ l, σ'.oh id = σ.oh id) : restrict σ'.oh l = restrict σ.oh l := by
  funext i
  unfold restrict
  cases hb : memB l i
  · rfl
  · exact h i (memB_mem.1 hb)
theorem stepOk_congr {R : Rec} (hs : ∀ t ∈ looks ops o, σ'.slots.getD t .junk = σ.slots.getD t .junk) (hh : ∀ id ∈ R.ids, σ'.oh id = σ.oh id) : StepOk P T ops fr o σ' R ↔ StepOk P T ops fr o σ R := by
  unfold StepOk
  rw [gslot_congr hs, evs_congr hs, restrict_congr hh]
theorem freshen_sc {st : List Nat} {v : Value} : freshen st x = .sc v ↔ x = .sc v := by
  cases x with
  | ref id p => cases p <;> simp [freshen]; cases memB st id <;> simp
  | view id p => cases p <;> simp [freshen]; cases memB st id <;> simp
  | ptr id p => simp [freshen]; cases memB st id <;> simp; cases twoIdx p <;> simp
  | _ => simp [freshen]
theorem freshen_undef {st : List Nat} : freshen st x = .undef ↔ x = .undef := by
  cases x with
  | ref id p => cases p <;> simp [freshen]; cases memB st id <;> simp
  | view id p => cases p <;> simp [freshen]; cases memB st id <;> simp
  | ptr id p => simp [freshen]; cases memB st id <;> simp; cases twoIdx p <;> simp
  | _ => simp [freshen]
theorem goff_congr {st : List Nat} (hs : ∀ t ∈ looks ops o, σ'.slots.getD t .junk = freshen st (σ.slots.getD t .junk)) : GOff (gslot ops σ' o) ↔ GOff (gslot ops σ o) := by
  unfold gslot
  cases hg : o.guard with
  | none => exact Iff.rfl
  | some g =>
    obtain ⟨j, pol⟩ := g
    simp only
    cases hd : (ops[j]?).bind (·.dst) with
    | none => exact Iff.rfl
    | some d => simp only [GOff]; rw [hs d (looks_guard hg hd), freshen_sc, freshen_undef]
theorem fold_out {ws : List (Nat × Own)} {h : Nat → Own} {i : Nat} (hi : ∀ x ∈ ws, x.1 ≠ i) : ws.foldl (fun h x => upd h x.1 x.2) h i = h i := by
  induction ws generalizing h with
  | nil => rfl
  | cons x r ih =>
    rw [List.foldl_cons, ih (fun y hy => hi y (List.mem_cons_of_mem _ hy))]
    simp [upd, beq_ne (Ne.symm (hi x (by simp)))]
theorem fold_base {ws : List (Nat × Own)} {h h' : Nat → Own} {i : Nat} (hi : h i = h' i) : ws.foldl (fun h x => upd h x.1 x.2) h i = ws.foldl (fun h x => upd h x.1 x.2) h' i := by
  induction ws generalizing h h' with
  | nil => exact hi
  | cons x r ih =>
    rw [List.foldl_cons, List.foldl_cons]
    refine ih ?_
    simp only [upd]
    cases Nat.beq i x.1
    · exact hi
    · rfl
theorem newOh_out (ht : Told e) (hs : e.stale = []) {h : Nat → Own} {i : Nat} (hi : i ∉ e.wi) : newOh h e i = h i := by
  unfold newOh
  rw [hs, freshenOwn_nil]
  exact fold_out (fun x hx he => hi (he ▸ ht x hx))
theorem newOh_base {h h' : Nat → Own} {i : Nat} (hi : h i = h' i) : newOh h e i = newOh h' e i := by
  unfold newOh
  rw [fold_base hi]
theorem set_getD {d : Option Tmp} {s : List SV} {y : SV} {t : Tmp} (h : d ≠ some t) : (setD s d y).getD t .junk = s.getD t .junk := by
  unfold setD
  cases d with
  | none => rfl
  | some d =>
    have : d ≠ t := fun he => h (by rw [he])
    simp [List.getD_eq_getElem?_getD, this]
theorem freshenL_set {st : List Nat} : ∀ (s : List SV) (d : Nat) (y : SV), freshenL st (s.set d y) = (freshenL st s).set d (freshen st y)
  | [], d, y => by simp [freshenL]
  | x :: r, 0, y => by simp [freshenL]
  | x :: r, d + 1, y => by simp [freshenL, freshenL_set r d y]
def Quiet (r : Rec) : Prop := r.on = false ∧ r.ids = [] ∧ r.e = ⟨.undef, [], [], []⟩
structure Apart (ops : Array Oper) (oi oj : Oper) : Prop where
  a : ∀ d, oi.dst = some d → d ∉ looks ops oj
  b : ∀ d, oi.dst = some d → oj.dst ≠ some d
  c : ∀ d, oj.dst = some d → d ∉ looks ops oi
structure Ind (ops : Array Oper) (R : Nat → Rec) (i j : Nat) : Prop where
  ap : ∀ oi oj, ops[i]? = some oi → ops[j]? = some oj → Apart ops oi oj
  cl : Clash R i j ∨ Quiet (R i) ∨ Quiet (R j)
theorem Ind.symm (h : Ind ops R i j) : Ind ops R j i where
  ap := fun oj oi hj hi => ⟨(h.ap oi oj hi hj).c, fun d hd hd' => (h.ap oi oj hi hj).b d hd' hd, (h.ap oi oj hi hj).a⟩
  cl := by
    rcases h.cl with h | h | h
    · exact .inl ⟨h.sj, h.si, h.c, fun k hk hk' => h.b k hk' hk, h.a⟩
    · exact .inr (.inr h)
    · exact .inr (.inl h)
theorem dstOf_eq {oi : Oper} (hi : ops[i]? = some oi) : dstOf ops i = oi.dst := by unfold dstOf; rw [hi]; rfl
/-- What j does, i does not see. -/
theorem stepOk_app {oi oj : Oper} (hi : ops[i]? = some oi) (hj : ops[j]? = some oj) (h : Ind ops R i j) (ht : Told (R j).e) : StepOk P T ops fr oi (appI ops R j σ) (R i) ↔ StepOk P T ops fr oi σ (R i) := by
  have hap := h.ap oi oj hi hj
  have hslots : ∀ t ∈ looks ops oi, (appI ops R j σ).slots.getD t .junk = freshen (R j).e.stale (σ.slots.getD t .junk) := fun t ht => by
    unfold appI
    rw [app_slots, freshenL_getD, dstOf_eq hj, set_getD (fun hd => hap.c t hd ht)]
  have key : (R j).e.stale = [] → (∀ k ∈ (R j).e.wi, k ∉ (R i).ids) → (StepOk P T ops fr oi (appI ops R j σ) (R i) ↔ StepOk P T ops fr oi σ (R i)) := fun hst hw => by
    refine stepOk_congr (fun t ht => ?_) (fun id hid => ?_)
    · rw [hslots t ht, hst, freshen_nil]
    · unfold appI
      rw [app_oh]
      exact newOh_out ht hst (fun hk => hw id hk hid)
  rcases h.cl with h | h | h
  · exact key h.sj h.a
  · unfold StepOk
    have hon : ¬ (R i).on = true := by rw [h.1]; simp
    rw [goff_congr hslots]
    constructor <;> rintro (⟨h1, _⟩ | h1)
    · exact absurd h1 hon
    · exact .inr h1
    · exact absurd h1 hon
    · exact .inr h1
  · exact key (by rw [h.2.2]) (by rw [h.2.2]; simp)
theorem St.ext' {σ σ' : St} (h1 : σ.slots = σ'.slots) (h2 : σ.oh = σ'.oh) : σ = σ' := by
  cases σ; cases σ'; simp at h1 h2; rw [h1, h2]
theorem app_quiet_slots {st : List Nat} {di dj : Option Tmp} {s : List SV} {y : SV} (hd : ∀ d, di = some d → dj ≠ some d) :
    setD (freshenL st (setD s dj y)) di .undef = freshenL st (setD (setD s di .undef) dj y) := by
  unfold setD
  cases di with
  | none => cases dj <;> rfl
  | some d =>
    have hu : freshen st .undef = .undef := rfl
    cases dj with
    | none => simp only; rw [freshenL_set, hu]
    | some d' =>
      have hne : d ≠ d' := fun he => hd d rfl (by rw [he])
      simp only
      rw [freshenL_set, freshenL_set, freshenL_set, hu, List.set_comm _ _ (Ne.symm hne)]
theorem app_quiet {di dj : Option Tmp} (e : Eff) (hd : ∀ d, di = some d → dj ≠ some d) : (σ.app dj e).app di ⟨.undef, [], [], []⟩ = (σ.app di ⟨.undef, [], [], []⟩).app dj e := by
  refine St.ext' ?_ ?_
  · rw [app_slots, app_slots, app_slots, app_slots]
    simp only [freshenL_nil]
    exact app_quiet_slots hd
  · rw [app_oh, app_oh, app_oh, app_oh]
    have : ∀ h, newOh h (⟨.undef, [], [], []⟩ : Eff) = h := fun h => funext fun i => freshenOwn_nil _
    rw [this, this]
/-- Two that do not meet. -/
theorem app_comm {oi oj : Oper} (hi : ops[i]? = some oi) (hj : ops[j]? = some oj) (h : Ind ops R i j) (hti : Told (R i).e) (htj : Told (R j).e) : appI ops R i (appI ops R j σ) = appI ops R j (appI ops R i σ) := by
  have hap := h.ap oi oj hi hj
  unfold appI
  rw [dstOf_eq hi, dstOf_eq hj]
  rcases h.cl with h | h | h
  · refine St.ext' ?_ ?_
    · rw [app_slots, app_slots, app_slots, app_slots, h.si, h.sj]
      simp only [freshenL_nil, setD]
      cases hdi : oi.dst with
      | none => rfl
      | some d =>
        cases hdj : oj.dst with
        | none => rfl
        | some d' =>
          have hne : d ≠ d' := fun he => hap.b d hdi (by rw [hdj, he])
          exact List.set_comm _ _ (Ne.symm hne)
    · rw [app_oh, app_oh, app_oh, app_oh]
      funext id
      by_cases h1 : id ∈ (R j).e.wi
      · have h2 : id ∉ (R i).e.wi := h.b id h1
        rw [newOh_out hti h.si h2]
        exact newOh_base (newOh_out hti h.si h2).symm
      · rw [newOh_out htj h.sj h1]
        exact newOh_base (newOh_out htj h.sj h1)
  · rw [h.2.2]; exact app_quiet _ hap.b
  · rw [h.2.2]; exact (app_quiet _ (fun d hd hd' => hap.b d hd' hd)).symm
end
end Go.Proofs.YtfbkfhdlingedaaAm

/-! A region whose order is drawn. -/
namespace Go.Proofs.YtfbkfhdlingedaaAm
open Go RowKit
def apartB (ops : Array Oper) (oi oj : Oper) : Bool :=
  (match oi.dst with
   | some d => !memB (looks ops oj) d && (match oj.dst with | some d' => !Nat.beq d' d | none => true)
   | none => true) &&
  (match oj.dst with
   | some d => !memB (looks ops oi) d
   | none => true)
def slotsRow (ops : Array Oper) (bj : Nat) (oj : Oper) : Nat → List Oper → Bool
  | _, [] => true
  | i, oi :: r => (bj.testBit i || apartB ops oi oj) && slotsRow ops bj oj (i + 1) r
def edgesOk (j : Nat) (o : Oper) : Bool := o.after.toList.all fun e => !Region.binds .any e || Nat.blt e.on j
def regOkL (ops : Array Oper) (bs : Array Nat) : Nat → List Oper → Bool
  | _, [] => true
  | j, o :: r => edgesOk j o && slotsRow ops (bs.getD j 0) o 0 (ops.toList.take j) && regOkL ops bs (j + 1) r
/-- A drawn region's own check: its edges lead back, and what is not ordered keeps to its own temporaries. -/
def regOk (ops : Array Oper) : Bool := regOkL ops (Region.before ops) 0 ops.toList
section
variable {ops : Array Oper} {bs : Array Nat}
theorem slotsRow_spec {bj : Nat} {oj : Oper} : ∀ {l : List Oper} {i : Nat}, slotsRow ops bj oj i l = true → ∀ m o, l[m]? = some o → bj.testBit (i + m) = true ∨ apartB ops o oj = true
  | [], i, _, m, o, hm => by simp at hm
  | x :: r, i, h, m, o, hm => by
    simp only [slotsRow, Bool.and_eq_true, Bool.or_eq_true] at h
    cases m with
    | zero => simp at hm; subst hm; exact h.1
    | succ m =>
      have := slotsRow_spec h.2 m o (by simpa using hm)
      rwa [show i + 1 + m = i + (m + 1) by omega] at this
theorem regOkL_spec : ∀ {l : List Oper} {j : Nat}, regOkL ops bs j l = true → ∀ m o, l[m]? = some o → edgesOk (j + m) o = true ∧ slotsRow ops (bs.getD (j + m) 0) o 0 (ops.toList.take (j + m)) = true
  | [], i, _, m, o, hm => by simp at hm
  | x :: r, j, h, m, o, hm => by
    simp only [regOkL, Bool.and_eq_true] at h
    cases m with
    | zero => simp at hm; subst hm; exact h.1
    | succ m =>
      have := regOkL_spec h.2 m o (by simpa using hm)
      rwa [show j + 1 + m = j + (m + 1) by omega] at this
theorem apartB_spec {oi oj : Oper} (h : apartB ops oi oj = true) : Apart ops oi oj := by
  simp only [apartB, Bool.and_eq_true] at h
  have no : ∀ {l : List Nat} {d : Nat}, (!memB l d) = true → d ∉ l := fun hl hd => by rw [memB_mem.2 hd] at hl; cases hl
  refine ⟨fun d hd => ?_, fun d hd hd' => ?_, fun d hd => ?_⟩
  · have h1 := h.1; rw [hd] at h1; simp only [Bool.and_eq_true] at h1; exact no h1.1
  · have h1 := h.1; rw [hd] at h1; simp only [Bool.and_eq_true] at h1
    have h2 := h1.2; rw [hd'] at h2; simp at h2
  · have h1 := h.2; rw [hd] at h1; exact no h1
/-! ### Which come before -/
def oneB (look : Nat → Nat) (o : Oper) : Nat := o.after.foldl (fun s e => if Region.binds .any e then s ||| 2 ^ e.on ||| look e.on else s) 0
def befL (acc : Array Nat) (l : List Oper) : Array Nat := l.foldl (fun acc o => acc.push (oneB (fun i => acc.getD i 0) o)) acc
theorem before_eq (ops : Array Oper) : Region.before ops = befL #[] ops.toList := by
  unfold Region.before befL oneB
  rw [← Array.foldl_toList]
theorem befL_size : ∀ (l : List Oper) (acc : Array Nat), (befL acc l).size = acc.size + l.length
  | [], acc => rfl
  | o :: l, acc => by
    show (befL (acc.push _) l).size = _
    rw [befL_size]; simp; omega
theorem befL_old : ∀ (l : List Oper) (acc : Array Nat) (i : Nat), i < acc.size → (befL acc l).getD i 0 = acc.getD i 0
  | [], acc, i, _ => rfl
  | o :: l, acc, i, hi => by
    show (befL (acc.push _) l).getD i 0 = _
    rw [befL_old l _ i (by simp; omega)]
    simp [Array.getD_eq_getD_getElem?, Array.getElem?_push, Nat.ne_of_lt hi]
theorem fold_testBit (look : Nat → Nat) (b : Nat) : ∀ (l : List Edge) (s : Nat), ((l.foldl (fun s e => if Region.binds .any e then s ||| 2 ^ e.on ||| look e.on else s) s).testBit b = true) ↔ (s.testBit b = true ∨ ∃ e ∈ l, Region.binds .any e = true ∧ (b = e.on ∨ (look e.on).testBit b = true))
  | [], s => by simp
  | e :: l, s => by
    rw [List.foldl_cons, fold_testBit look b l]
    by_cases hb : Region.binds .any e = true
    · rw [if_pos hb, Nat.testBit_or, Nat.testBit_or, Nat.testBit_two_pow]
      simp only [Bool.or_eq_true, decide_eq_true_eq, List.mem_cons, exists_eq_or_imp, hb, true_and]
      constructor
      · rintro (((h | h) | h) | h)
        · exact .inl h
        · exact .inr (.inl (.inl h.symm))
        · exact .inr (.inl (.inr h))
        · exact .inr (.inr h)
      · rintro (h | (h | h) | h)
        · exact .inl (.inl (.inl h))
        · exact .inl (.inl (.inr h.symm))
        · exact .inl (.inr h)
        · exact .inr h
    · rw [if_neg hb]
      simp [hb]
theorem oneB_testBit (look : Nat → Nat) (o : Oper) (b : Nat) : (oneB look o).testBit b = true ↔ ∃ e ∈ o.after, Region.binds .any e = true ∧ (b = e.on ∨ (look e.on).testBit b = true) := by
  unfold oneB
  rw [← Array.foldl_toList, fold_testBit]
  simp
theorem befL_new : ∀ (l : List Oper) (acc : Array Nat) (m : Nat) (o : Oper), l[m]? = some o → edgesOk (acc.size + m) o = true → ∀ b, ((befL acc l).getD (acc.size + m) 0).testBit b = true ↔ ∃ e ∈ o.after, Region.binds .any e = true ∧ (b = e.on ∨ ((befL acc l).getD e.on 0).testBit b = true)
  | [], acc, m, o, hm, _, b => by simp at hm
  | x :: l, acc, 0, o, hm, he, b => by
    simp at hm; subst hm
    have h1 : (befL acc (x :: l)).getD (acc.size + 0) 0 = oneB (fun i => acc.getD i 0) x := by
      show (befL (acc.push _) l).getD acc.size 0 = _
      rw [befL_old l _ _ (by simp)]
      simp [Array.getD_eq_getD_getElem?]
    rw [h1, oneB_testBit]
    have hlt : ∀ e ∈ x.after, Region.binds .any e = true → e.on < acc.size := fun e hm hb => by
      have := List.all_eq_true.1 he e (by simpa using hm)
      simpa [hb, Nat.blt_eq] using this
    constructor <;> rintro ⟨e, e1, e2, e3⟩ <;> refine ⟨e, e1, e2, e3.imp id (fun h => ?_)⟩
    · rw [befL_old _ _ _ (hlt e e1 e2)]; exact h
    · rw [befL_old _ _ _ (hlt e e1 e2)] at h; exact h
  | x :: l, acc, m + 1, o, hm, he, b => by
    have hs : (acc.push (oneB (fun i => acc.getD i 0) x)).size + m = acc.size + (m + 1) := by simp; omega
    have := befL_new l (acc.push (oneB (fun i => acc.getD i 0) x)) m o (by simpa using hm) (by rw [hs]; exact he) b
    rw [hs] at this
    exact this
/-- The numbers of those before j, edge by edge. -/
theorem before_spec (h : regOk ops = true) {j : Nat} {o : Oper} (ho : ops[j]? = some o) (b : Nat) : ((Region.before ops).getD j 0).testBit b = true ↔ ∃ e ∈ o.after, Region.binds .any e = true ∧ (b = e.on ∨ ((Region.before ops).getD e.on 0).testBit b = true) := by
  have he := (regOkL_spec h j o (by simpa using ho)).1
  have := befL_new ops.toList #[] j o (by simpa using ho) (by simpa using he) b
  rw [before_eq]
  simpa using this
theorem edge_lt (h : regOk ops = true) {j : Nat} {o : Oper} (ho : ops[j]? = some o) {e : Edge} (he : e ∈ o.after) (hb : Region.binds .any e = true) : e.on < j := by
  have h1 := (regOkL_spec h j o (by simpa using ho)).1
  have := List.all_eq_true.1 h1 e (by simpa using he)
  simpa [hb, Nat.blt_eq] using this
theorem before_size : (Region.before ops).size = ops.size := by rw [before_eq, befL_size]; simp
theorem before_lt (h : regOk ops = true) : ∀ {j b : Nat}, ((Region.before ops).getD j 0).testBit b = true → b < j := by
  intro j
  induction j using Nat.strongRecOn with
  | ind j ih =>
    intro b hb
    cases ho : ops[j]? with
    | none =>
      have hj : ops.size ≤ j := by simpa using ho
      have : (Region.before ops).getD j 0 = 0 := by
        rw [Array.getD_eq_getD_getElem?, Array.getElem?_eq_none (by rw [before_size]; exact hj)]; rfl
      rw [this] at hb; simp at hb
    | some o =>
      obtain ⟨e, e1, e2, e3⟩ := (before_spec h ho b).1 hb
      have hlt := edge_lt h ho e1 e2
      rcases e3 with rfl | e3
      · exact hlt
      · exact Nat.lt_trans (ih _ hlt e3) hlt
end
end Go.Proofs.YtfbkfhdlingedaaAm

/-! A region whose order is drawn: every order ends alike. -/
namespace Go.Proofs.YtfbkfhdlingedaaAm
open Go RowKit
section
variable {P : Program} {C : Cx} {σ : St} {a : Act} {w : World} {T : FuncId → Option ASpec} {ops : Array Oper} {base : Nat} {R : Nat → Rec} {c : Nat → Bool} {i j m : Nat}
variable [Glb P]
def ins (c : Nat → Bool) (i : Nat) : Nat → Bool := fun k => c k || Nat.beq k i
theorem ins_self : ins c i i = true := by simp [ins]
theorem ins_ne (h : j ≠ i) : ins c i j = c j := by simp [ins, beq_ne h]
theorem ins_of (h : c j = true) : ins c i j = true := by simp [ins, h]
/-- What is known of a run of the region in its text's order. -/
structure Reg (P : Program) [Glb P] (T : FuncId → Option ASpec) (ops : Array Oper) (base : Nat) (R : Nat → Rec) (σ : St) (bf : Nat → Nat) : Prop where
  step : ∀ i o, ops[i]? = some o → StepOk P T ops (base + 8 * i) o (stc ops R σ (fun _ => true) i) (R i)
  ind : ∀ i j, i < j → j < ops.size → (bf j).testBit i = true ∨ Ind ops R i j
  told : ∀ i, i < ops.size → Told (R i).e
  bf : ∀ i j, (bf j).testBit i = true → i < j
variable {bf : Nat → Nat}
def Closed (bf : Nat → Nat) (c : Nat → Bool) : Prop := ∀ i j, c j = true → (bf j).testBit i = true → c i = true
theorem stc_congr {c' : Nat → Bool} : ∀ {m : Nat}, (∀ k, k < m → c k = c' k) → stc ops R σ c m = stc ops R σ c' m
  | 0, _ => rfl
  | m + 1, h => by
    have ih := stc_congr (m := m) (fun k hk => h k (by omega))
    simp only [stc, h m (by omega), ih]
theorem op_of (h : i < ops.size) : ∃ o, ops[i]? = some o := ⟨ops[i], by simp [h]⟩
theorem stc_ins (hr : Reg P T ops base R σ bf) (hc : Closed bf c) (hi : c i = false) : ∀ {m : Nat}, i < m → m ≤ ops.size → stc ops R σ (ins c i) m = appI ops R i (stc ops R σ c m)
  | 0, h, _ => by omega
  | m + 1, h, hm => by
    by_cases he : m = i
    · subst he
      have h1 : stc ops R σ (ins c m) m = stc ops R σ c m := stc_congr (fun k hk => ins_ne (by omega))
      simp only [stc, ins_self, if_true, hi, Bool.false_eq_true, if_false, h1]
    · have ih := stc_ins hr hc hi (m := m) (by omega) (by omega)
      simp only [stc, ins_ne he]
      cases hcm : c m
      · simpa using ih
      · simp only [if_true]
        rw [ih]
        rcases hr.ind i m (by omega) (by omega) with hb | hb
        · rw [hc i m hcm hb] at hi; cases hi
        · obtain ⟨oi, hoi⟩ := op_of (ops := ops) (i := i) (by omega)
          obtain ⟨om, hom⟩ := op_of (ops := ops) (i := m) (by omega)
          exact (app_comm hoi hom hb (hr.told i (by omega)) (hr.told m (by omega))).symm
theorem closed_ins (hc : Closed bf c) (hi : ∀ j, (bf i).testBit j = true → c j = true) : Closed bf (ins c i) := fun a b hb hab => by
  by_cases he : b = i
  · subst he; exact ins_of (hi a hab)
  · rw [ins_ne he] at hb; exact ins_of (hc a b hb hab)
/-- What stands before i in the picked ones: enough. -/
theorem stepOk_below (hr : Reg P T ops base R σ bf) {o : Oper} (ho : ops[i]? = some o) : ∀ (d k : Nat), d + k = i → ∀ c, Closed bf c → (∀ j, j < k → c j = true) → (∀ j, (bf i).testBit j = true → c j = true) → StepOk P T ops (base + 8 * i) o (stc ops R σ c i) (R i)
  | 0, k, hk, c, hc, hb, hp => by
    have : stc ops R σ c i = stc ops R σ (fun _ => true) i := stc_congr (fun j hj => hb j (by omega))
    rw [this]; exact hr.step i o ho
  | d + 1, k, hk, c, hc, hb, hp => by
    have hsz : i < ops.size := (Array.getElem?_eq_some_iff.1 ho).1
    cases hck : c k
    · have hcl : Closed bf (ins c k) := closed_ins hc (fun j hj => hb j (hr.bf j k hj))
      have := stepOk_below hr ho d (k + 1) (by omega) (ins c k) hcl (fun j hj => by
        by_cases he : j = k
        · subst he; exact ins_self
        · exact ins_of (hb j (by omega))) (fun j hj => ins_of (hp j hj))
      rw [stc_ins hr hc hck (by omega) (by omega)] at this
      rcases hr.ind k i (by omega) hsz with h | h
      · rw [hp k h] at hck; cases hck
      · obtain ⟨ok, hok⟩ := op_of (ops := ops) (i := k) (by omega)
        exact (stepOk_app ho hok h.symm (hr.told k (by omega))).1 this
    · exact stepOk_below hr ho d (k + 1) (by omega) c hc (fun j hj => by
        by_cases he : j = k
        · subst he; exact hck
        · exact hb j (by omega)) hp
theorem stepOk_all (hr : Reg P T ops base R σ bf) {o : Oper} (ho : ops[i]? = some o) (hc : Closed bf c) (hi : c i = false) (hp : ∀ j, (bf i).testBit j = true → c j = true) : ∀ {m : Nat}, i ≤ m → m ≤ ops.size → StepOk P T ops (base + 8 * i) o (stc ops R σ c m) (R i)
  | 0, h, _ => by
    have : i = 0 := by omega
    subst this
    exact stepOk_below hr ho 0 0 rfl c hc (fun j hj => by omega) hp
  | m + 1, h, hm => by
    by_cases he : i = m + 1
    · subst he
      exact stepOk_below hr ho (m + 1) 0 (by omega) c hc (fun j hj => by omega) hp
    · have ih := stepOk_all hr ho hc hi hp (m := m) (by omega) (by omega)
      simp only [stc]
      cases hcm : c m
      · simpa using ih
      · simp only [if_true]
        have hne : i ≠ m := fun h => by rw [h, hcm] at hi; cases hi
        rcases hr.ind i m (by omega) (by omega) with hb | hb
        · rw [hc i m hcm hb] at hi; cases hi
        · obtain ⟨om, hom⟩ := op_of (ops := ops) (i := m) (by omega)
          exact (stepOk_app ho hom hb (hr.told m (by omega))).2 ih
/-! How many are left -/
def cnt (c : Nat → Bool) : Nat → Nat
  | 0 => 0
  | m + 1 => cnt c m + (if c m = true then 0 else 1)
theorem cnt_ins_below : ∀ {m : Nat}, m ≤ i → cnt (ins c i) m = cnt c m
  | 0, _ => rfl
  | m + 1, h => by simp only [cnt, cnt_ins_below (m := m) (by omega), ins_ne (c := c) (show m ≠ i by omega)]
theorem cnt_ins (hi : c i = false) : ∀ {m : Nat}, i < m → cnt (ins c i) m + 1 = cnt c m
  | 0, h => by omega
  | m + 1, h => by
    by_cases he : m = i
    · subst he
      simp only [cnt, cnt_ins_below (c := c) (Nat.le_refl m), ins_self, hi]; simp
    · have := cnt_ins hi (m := m) (by omega)
      simp only [cnt, ins_ne (c := c) he]; omega
theorem cnt_zero : ∀ {m : Nat}, cnt c m = 0 → ∀ j, j < m → c j = true
  | 0, _, j, h => by omega
  | m + 1, h, j, hj => by
    simp only [cnt] at h
    by_cases he : j = m
    · subst he
      cases hc : c j
      · rw [hc] at h; simp at h
      · rfl
    · exact cnt_zero (m := m) (by omega) j (by omega)
def lst (listed : Array Bool) : Nat → Bool := fun i => listed.getD i false
theorem lst_set {listed : Array Bool} (hi : i < listed.size) : lst (listed.setIfInBounds i true) = ins (lst listed) i := by
  funext k
  unfold lst ins
  by_cases hk : k = i
  · subst hk; simp [hi]
  · rw [getD_set_ne false (Ne.symm hk), beq_ne hk]; simp
theorem any_sound {Q : Exit → Act → World → Prop} (hT : ∀ f s, T f = some s → TOk P C f s) (hok : regOk ops = true) (hr : Reg P T ops base R σ (fun j => (Region.before ops).getD j 0)) (hQ : ∀ a w, Rel P C (stc ops R σ (fun _ => true) ops.size) a w → Q .normal a w) :
    ∀ (fuel : Nat) (listed : Array Bool) (a : Act) (w : World), listed.size = ops.size → Closed (fun j => (Region.before ops).getD j 0) (lst listed) → cnt (lst listed) ops.size ≤ fuel → Rel P C (stc ops R σ (lst listed) ops.size) a w → wpAny P .any ops Q fuel listed a w := by
  intro fuel
  have done : ∀ (listed : Array Bool) (a : Act) (w : World), (∀ j, j < ops.size → lst listed j = true) → Rel P C (stc ops R σ (lst listed) ops.size) a w → Q .normal a w := fun listed a w hall hR => by
    rw [stc_congr (c' := fun _ => true) (fun k hk => hall k hk)] at hR
    exact hQ a w hR
  have noReady : ∀ (listed : Array Bool), listed.size = ops.size → (∀ j, j < ops.size → lst listed j = true) → Region.ready .any ops listed = [] := fun listed hsz hall => by
    cases hrd : Region.ready .any ops listed with
    | nil => rfl
    | cons x xs =>
      have hx : x ∈ Region.ready .any ops listed := by rw [hrd]; simp
      obtain ⟨h1, o, ho, _⟩ := mem_ready.1 hx
      have hlt : x < ops.size := (Array.getElem?_eq_some_iff.1 ho).1
      have := hall x hlt
      unfold lst at this
      rw [Array.getD_eq_getD_getElem?] at h1 this
      have hl : listed[x]? = some (listed[x]'(by omega)) := by simp [hsz, hlt]
      rw [hl] at h1 this
      simp at h1 this
      rw [this] at h1; cases h1
  induction fuel with
  | zero =>
    intro listed a w hsz hc hn hR
    have hall := cnt_zero (c := lst listed) (m := ops.size) (by omega)
    exact ⟨noReady listed hsz hall, done listed a w hall hR⟩
  | succ fuel ih =>
    intro listed a w hsz hc hn hR
    refine ⟨fun hnil => done listed a w ?_ hR, fun i hi => ?_⟩
    · intro j
      induction j using Nat.strongRecOn with
      | ind j ihj =>
        intro hj
        cases hcj : lst listed j
        · exfalso
          obtain ⟨o, ho⟩ := op_of hj
          have : j ∈ Region.ready .any ops listed := by
            refine mem_ready.2 ⟨?_, o, ho, fun e he hb => ihj e.on (edge_lt hok ho he hb) (Nat.lt_trans (edge_lt hok ho he hb) hj)⟩
            have hl : listed[j]? = some (listed[j]'(by omega)) := by simp [hsz, hj]
            unfold lst at hcj
            rw [Array.getD_eq_getD_getElem?, hl] at hcj ⊢
            simpa using hcj
          rw [hnil] at this; cases this
        · rfl
    · obtain ⟨h1, o, ho, hafter⟩ := mem_ready.1 hi
      have hlt : i < ops.size := (Array.getElem?_eq_some_iff.1 ho).1
      have hci : lst listed i = false := by
        have hl : listed[i]? = some (listed[i]'(by omega)) := by simp [hsz, hlt]
        unfold lst
        rw [Array.getD_eq_getD_getElem?, hl] at h1 ⊢
        simpa using h1
      have hp : ∀ j, ((Region.before ops).getD i 0).testBit j = true → lst listed j = true := fun j hj => by
        obtain ⟨e, e1, e2, e3⟩ := (before_spec hok ho j).1 hj
        have h2 : lst listed e.on = true := hafter e e1 e2
        rcases e3 with rfl | e3
        · exact h2
        · exact hc j e.on h2 e3
      refine step_sound hT ho hR (stepOk_all hr ho hc hci hp (Nat.le_of_lt hlt) (Nat.le_refl _)) (fun a' w' hR' => ?_)
      have hset := lst_set (listed := listed) (i := i) (by omega)
      refine ih _ a' w' (by simpa using hsz) (by rw [hset]; exact closed_ins hc hp) ?_ ?_
      · rw [hset]
        have := cnt_ins (c := lst listed) hci (m := ops.size) hlt
        omega
      · rw [hset, stc_ins hr hc hci hlt (Nat.le_refl _)]
        unfold appI
        rw [dstOf_eq ho]; exact hR'
theorem rel_drawn {n : Nat} (h : Rel P C σ a w) : Rel P C σ a { w with drawn := n } := by
  obtain ⟨G, hG⟩ := h
  have ht : Trans P C ⟨w, σ.oh, G⟩ ⟨{ w with drawn := n }, σ.oh, G⟩ [] := by
    have hm := hG.at_.mem
    exact ⟨⟨hm.kept.os, hm.kept.tape, hm.kept.output, hm.kept.size, hm.kept.block⟩, Nat.le_refl _, fun id => .same (freshenOwn_nil _).symm rfl rfl (fun _ _ => rfl), hm.nd, hm.dj, hm.own, hG.at_.pins, fun k _ h => ⟨h, rfl⟩, ⟨rfl, rfl⟩⟩
  refine ⟨G, ht.at hG.at_, hG.defers, hG.size, fun t => ?_⟩
  have := (hG.slot t).step hG.at_.mem ht
  rwa [freshen_nil] at this
theorem region_drawn {α : Type} {Q : Exit → Act → World → Prop} (hmix : P.follows .mixedOrders = true) (hT : ∀ f s, T f = some s → TOk P C f s) {k : St → Option α} {r : α} {id : Nat} (hok : regOk ops = true) (h : runOps P T (Region.before ops) true ops base 0 ops.toList σ [] k = some r) (hR : Rel P C σ a w)
    (hQ : ∀ σ' a' w', k σ' = some r → Rel P C σ' a' w' → Q .normal a' w') : (Code.region id ops true).wp P Q a w := by
  obtain ⟨recs, σ', h1, h2⟩ := runOps_runs h
  let R : Nat → Rec := fun i => recs.getD i ⟨⟨.undef, [], [], []⟩, [], false⟩
  obtain ⟨hs, hall⟩ := runs_full (R := R) (σ0 := σ) h1 (fun m r hm => by simp [R, List.getD_eq_getElem?_getD, hm]) (fun m o hm => by simpa using hm) rfl (fun j hj => by omega)
  simp only [Nat.zero_add, Array.length_toList] at hs hall
  have hquiet : ∀ i o, ops[i]? = some o → (R i).on = true ∨ Quiet (R i) := fun i o ho => by
    rcases (hall i o (by simpa using ho)).1 with ⟨h, _⟩ | ⟨h1, _, h2, h3⟩
    · exact .inl h
    · exact .inr ⟨h1, h2, h3⟩
  have hr : Reg P T ops base R σ (fun j => (Region.before ops).getD j 0) := by
    refine ⟨fun i o ho => (hall i o (by simpa using ho)).1, fun i j hij hj => ?_, fun i hi => ?_, fun i j h => before_lt hok h⟩
    · obtain ⟨oi, hoi⟩ := op_of (ops := ops) (i := i) (by omega)
      obtain ⟨oj, hoj⟩ := op_of (ops := ops) (i := j) hj
      have hrow := (regOkL_spec hok j oj (by simpa using hoj)).2
      simp only [Nat.zero_add] at hrow
      have := slotsRow_spec hrow i oi (by simp [List.getElem?_take, hij]; simpa using hoi)
      simp only [Nat.zero_add] at this
      rcases this with hb | hap
      · exact .inl hb
      · have hap' : ∀ oi' oj', ops[i]? = some oi' → ops[j]? = some oj' → Apart ops oi' oj' := fun oi' oj' h1 h2 => by
          rw [hoi] at h1; rw [hoj] at h2
          injection h1 with h1; injection h2 with h2; subst h1 h2
          exact apartB_spec hap
        rcases hquiet i oi hoi with hi | hi
        · rcases hquiet j oj hoj with hj' | hj'
          · rcases (hall j oj (by simpa using hoj)).2 hj' i hij hi with hb | hcl
            · exact .inl hb
            · exact .inr ⟨hap', .inl hcl⟩
          · exact .inr ⟨hap', .inr (.inr hj')⟩
        · exact .inr ⟨hap', .inr (.inl hi)⟩
    · obtain ⟨o, ho⟩ := op_of hi
      rcases (hall i o (by simpa using ho)).1 with ⟨_, _, _, h⟩ | ⟨_, _, _, h⟩
      · exact told h
      · rw [h]; exact told_nil
  refine wp_region_any hmix ?_
  have hnone : lst (Array.replicate ops.size false) = fun _ => false := by
    funext k; unfold lst; simp [Array.getD_eq_getD_getElem?, Array.getElem?_replicate]; split <;> rfl
  have hst : ∀ m, stc ops R σ (fun _ => false) m = σ := fun m => by
    induction m with
    | zero => rfl
    | succ m ih => simp only [stc, Bool.false_eq_true, if_false, ih]
  have hcn : ∀ m, cnt (fun _ => false) m = m := fun m => by
    induction m with
    | zero => rfl
    | succ m ih => simp [cnt, ih]
  refine any_sound hT hok hr (fun a w hR' => hQ σ' a w h2 (by rw [hs]; exact hR')) ops.size _ a _ (by simp) ?_ ?_ ?_
  · rw [hnone]; exact fun _ _ h => by cases h
  · rw [hnone, hcn]; exact Nat.le_refl _
  · rw [hnone, hst]; exact rel_drawn hR
end
end Go.Proofs.YtfbkfhdlingedaaAm

/-! A loop's head: numbers anew, slots forgotten, nil slices owned. -/
namespace Go.Proofs.YtfbkfhdlingedaaAm
open Go RowKit
section
variable {P : Program} {C : Cx} {σ : St} {a : Act} {w : World} {M M' : Mm} {l : List Nat} {x : SV} {v : Value} {t : TypeId}
variable [Glb P]
/-- Numbers anew: j is what l has at j. -/
structure Ren (M M' : Mm) (l : List Nat) : Prop where
  w : M'.w = M.w
  nd : l.Nodup
  oh : ∀ j i, l[j]? = some i → M'.oh j = renOwn l (M.oh i) ∧ M'.G.hnd j = M.G.hnd i ∧ M'.G.ft j = M.G.ft i
  out : ∀ j, l[j]? = none → M'.oh j = .free ∧ M'.G.ft j = []
  gh : M'.G.cv = M.G.cv ∧ M'.G.rok = M.G.rok
theorem Ren.ok (h : Ren M M' l) {k : Nat} (hk : M.ok k) : M'.ok k := by
  refine ⟨by rw [h.gh.2]; exact hk.1, fun j hj => ?_⟩
  cases hl : l[j]? with
  | none => rw [(h.out j hl).2] at hj; cases hj
  | some i => rw [(h.oh j i hl).2.2] at hj; exact hk.2 i hj
theorem find_get : ∀ {l : List Nat} {i : Nat}, memB l i = true → l[l.findIdx (Nat.beq i)]? = some i
  | [], i, h => by simp [memB] at h
  | a :: r, i, h => by
    rw [List.findIdx_cons]
    cases hb : Nat.beq i a
    · simp only [cond_false]
      have : memB r i = true := by simpa [memB, hb] using h
      simpa using find_get this
    · simp only [cond_true]
      have : i = a := Nat.beq_eq.mp hb
      simp [this]
theorem Leaf.ren (h : Ren M M' l) (hl : Leaf P M x v) : YtfbkfhdlingedaaAm.ren l x = .junk ∨ Leaf P M' (YtfbkfhdlingedaaAm.ren l x) v := by
  have hw := h.w
  cases x with
  | junk => exact hl.elim
  | undef => exact hl.elim
  | agg => exact hl.elim
  | arr => exact hl.elim
  | tup => exact hl.elim
  | nil => exact .inr hl
  | sc => exact .inr hl
  | err => exact .inr hl
  | ro t pv =>
    obtain ⟨n, e, h1, h2⟩ := hl
    exact .inr ⟨n, e, h1, by rw [hw]; exact h2.mono (fun k hk => h.ok hk)⟩
  | con g t pv =>
    obtain ⟨h0, n, e, h1, h2⟩ := hl
    exact .inr ⟨h0.trans (congrFun h.gh.1 g).symm, n, e, h1, by rw [hw]; exact h2.mono (fun k hk => h.ok hk)⟩
  | rop t pv =>
    obtain ⟨a, n, cs, h1, h2, h3, h4, h5⟩ := hl
    refine .inr ⟨a, n, cs, h1, h.ok h2, ?_, ?_, ?_⟩
    · rw [hw]; exact h3
    · rw [hw]; exact h4
    · rw [hw]; exact h5.mono (fun k hk => h.ok hk)
  | ref id p =>
    simp only [YtfbkfhdlingedaaAm.ren]
    cases hb : memB l id
    · exact .inl rfl
    · refine .inr ?_
      obtain ⟨h1, h2, h3⟩ := h.oh _ _ (find_get hb)
      simp only [cond_true, Leaf] at hl ⊢
      rw [h1, h2, hw]
      cases ho : M.oh id <;> rw [ho] at hl <;> simp only [renOwn] <;> exact hl
  | view id p lo hi =>
    simp only [YtfbkfhdlingedaaAm.ren]
    cases hb : memB l id
    · exact .inl rfl
    · refine .inr ?_
      obtain ⟨h1, h2, h3⟩ := h.oh _ _ (find_get hb)
      simp only [cond_true, Leaf] at hl ⊢
      rw [h1, h2, hw]
      cases ho : M.oh id <;> rw [ho] at hl <;> simp only [renOwn] <;> exact hl
  | ptr id p =>
    simp only [YtfbkfhdlingedaaAm.ren]
    cases hb : memB l id
    · exact .inl rfl
    · refine .inr ?_
      obtain ⟨h1, h2, h3⟩ := h.oh _ _ (find_get hb)
      simp only [cond_true, Leaf] at hl ⊢
      rw [h1, h2, hw]
      cases ho : M.oh id <;> rw [ho] at hl <;> simp only [renOwn] <;> exact hl
mutual
theorem SVc.ren (h : Ren M M' l) : ∀ {t : TypeId} {x : SV} {cs : List Value}, SVc P M t x cs → SVc P M' t (YtfbkfhdlingedaaAm.ren l x) cs
  | t, _, cs, .junk _ _ h1 h2 => .junk t cs h1 h2
  | t, x, _, .leaf _ _ v h1 h2 h3 h4 => by
    rcases h1.ren h with h5 | h5
    · rw [h5]; exact .junk _ _ (by simp [h3]) (by simpa using h2)
    · exact .leaf t _ v h5 h2 h3 h4
  | t, _, cs, .agg _ u fs xs _ h1 h2 h3 => .agg t u fs _ cs h1 h2 (SVcL.ren h h3)
  | t, _, cs, .arr _ u k pv _ h1 h2 => .arr t u k pv cs h1 h2
theorem SVcL.ren (h : Ren M M' l) : ∀ {ts : List TypeId} {xs : List SV} {cs : List Value}, SVcL P M ts xs cs → SVcL P M' ts (renL l xs) cs
  | _, _, _, .nil => .nil
  | _, _, _, .cons t ts x xs c cs h1 h2 => .cons t ts _ _ c cs (SVc.ren h h1) (SVcL.ren h h2)
end
theorem renL_get : ∀ {xs : List SV} {i : Nat} {y : SV}, (renL l xs)[i]? = some y → ∃ x, xs[i]? = some x ∧ y = ren l x
  | [], i, y, h => by simp [renL] at h
  | x :: r, 0, y, h => ⟨x, rfl, by simpa [renL] using h.symm⟩
  | x :: r, i + 1, y, h => by
    obtain ⟨z, h1, h2⟩ := renL_get (xs := r) (i := i) (by simpa [renL] using h)
    exact ⟨z, by simpa using h1, h2⟩
theorem renL_length : ∀ {xs : List SV}, (renL l xs).length = xs.length
  | [] => rfl
  | x :: r => by simp [renL, renL_length (xs := r)]
theorem renL_getD (s : List SV) (t : Nat) : (renL l s).getD t .junk = ren l (s.getD t .junk) := by
  rw [List.getD_eq_getElem?_getD, List.getD_eq_getElem?_getD]
  induction s generalizing t with
  | nil => simp [renL, ren]
  | cons x r ih => cases t with
    | zero => simp [renL]
    | succ t => simpa [renL] using ih t
theorem Slot.ren (h : Ren M M' l) (hs : Slot P M x v) : Slot P M' (YtfbkfhdlingedaaAm.ren l x) v := by
  induction hs with
  | junk v => exact .junk v
  | undef => exact .undef
  | leaf x v h1 h2 =>
    rcases h1.ren h with h5 | h5
    · rw [h5]; exact .junk v
    · exact .leaf _ v h5 h2
  | agg u xs cs h1 => exact .agg u _ cs (h1.ren h)
  | arr u k pv cs h1 => exact .arr u k pv cs h1
  | tup xs vs h1 h2 ih =>
    refine .tup _ vs (by rw [renL_length]; exact h1) (fun i y v hy hv => ?_)
    obtain ⟨x, h3, h4⟩ := renL_get hy
    subst h4
    exact ih i x v h3 hv
theorem renOwn_row {o : Own} {t : TypeId} {pv : PV} (h : renOwn l o = .row t pv) : o = .row t pv := by cases o <;> simp [renOwn] at h ⊢; exact h
theorem renOwn_hole {o : Own} {t : TypeId} {pv : PV} {p : List Stp} (h : renOwn l o = .hole t pv p) : o = .hole t pv p := by cases o <;> simp [renOwn] at h ⊢; exact h
theorem renOwn_shl {o : Own} {t : TypeId} {ps : List PV} (h : renOwn l o = .shl t ps) : o = .shl t ps := by cases o <;> simp [renOwn] at h ⊢; exact h
theorem renOwn_free {o : Own} (h : renOwn l o = .free) : o = .free := by cases o <;> simp [renOwn] at h ⊢
theorem Ren.at (h : Ren M M' l) (hm : At P C M) (hpin : ∀ j, j < C.pins → l[j]? = some j) : At P C M' where
  glb := hm.glb
  ap := hm.ap
  mem := {
    kept := by rw [h.w]; exact hm.mem.kept
    row := fun j t pv hj => by
      cases hl : l[j]? with
      | none => rw [(h.out j hl).1] at hj; cases hj
      | some i =>
        obtain ⟨h1, h2, h3⟩ := h.oh j i hl
        rw [h1] at hj
        rw [h.w, h2, h3]
        exact hm.mem.row i t pv (renOwn_row hj)
    box := fun j t sv hj => by
      cases hl : l[j]? with
      | none => rw [(h.out j hl).1] at hj; cases hj
      | some i =>
        obtain ⟨h1, h2, h3⟩ := h.oh j i hl
        rw [h1] at hj
        cases ho : M.oh i with
        | box u sv0 =>
          rw [ho] at hj; simp only [renOwn] at hj
          injection hj with e1 e2; subst e1 e2
          obtain ⟨g, cs, a1, a2, a3, a4⟩ := hm.mem.box i _ _ ho
          exact ⟨g, cs, by rw [h2]; exact a1, by rw [h3]; exact a2, by rw [h.w]; exact a3, a4.ren h⟩
        | _ => rw [ho] at hj; simp [renOwn] at hj
    none_ := fun j hr hb hh hs => by
      cases hl : l[j]? with
      | none => exact (h.out j hl).2
      | some i =>
        obtain ⟨h1, h2, h3⟩ := h.oh j i hl
        rw [h3]
        refine hm.mem.none_ i (fun t pv ho => ?_) (fun t sv ho => ?_) (fun t pv p ho => ?_) (fun t ps ho => ?_)
        · rw [ho] at h1; exact hr _ _ h1
        · rw [ho] at h1; exact hb _ _ h1
        · rw [ho] at h1; exact hh _ _ _ h1
        · rw [ho] at h1; exact hs _ _ h1
    shl := fun j t ps hj => by
      cases hl : l[j]? with
      | none => rw [(h.out j hl).1] at hj; cases hj
      | some i =>
        obtain ⟨h1, h2, h3⟩ := h.oh j i hl
        rw [h1] at hj
        rw [h.w, h2, h3]
        exact (hm.mem.shl i t ps (renOwn_shl hj)).step (fun _ _ => rfl) (fun k _ hk => ⟨h.ok hk, rfl⟩)
    hol := fun j t pv p hj => by
      cases hl : l[j]? with
      | none => rw [(h.out j hl).1] at hj; cases hj
      | some i =>
        obtain ⟨h1, h2, h3⟩ := h.oh j i hl
        rw [h1] at hj
        rw [h.w, h2, h3]
        exact hm.mem.hol i t pv p (renOwn_hole hj)
    nd := fun j => by
      cases hl : l[j]? with
      | none => rw [(h.out j hl).2]; simp
      | some i => rw [(h.oh j i hl).2.2]; exact hm.mem.nd i
    dj := fun i j hij k hk hk' => by
      cases hi : l[i]? with
      | none => rw [(h.out i hi).2] at hk; cases hk
      | some i' =>
        cases hj : l[j]? with
        | none => rw [(h.out j hj).2] at hk'; cases hk'
        | some j' =>
          rw [(h.oh i i' hi).2.2] at hk
          rw [(h.oh j j' hj).2.2] at hk'
          refine hm.mem.dj i' j' (fun he => ?_) k hk hk'
          subst he
          exact hij ((List.getElem?_inj (List.getElem?_eq_some_iff.1 hi).1 h.nd).1 (hi.trans hj.symm))
    own := fun j k hk => by
      cases hl : l[j]? with
      | none => rw [(h.out j hl).2] at hk; cases hk
      | some i => rw [(h.oh j i hl).2.2] at hk; exact hm.mem.own i k hk
    pin := fun j hj hr => by
      have hl := hpin j hj
      obtain ⟨h1, h2, h3⟩ := h.oh j j hl
      rw [h2]
      refine hm.mem.pin j hj ?_
      rcases hr with ⟨t, pv, hr⟩ | ⟨t, sv, hr⟩ | ⟨t, pv, p, hr⟩ | ⟨t, ps, hr⟩
      · rw [h1] at hr; exact .inl ⟨t, pv, renOwn_row hr⟩
      · rw [h1] at hr
        cases ho : M.oh j with
        | box u sv0 => exact .inr (.inl ⟨u, sv0, rfl⟩)
        | _ => rw [ho] at hr; simp [renOwn] at hr
      · rw [h1] at hr; exact .inr (.inr (.inl ⟨t, pv, p, renOwn_hole hr⟩))
      · rw [h1] at hr; exact .inr (.inr (.inr ⟨t, ps, renOwn_shl hr⟩))
    new := hm.mem.new
    gh := ⟨h.gh.1.trans hm.mem.gh.1, h.gh.2.trans hm.mem.gh.2⟩ }
  pins := fun j hj hf => by
    have hl := hpin j hj
    rw [(h.oh j j hl).1] at hf
    exact hm.pins j hj (renOwn_free hf)
theorem addIds_nodup : ∀ {r l : List Nat}, l.Nodup → (addIds l r).Nodup
  | [], l, h => h
  | a :: r, l, h => by
    unfold addIds
    cases hb : memB l a
    · refine addIds_nodup ?_
      simp only [cond_false]
      refine List.nodup_append.2 ⟨h, by simp, fun x hx y hy he => ?_⟩
      simp at hy; subst hy; subst he
      rw [memB_mem.2 hx] at hb; cases hb
    · exact addIds_nodup h
theorem addIds_prefix : ∀ {r l : List Nat} {j i : Nat}, l[j]? = some i → (addIds l r)[j]? = some i
  | [], l, j, i, h => h
  | a :: r, l, j, i, h => by
    unfold addIds
    refine addIds_prefix ?_
    cases memB l a
    · simp only [cond_false]
      rw [List.getElem?_append_left (List.getElem?_eq_some_iff.1 h).1]; exact h
    · exact h
theorem rel_gc (h : Rel P C σ a w) : Rel P C (σ.gc C.pins) a w := by
  obtain ⟨G, hG⟩ := h
  obtain ⟨l0, hl0⟩ : ∃ l0, addIds (List.range C.pins) (idsOfL σ.slots) = l0 := ⟨_, rfl⟩
  obtain ⟨l1, hl1⟩ : ∃ l1, addIds l0 (boxIds σ.oh l0) = l1 := ⟨_, rfl⟩
  obtain ⟨l2, hl2⟩ : ∃ l2, addIds l1 (boxIds σ.oh l1) = l2 := ⟨_, rfl⟩
  have hgc : σ.gc C.pins = ⟨renL l2 σ.slots, ohOf (l2.map fun i => renOwn l2 (σ.oh i))⟩ := by rw [← hl2, ← hl1, ← hl0]; rfl
  rw [hgc]
  have hnd : l2.Nodup := by rw [← hl2, ← hl1, ← hl0]; exact addIds_nodup (addIds_nodup (addIds_nodup List.nodup_range))
  have hpre : ∀ j, j < C.pins → l2[j]? = some j := fun j hj => by
    rw [← hl2, ← hl1, ← hl0]; exact addIds_prefix (addIds_prefix (addIds_prefix (by simp [hj])))
  let G' : Gh := ⟨fun j => match l2[j]? with | some i => G.hnd i | none => undef, fun j => match l2[j]? with | some i => G.ft i | none => [], G.cv, G.rok⟩
  have hren : Ren ⟨w, σ.oh, G⟩ ⟨w, ohOf (l2.map fun i => renOwn l2 (σ.oh i)), G'⟩ l2 := by
    refine ⟨rfl, hnd, fun j i hj => ⟨?_, ?_, ?_⟩, fun j hj => ⟨?_, ?_⟩, ⟨rfl, rfl⟩⟩
    · simp [ohOf, List.getD_eq_getElem?_getD, hj]
    · simp only [G', hj]
    · simp only [G', hj]
    · simp [ohOf, List.getD_eq_getElem?_getD, hj]
    · simp only [G', hj]
  refine ⟨G', hren.at hG.at_ hpre, hG.defers, by simp only [renL_length]; exact hG.size, fun t => ?_⟩
  simp only [renL_getD]
  exact (hG.slot t).ren hren
theorem rel_junk (h : Rel P C σ a w) (i : Nat) : Rel P C { σ with slots := σ.slots.set i .junk } a w := by
  obtain ⟨G, hG⟩ := h
  refine ⟨G, hG.at_, hG.defers, by simpa using hG.size, fun t => ?_⟩
  by_cases ht : i = t
  · subst ht
    by_cases hl : i < σ.slots.length
    · have : (σ.slots.set i .junk).getD i .junk = .junk := by simp [List.getD_eq_getElem?_getD, hl]
      simp only [this]; exact .junk _
    · have : (σ.slots.set i .junk).getD i .junk = .junk := by simp [List.getD_eq_getElem?_getD, Nat.le_of_not_lt hl]
      simp only [this]; exact .junk _
  · have : (σ.slots.set i .junk).getD t .junk = σ.slots.getD t .junk := by simp [List.getD_eq_getElem?_getD, ht]
    simp only [this]; exact hG.slot t
theorem rel_forget : ∀ {l : List Nat} {σ : St}, Rel P C σ a w → Rel P C (σ.forget l) a w
  | [], σ, h => h
  | i :: l, σ, h => rel_forget (l := l) (rel_junk h i)
theorem rel_own1 (h : Rel P C σ a w) (i : Nat) (t : TypeId) (id : Nat) : Rel P C (σ.own1 P i t id) a w := by
  unfold St.own1
  split
  case h_2 => exact h
  rename_i el hs ho ht
  obtain ⟨G, hG⟩ := h
  have hsl := hG.slot i
  rw [hs] at hsl
  obtain ⟨hl, h1⟩ := hsl.leaf_inv (by simp) (by simp) (by simp) (by simp) (by simp)
  have hv : a.tmps.getD i undef = .slice none 0 0 := hl
  have hL : ((([(id, (⟨.row t (.list []), .slice none 0 0, []⟩ : Chg))] : List (Nat × Chg)).map (·.1)).Nodup) := by simp
  have how : Ow P w 1 t (.list []) [.slice none 0 0] [] := by
    unfold Ow
    simp only [ht]
    refine ⟨_, [], [], [], rfl, rfl, ?_, rfl, rfl, rfl⟩
    exact ⟨by simp, .inl ⟨rfl, by simp⟩⟩
  have hok : ∀ x ∈ ([(id, (⟨.row t (.list []), .slice none 0 0, []⟩ : Chg))] : List (Nat × Chg)), ChgOk P ⟨w, σ.oh, G⟩ w [] x.1 x.2 := fun x hx => by
    rw [List.mem_singleton.1 hx]
    exact .inr (.inr ⟨t, .list [], rfl, ⟨1, how⟩, .inl ho⟩)
  have hT := trans_chg (w' := w) (stale := []) hG.at_ hL hok ⟨rfl, rfl, rfl, Nat.le_refl _, fun _ _ _ => rfl⟩ (by simp) (by simp) .junk []
  have hnew := newOh_chg hL hok .junk []
  simp only [List.map_cons, List.map_nil] at hT hnew
  have hoh : newOh σ.oh ⟨.junk, [(id, .row t (.list []))], [], []⟩ = upd σ.oh id (.row t (.list [])) := by
    funext k; unfold newOh; rw [freshenOwn_nil]; rfl
  rw [hoh] at hT
  refine ⟨_, hT.at hG.at_, hG.defers, by simpa using hG.size, fun k => ?_⟩
  by_cases hk : i = k
  · subst hk
    by_cases hlt : i < σ.slots.length
    · have : (σ.slots.set i (.ref id [])).getD i .junk = .ref id [] := by simp [List.getD_eq_getElem?_getD, hlt]
      simp only [this, hv]
      refine .leaf _ _ ?_ rfl
      simp only [Leaf, upd]
      simp only [Nat.beq_refl, cond_true]
      exact .inl ⟨rfl, by simp [Gh.chg, lookC]⟩
    · have : (σ.slots.set i (.ref id [])).getD i .junk = .junk := by simp [List.getD_eq_getElem?_getD, Nat.le_of_not_lt hlt]
      simp only [this]; exact .junk _
  · have : (σ.slots.set i (.ref id [])).getD k .junk = σ.slots.getD k .junk := by simp [List.getD_eq_getElem?_getD, hk]
    simp only [this]
    have := (hG.slot k).step hG.at_.mem hT
    rwa [freshen_nil] at this
theorem rel_ownAll : ∀ {l : List (Nat × TypeId)} {id : Nat} {σ : St}, Rel P C σ a w → Rel P C (ownAll P l id σ) a w
  | [], _, σ, h => h
  | (i, t) :: l, id, σ, h => rel_ownAll (l := l) (rel_own1 h i t id)
theorem rel_frzW (hfz : ∀ k, C.may k → C.rok k) (h : Rel P C σ a w) (i : Nat) (t : TypeId) (id : Nat) (x : SV) (hx : σ.slots.getD i .junk = x) (hid : idsOf x = [id]) : Rel P C (σ.frzW P i t id x) a w := by
  unfold St.frzW
  split
  case h_2 => exact h
  rename_i el u q pv ht ho hc
  obtain ⟨G, hG⟩ := h
  have hsl := hG.slot i
  rw [hx] at hsl
  have hL : ((([(id, (⟨.dead, undef, []⟩ : Chg))] : List (Nat × Chg)).map (·.1)).Nodup) := by simp
  have hok : ∀ x ∈ ([(id, (⟨.dead, undef, []⟩ : Chg))] : List (Nat × Chg)), ChgOk P ⟨w, σ.oh, G⟩ w [] x.1 x.2 := fun x hx => by
    rw [List.mem_singleton.1 hx]
    exact .inl ⟨rfl, rfl, by show σ.oh id ≠ .free; rw [ho]; simp⟩
  have hT := trans_chg (w' := w) (stale := []) hG.at_ hL hok ⟨rfl, rfl, rfl, Nat.le_refl _, fun _ _ _ => rfl⟩ (by simp) (by simp) .junk []
  simp only [List.map_cons, List.map_nil] at hT
  have hoh : newOh σ.oh ⟨.junk, [(id, .dead)], [], []⟩ = upd σ.oh id .dead := by
    funext k; unfold newOh; rw [freshenOwn_nil]; rfl
  rw [hoh] at hT
  refine ⟨_, hT.at hG.at_, hG.defers, by simpa using hG.size, fun k => ?_⟩
  by_cases hk : i = k
  · subst hk
    by_cases hlt : i < σ.slots.length
    · have : (σ.slots.set i (.ro t pv)).getD i .junk = .ro t pv := by simp [List.getD_eq_getElem?_getD, hlt]
      simp only [this]
      obtain ⟨A, cap, ps, n, hv, _, _, hr⟩ := cont_slice hG.at_.mem hsl (fun _ _ => rfl) ht hc
      have hone : one (a.tmps.getD i undef) = true := by rw [hv]; rfl
      refine .leaf _ _ ⟨n + 1, el, ht, hr.mono (fun k hk => ?_)⟩ hone
      have hrok : G.rok k ∧ ∀ j, j ≠ id → k ∉ G.ft j := by
        rcases hk with hk | ⟨j, hj, hk⟩
        · exact ⟨hk.1, fun j _ => hk.2 j⟩
        · rw [hid, List.mem_singleton] at hj
          subst hj
          have hmay := hG.at_.mem.own j k hk
          have hrk := hfz k hmay
          have hg : G.rok = C.rok := hG.at_.mem.gh.2
          exact ⟨by rw [hg]; exact hrk, fun i hi hki => hG.at_.mem.dj i j hi k hki hk⟩
      refine ⟨hrok.1, fun j => ?_⟩
      by_cases hj : j = id
      · subst hj
        have : (G.chg [(j, (⟨.dead, undef, []⟩ : Chg))]).ft j = [] := (chg_some (c := ⟨.dead, undef, []⟩) (lookC_of hL (by simp))).2
        rw [this]; simp
      · have : (G.chg [(id, (⟨.dead, undef, []⟩ : Chg))]).ft j = G.ft j := (chg_none (by
          unfold lookC
          have hne : Nat.beq id j = false := beq_ne (fun he => hj he.symm)
          simp only [List.find?_cons, List.find?_nil, hne, Option.map_none])).2
        rw [this]; exact hrok.2 j hj
    · have : (σ.slots.set i (.ro t pv)).getD i .junk = .junk := by simp [List.getD_eq_getElem?_getD, Nat.le_of_not_lt hlt]
      simp only [this]; exact .junk _
  · have : (σ.slots.set i (.ro t pv)).getD k .junk = σ.slots.getD k .junk := by simp [List.getD_eq_getElem?_getD, hk]
    simp only [this]
    have := (hG.slot k).step hG.at_.mem hT
    rwa [freshen_nil] at this
theorem rel_frz1 (hfz : ∀ k, C.may k → C.rok k) (h : Rel P C σ a w) (i : Nat) (t : TypeId) : Rel P C (σ.frz1 P i t) a w := by
  unfold St.frz1
  split
  · rename_i id hs; exact rel_frzW hfz h i t id _ hs rfl
  · rename_i id lo hi hs; exact rel_frzW hfz h i t id _ hs rfl
  · exact h
theorem rel_frzAll (hfz : ∀ k, C.may k → C.rok k) : ∀ {l : List (Nat × TypeId)} {σ : St}, Rel P C σ a w → Rel P C (frzAll P l σ) a w
  | [], σ, h => h
  | (i, t) :: l, σ, h => rel_frzAll hfz (l := l) (rel_frz1 hfz h i t)
theorem rel_nz (h : Rel P C σ a w) (z : Nz) (hfz : z.frz = [] ∨ ∀ k, C.may k → C.rok k) : Rel P C (σ.nz P C.pins z) a w := by
  refine rel_gc (rel_ownAll ?_)
  rcases hfz with hz | hz
  · rw [hz]; exact rel_forget h
  · exact rel_frzAll hz (rel_forget h)
end
end Go.Proofs.YtfbkfhdlingedaaAm

/-! The machine runs as the model does. -/
namespace Go.Proofs.YtfbkfhdlingedaaAm
open Go RowKit
/-- Every drawn region passes its check. -/
def codeOk : Code → Bool
  | .region _ ops drawn => !drawn || regOk ops
  | .seq a b => codeOk a && codeOk b
  | .cond _ a b => codeOk a && codeOk b
  | .block _ b => codeOk b
  | .loop b => codeOk b
  | _ => true
def exq : Ex → Exit
  | .normal => .normal
  | .exit id => .exit id
  | .ret => .ret
section
variable {P : Program} {C : Cx} {E : Env}
variable [Glb P]
theorem exec_ok {α : Type} {r : α} (hmix : P.follows .mixedOrders = true) (hT : ∀ f s, E.Tz f = some s → TOk P C f s) (hp : E.pins = C.pins) (hfz : E.fz = true → ∀ k, C.may k → C.rok k) : ∀ (c : Code), codeOk c = true → ∀ {k : Ex → St → Option α} {σ : St} {a : Act} {w : World} {Q : Exit → Act → World → Prop}, exec P E c σ k = some r → Rel P C σ a w →
    (∀ e σ' a' w', k e σ' = some r → Rel P C σ' a' w' → Q (exq e) a' w') → c.wp P Q a w
  | .skip, _, k, σ, a, w, Q, h, hR, hQ => wp_skip (hQ .normal σ a w h hR)
  | .region id ops drawn, hc, k, σ, a, w, Q, h, hR, hQ => by
    cases drawn
    · exact region_text hT (by simpa [exec] using h) hR (fun σ' a' w' hk hR' => hQ .normal σ' a' w' hk hR')
    · have hok : regOk ops = true := by simpa [codeOk] using hc
      exact region_drawn hmix hT hok (by simpa [exec] using h) hR (fun σ' a' w' hk hR' => hQ .normal σ' a' w' hk hR')
  | .seq x y, hc, k, σ, a, w, Q, h, hR, hQ => by
    simp only [codeOk, Bool.and_eq_true] at hc
    simp only [exec] at h
    refine wp_seq (exec_ok hmix hT hp hfz x hc.1 h hR (fun e σ' a' w' hk hR' => ?_))
    cases e with
    | normal => exact exec_ok hmix hT hp hfz y hc.2 hk hR' hQ
    | exit id => exact hQ (.exit id) σ' a' w' hk hR'
    | ret => exact hQ .ret σ' a' w' hk hR'
  | .cond c x y, hc, k, σ, a, w, Q, h, hR, hQ => by
    simp only [codeOk, Bool.and_eq_true] at hc
    simp only [exec] at h
    split at h
    · rename_i cb hcb
      have he : a.eval c = .bool cb := by
        obtain ⟨G, hG⟩ := hR
        have := hG.ev c
        rw [hcb] at this
        exact this.sc_inv.1
      refine wp_cond he ?_
      split at h
      · rename_i hb; rw [if_pos hb]; exact exec_ok hmix hT hp hfz x hc.1 h hR hQ
      · rename_i hb; rw [if_neg hb]; exact exec_ok hmix hT hp hfz y hc.2 h hR hQ
    · cases h
  | .block id b, hc, k, σ, a, w, Q, h, hR, hQ => by
    simp only [codeOk] at hc
    simp only [exec] at h
    refine wp_block (exec_ok hmix hT hp hfz b hc h hR (fun e σ' a' w' hk hR' => ?_))
    cases e with
    | normal => exact hQ .normal σ' a' w' hk hR'
    | ret => exact hQ .ret σ' a' w' hk hR'
    | exit j =>
      simp only at hk
      cases hb : Nat.beq j id <;> simp only [hb, cond_true, cond_false] at hk
      · have hne := ne_beq hb
        simp only [exq, Exit.inBlock]
        rw [if_neg (by simpa using hne)]
        exact hQ (.exit j) σ' a' w' hk hR'
      · have he : j = id := Nat.beq_eq.mp hb
        simp only [exq, Exit.inBlock]
        rw [if_pos (by simpa using he)]
        exact hQ .normal σ' a' w' hk hR'
  | .loop b, hc, k, σ, a, w, Q, h, hR, hQ => by
    simp only [codeOk] at hc
    simp only [exec] at h
    rw [hp] at h
    have hz : (E.nzAt ((firstRegion b).getD 0)).frz = [] ∨ ∀ k, C.may k → C.rok k := by
      cases hf : E.fz
      · exact .inl (by unfold Env.nzAt; rw [hf]; rfl)
      · exact .inr (hfz hf)
    have key : ∀ (n : Nat) (σ : St) (a : Act) (w : World), loopN P C.pins (E.nzAt ((firstRegion b).getD 0)) (exec P E b) n σ k = some r → Rel P C σ a w → Code.rounds P b Q n a w := by
      intro n
      induction n with
      | zero => intro σ a w h _; simp [loopN] at h
      | succ n ih =>
        intro σ a w h hR
        rw [rounds_succ]
        simp only [loopN] at h
        refine exec_ok hmix hT hp hfz b hc h hR (fun e σ' a' w' hk hR' => ?_)
        cases e with
        | normal => exact ih _ a' w' hk (rel_nz hR' _ hz)
        | exit id => exact hQ (.exit id) σ' a' w' hk hR'
        | ret => exact hQ .ret σ' a' w' hk hR'
    exact wp_loop_rounds E.N (key E.N _ a w h (rel_nz hR _ hz))
  | .exit id, _, k, σ, a, w, Q, h, hR, hQ => wp_exit (hQ (.exit id) σ a w h hR)
  | .ret, _, k, σ, a, w, Q, h, hR, hQ => wp_ret (hQ .ret σ a w h hR)
  | .goto _, _, _, _, _, _, _, h, _, _ => by simp [exec] at h
  | .label _, _, _, _, _, _, _, h, _, _ => by simp [exec] at h
end
end Go.Proofs.YtfbkfhdlingedaaAm

/-! A function's end. -/
namespace Go.Proofs.YtfbkfhdlingedaaAm
open Go RowKit
section
variable {P : Program} {C : Cx} {σ : St} {a : Act} {w w' : World} {M : Mm} {l : List Nat} {x : SV} {v : Value} {t u : TypeId} {G : Gh}
variable [Glb P]
theorem load_box {id : Nat} {sv : SV} (hm : Mem P C M) (hs : Slot P M (.ptr id []) v) (ho : M.oh id = .box u sv) (hal : alike P t u = true) (hf : fits P t sv = true) :
    ∃ ad y, v = .pointer (some ad) ∧ (loadVar t ad).run P M.w = .ok y M.w ∧ Slot P M sv y := by
  obtain ⟨hl, _⟩ := hs.leaf_inv (by simp) (by simp) (by simp) (by simp) (by simp)
  simp only [Leaf, ho] at hl
  obtain ⟨g, o1, t', hd, hv, hpl⟩ := hl
  obtain ⟨ht', rfl⟩ := hpl
  obtain ⟨g', bcs, b1, b2, b3, b4⟩ := hm.box id u sv ho
  rw [hd] at b1; injection b1 with b1; injection b1 with b1; injection b1 with b1
  subst b1
  have htk : tk P t ≠ .bad := by
    cases hs : sv with
    | agg u' xs =>
      rw [hs] at b4
      generalize bcs.toList = bl at b4
      cases b4 with
      | agg _ _ fs _ _ e1 _ _ => rw [alike_tk hal, e1]; simp
      | leaf _ _ _ hlf => exact hlf.elim
    | arr u' k pv =>
      rw [hs] at b4
      generalize bcs.toList = bl at b4
      cases b4 with
      | arr _ _ _ _ _ e1 e2 =>
        obtain ⟨n, e, ps, _, q2, _⟩ := e2
        rw [alike_tk hal, alike_tk e1, q2]; simp
      | leaf _ _ _ hlf => exact hlf.elim
    | _ => exact (fits_good hf (by rw [hs]; simp) (by rw [hs]; simp)).1
  have hsv := svc_alike hal htk b4
  refine ⟨_, valOf P t bcs.toList, hv, ?_, svc_slot hsv⟩
  have hloc : Loc M.w ⟨g, 0, none⟩ bcs.toList := fun q u hq => by
    rw [add_none]
    simpa [World.cell?, b3] using hq
  exact run_loadVar' htk hloc hsv.len
def resultOf (tmps : Array Value) : ResultVar → Sem Value
  | .tmp t => pure (tmps.getD t undef)
  | .cell a t => do loadVar t (← asAddr (tmps.getD a undef))
theorem results_ok (hG : RelG P C σ a w G) : ∀ {rs : List ResultVar} {xs : List SV}, resultSVs P σ rs = some xs → ∃ vs, (rs.mapM (resultOf a.tmps)).run P w = .ok vs w ∧ Slots P ⟨w, σ.oh, G⟩ xs vs
  | [], xs, h => by
    simp [resultSVs] at h; subst h
    exact ⟨[], by simp, trivial⟩
  | .tmp t :: rs, xs, h => by
    simp only [resultSVs] at h
    split at h
    · rename_i ys hy
      injection h with h; subst h
      obtain ⟨vs, h1, h2⟩ := results_ok hG hy
      exact ⟨a.tmps.getD t undef :: vs, by simp [List.mapM_cons, resultOf, Sem.run_bind, h1], hG.ev (.tmp t), h2⟩
    · cases h
  | .cell t ty :: rs, xs, h => by
    simp only [resultSVs] at h
    split at h
    · rename_i id hev
      split at h
      · rename_i u sv ys ho hy
        cases hb : (alike P ty u && fits P ty sv) <;> simp only [hb, cond_true, cond_false] at h
        · cases h
        · simp only [Bool.and_eq_true] at hb
          injection h with h; subst h
          obtain ⟨vs, h1, h2⟩ := results_ok hG hy
          have hs := hG.ev (.tmp t)
          rw [hev] at hs
          obtain ⟨ad, y, e1, e2, e3⟩ := load_box hG.at_.mem hs ho hb.1 hb.2
          have e1' : a.tmps.getD t undef = .pointer (some ad) := e1
          refine ⟨y :: vs, ?_, e3, h2⟩
          simp only [List.mapM_cons, resultOf, Sem.run_bind, e1', asAddr, Sem.run_pure, Result.andThen_ok]
          have e2' : (loadVar ty ad).run P w = .ok y w := e2
          simp [e2', h1]
      · cases h
    · cases h
theorem results_run {fn : Func} {tmps : Array Value} {vs : List Value} (h : (fn.results.toList.mapM (resultOf tmps)).run P w = .ok vs w) : (results fn tmps).run P w = .ok (retVal vs) w := by
  have he : results fn tmps = (do let vs ← fn.results.mapM (resultOf tmps); pure (if h : vs.size = 1 then vs[0] else .tuple vs)) := by
    unfold results
    congr 1
  rw [he, Sem.run_bind, Array.mapM_eq_mapM_toList]
  simp [h]
  match vs with
  | [] => rfl
  | [v] => rfl
  | v :: u :: vs => simp [retVal]
theorem results1_ok (hm : Mem P C M) {rest : List PV} {ok' : Nat → Prop} (hok' : ∀ k, C.rok k → ok' k) {hs0 : Bool} (hmay : hs0 = true → ∀ k, C.may k → ok' k) : ∀ {res : List (TypeId × RMode)} {xs : List SV} {vs : List Value} {ps : List PV} {l : List Nat}, (hasShr res = true → hs0 = true) → Slots P M xs vs → results1 P M.oh res xs = some (ps, l) →
    ResAt P ok' M.w res (ps ++ rest) vs (l.flatMap M.G.ft) ∧ ps.length = res.length
  | [], [], [], ps, l, hsh, _, h => by
    simp [results1] at h
    obtain ⟨rfl, rfl⟩ := h
    exact ⟨⟨rfl, rfl⟩, rfl⟩
  | (t, .val) :: res, x :: xs, v :: vs, ps, l, hsh, ⟨hs1, hs2⟩, h => by
    simp only [results1] at h
    split at h
    · rename_i p ps' l' hx hl
      simp at h
      obtain ⟨rfl, rfl⟩ := h
      obtain ⟨h1, h2⟩ := results1_ok hm hok' hmay (fun h => hsh (by simpa [hasShr] using h)) hs2 hl
      obtain ⟨n, cs, b1, b2⟩ := cont_val hm hs1 (fun _ _ => rfl) hx
      exact ⟨⟨⟨n, cs, b1.mono (fun _ _ => trivial), b2⟩, h1⟩, by simp [h2]⟩
    · cases h
  | (t, .own) :: res, x :: xs, v :: vs, ps, l, hsh, ⟨hs1, hs2⟩, h => by
    simp only [results1] at h
    split at h
    · rename_i p l0 ps' l' hx hl
      simp at h
      obtain ⟨rfl, rfl⟩ := h
      obtain ⟨h1, h2⟩ := results1_ok hm hok' hmay (fun h => hsh (by simpa [hasShr] using h)) hs2 hl
      obtain ⟨b1, _⟩ := take_val hm hs1 (fun _ _ => rfl) hx
      exact ⟨⟨l0.flatMap M.G.ft, l'.flatMap M.G.ft, by simp, b1, h1⟩, by simp [h2]⟩
    · cases h
  | (t, .nown) :: res, x :: xs, v :: vs, ps, l, hsh, ⟨hs1, hs2⟩, h => by
    simp only [results1] at h
    split at h
    · rename_i p l0 ps' l' hx hl
      cases hb : (isNilV x || !isE p.items) <;> simp only [hb, cond_true, cond_false] at h
      · cases h
      simp only [Option.some.injEq, Prod.mk.injEq] at h
      obtain ⟨rfl, rfl⟩ := h
      obtain ⟨h1, h2⟩ := results1_ok hm hok' hmay (fun h => hsh (by simpa [hasShr] using h)) hs2 hl
      obtain ⟨b1, _⟩ := take_val hm hs1 (fun _ _ => rfl) hx
      have hpl : p = .list p.items ∧ (p.items = [] → v = .slice none 0 0) := by
        cases x with
        | nil =>
          have hv : v = .slice none 0 0 := by
            cases hs1 with
            | leaf _ _ g1 _ => exact g1
          unfold takeT at hx
          split at hx
          · injection hx with hx; injection hx with hx _; rw [← hx]; exact ⟨rfl, fun _ => hv⟩
          · cases hx
        | _ =>
          simp only [isNilV, Bool.false_or] at hb
          cases p with
          | list l =>
            cases l with
            | nil => simp [PV.items, isE] at hb
            | cons a r => exact ⟨rfl, fun h => by cases h⟩
          | _ => simp [PV.items, isE] at hb
      refine ⟨⟨l0.flatMap M.G.ft, l'.flatMap M.G.ft, by simp, ?_, hpl.2, h1⟩, by simp [h2]⟩
      show OwV P M.w t (.list p.items) v _
      rw [← hpl.1]; exact b1
    · cases h
  | (t, .box) :: res, x :: xs, v :: vs, ps, l, hsh, ⟨hs1, hs2⟩, h => by
    cases x with
    | ptr id p => cases p with
      | cons s r => simp [results1] at h
      | nil =>
        simp only [results1] at h
        split at h
        · rename_i u u' sv ps' l' hu ho hl
          cases hb : (Nat.beq u u' && isNil (idsOf sv)) <;> simp only [hb, cond_true, cond_false] at h
          · cases h
          · simp only [Bool.and_eq_true] at hb
            have hu' : u = u' := Nat.beq_eq.mp hb.1
            subst hu'
            have hno := isNil_nil hb.2
            split at h
            · rename_i p hc
              simp at h
              obtain ⟨rfl, rfl⟩ := h
              obtain ⟨h1, h2⟩ := results1_ok hm hok' hmay (fun h => hsh (by simpa [hasShr] using h)) hs2 hl
              have hlf := (hs1.leaf_inv (by simp) (by simp) (by simp) (by simp) (by simp)).1
              simp only [Leaf, ho] at hlf
              obtain ⟨g, o, t', e1, e2, e3⟩ := hlf
              obtain ⟨_, rfl⟩ := e3
              obtain ⟨g', bcs, b1, b2, b3, b4⟩ := hm.box id u sv ho
              rw [e1] at b1; injection b1 with b1; injection b1 with b1; injection b1 with b1
              subst b1
              obtain ⟨n, hrd⟩ := cont_svc hm b4 (fun _ _ => rfl) hc
              rw [hno] at hrd
              refine ⟨⟨M.G.ft id, l'.flatMap M.G.ft, u, bcs.toList, n, by simp, hu, ⟨g, bcs, e2, b2, b3, rfl⟩, hrd.mono (fun k hk => ?_), h1⟩, by simp [h2]⟩
              rcases hk with hk | ⟨i, hi, _⟩
              · have := hk.1; rw [hm.gh.2] at this; exact hok' k this
              · cases hi
            · cases h
        · cases h
    | _ => simp [results1] at h
  | (t, .shr) :: res, x :: xs, v :: vs, ps, l, hsh, ⟨hs1, hs2⟩, h => by
    simp only [results1] at h
    split at h
    · rename_i p ps' l' hx hl
      simp at h
      obtain ⟨rfl, rfl⟩ := h
      obtain ⟨h1, h2⟩ := results1_ok hm hok' hmay (fun _ => hsh rfl) hs2 hl
      obtain ⟨n, cs, b1, b2⟩ := cont_val hm hs1 (fun _ _ => rfl) hx
      refine ⟨⟨⟨n, cs, b1.mono (fun k hk => ?_), b2⟩, h1⟩, by simp [h2]⟩
      rcases hk with hk | ⟨i, _, hi⟩
      · have := hk.1; rw [hm.gh.2] at this; exact hok' k this
      · exact hmay (hsh rfl) k (hm.own i k hi)
    · cases h
  | (_, .shr) :: _, [], _, _, _, _, _, h => by simp [results1] at h
  | (_, .box) :: _, [], _, _, _, hsh, _, h => by simp [results1] at h
  | (_, .any) :: _, _ :: _, _, _, _, hsh, _, h => by simp [results1] at h
  | (_, .any) :: _, [], _, _, _, hsh, _, h => by simp [results1] at h
  | (_, .err) :: _, _ :: _, _, _, _, hsh, _, h => by simp [results1] at h
  | (_, .err) :: _, [], _, _, _, hsh, _, h => by simp [results1] at h
  | [], _ :: _, _, _, _, hsh, _, h => by simp [results1] at h
  | (_, .val) :: _, [], _, _, _, hsh, _, h => by simp [results1] at h
  | (_, .own) :: _, [], _, _, _, hsh, _, h => by simp [results1] at h
  | (_, .nown) :: _, [], _, _, _, hsh, _, h => by simp [results1] at h
  | _, _ :: _, [], _, _, hsh, h, _ => h.elim
  | _, [], _ :: _, _, _, hsh, h, _ => h.elim
theorem kflds_le {n m : Nat} (hnm : n ≤ m) : ∀ {fs : List TypeId} {ps : List PV} {co cn : List Value}, (∀ t p a b, KeptSl P n t p a b → KeptSl P m t p a b) → KFlds P (KeptSl P n) fs ps co cn → KFlds P (KeptSl P m) fs ps co cn
  | [], [], _, _, _, h => h
  | t :: ts, p :: ps, _, _, hR, ⟨a, a', b, b', h1, h2, h3, h4, h5⟩ => ⟨a, a', b, b', h1, h2, h3, hR _ _ _ _ h4, kflds_le hnm hR h5⟩
  | [], _ :: _, _, _, _, h => h.elim
  | _ :: _, [], _, _, _, h => h.elim
theorem KeptSl.succ : ∀ {n : Nat} {t : TypeId} {pv : PV} {co cn : List Value}, KeptSl P n t pv co cn → KeptSl P (n + 1) t pv co cn
  | 0, _, _, _, _, h => h.elim
  | n + 1, t, pv, co, cn, h => by
    unfold KeptSl at h ⊢
    cases ht : tk P t <;> simp only [ht] at h ⊢ <;> first | exact h | skip
    obtain ⟨ps, h1, h2⟩ := h
    exact ⟨ps, h1, kflds_le (Nat.le_succ n) (fun _ _ _ _ h => KeptSl.succ h) h2⟩
theorem KeptSl.le {n m : Nat} {t : TypeId} {pv : PV} {co cn : List Value} (hnm : n ≤ m) (h : KeptSl P n t pv co cn) : KeptSl P m t pv co cn := by
  induction hnm with
  | refl => exact h
  | step _ ih => exact ih.succ
theorem con_flat (hm0 : Mem P C M) {t : TypeId} {sv : SV} {pv : PV} {co cn : List Value} (h : SVc P M t sv cn) (hc : contT P M.oh t sv = some pv) (hs : (∀ e, tk P t ≠ .slice e) ∧ ∀ fs, tk P t ≠ .struct fs) : ∃ n, KeptSl P n t pv co cn := by
  obtain ⟨n, hr⟩ := cont_svc hm0 h (fun _ _ => rfl) hc
  refine ⟨1, ?_⟩
  cases n with
  | zero => exact hr.elim
  | succ n =>
    unfold Rd at hr; unfold KeptSl
    cases ht : tk P t <;> simp only [ht] at hr ⊢ <;> first | exact hr | skip
    · exact absurd ht (hs.1 _)
    · exact absurd ht (hs.2 _)
mutual
theorem con_kept (hm0 : Mem P C M) : ∀ {m : Nat} {t : TypeId} {sv : SV} {o : Nat} {pv : PV} {co cn : List Value}, SVc P M t sv cn → conOk P m t sv o = true → contT P M.oh t sv = some pv → co.length = sizeOf P t → (∀ q u, co[q]? = some u → M.G.cv (o + q) = u) → ∃ n, KeptSl P n t pv co cn
  | 0, t, sv, o, pv, co, cn, _, hk, _, _, _ => by simp [conOk] at hk
  | m + 1, t, sv, o, pv, co, cn, h, hk, hc, hl, hcv => by
    unfold conOk at hk
    cases ht : tk P t with
    | slice e =>
      simp only [ht] at hk
      cases sv with
      | con g u q =>
        have hg : g = o := Nat.beq_eq.mp hk
        subst hg
        cases h with
        | leaf _ _ v h1 h2 h3 h4 =>
          refine ⟨1, ?_⟩
          unfold KeptSl
          simp only [ht]
          rw [h3] at hl
          obtain ⟨y, rfl⟩ : ∃ y, co = [y] := by
            cases co with
            | nil => cases hl
            | cons y r => cases r with
              | nil => exact ⟨y, rfl⟩
              | cons => simp at hl
          have := hcv 0 y rfl
          rw [Nat.add_zero] at this
          rw [h1.1, this]
      | _ => simp at hk
    | struct fs =>
      simp only [ht] at hk
      cases sv with
      | agg u xs =>
        cases h with
        | leaf _ _ _ hlf => exact hlf.elim
        | agg _ _ fs' _ _ h1 h2 h3 =>
          rw [ht] at h1; injection h1 with h1; subst h1
          simp only [contT, ht, h2, cond_true] at hc
          cases hcl : contTL P M.oh fs xs with
          | none => rw [hcl] at hc; cases hc
          | some ps =>
            rw [hcl] at hc; injection hc with hc; subst hc
            obtain ⟨n, hn⟩   := conL_kept hm0 h3 hk hcl (by rw [hl, tk_size (by rw [ht]; simp), ht]; rfl) hcv
            exact ⟨n + 1, by unfold KeptSl; simp only [ht]; exact ⟨ps, rfl, hn⟩⟩
      | _ => simp at hk
    | bad =>
      exfalso
      cases h with
      | junk => simp [contT] at hc
      | leaf _ _ v h1 h2 h3 h4 =>
        obtain ⟨n, hr⟩ := cont_leaf hm0 h1 h2 (fun _ _ => rfl) (fun _ _ => h3) hc
        exact hr.good ht
      | agg _ _ fs _ _ h1 => rw [ht] at h1; cases h1
      | arr _ _ _ _ _ e1 e2 =>
        obtain ⟨n, e, ps, _, q2, _⟩ := e2
        rw [alike_tk e1, q2] at ht; cases ht
    | int k => exact con_flat hm0 h hc (by rw [ht]; simp)
    | bool => exact con_flat hm0 h hc (by rw [ht]; simp)
    | str => exact con_flat hm0 h hc (by rw [ht]; simp)
    | other => exact con_flat hm0 h hc (by rw [ht]; simp)
theorem conL_kept (hm0 : Mem P C M) : ∀ {m : Nat} {fs : List TypeId} {xs : List SV} {o : Nat} {ps : List PV} {co cn : List Value}, SVcL P M fs xs cn → conFs (conOk P m) P fs xs o = true → contTL P M.oh fs xs = some ps → co.length = sumSz P fs → (∀ q u, co[q]? = some u → M.G.cv (o + q) = u) → ∃ n, KFlds P (KeptSl P n) fs ps co cn
  | m, [], xs, o, ps, co, cn, h, _, hc, hl, _ => by
    cases h with
    | nil =>
      simp [contTL] at hc; subst hc
      exact ⟨0, List.eq_nil_of_length_eq_zero (by simpa [sumSz] using hl), rfl⟩
  | m, t :: ts, xs, o, ps, co, cn, h, hk, hc, hl, hcv => by
    cases h with
    | cons _ _ x xs c cs h1 h2 =>
      simp only [conFs, Bool.and_eq_true] at hk
      simp only [contTL] at hc
      cases hx : contT P M.oh t x with
      | none => rw [hx] at hc; cases hc
      | some p =>
        cases hr : contTL P M.oh ts xs with
        | none => rw [hx, hr] at hc; cases hc
        | some qs =>
          rw [hx, hr] at hc; injection hc with hc; subst hc
          have hl' : co.length = sizeOf P t + sumSz P ts := by rw [hl]; simp [sumSz]
          obtain ⟨n1, e1⟩ := con_kept hm0 (co := co.take (sizeOf P t)) h1 hk.1 hx (by rw [List.length_take]; omega) (fun q u hq => by
            rw [List.getElem?_take] at hq
            split at hq
            · exact hcv q u hq
            · cases hq)
          obtain ⟨n2, e2⟩ := conL_kept hm0 (co := co.drop (sizeOf P t)) h2 hk.2 hr (by rw [List.length_drop]; omega) (fun q u hq => by
            rw [List.getElem?_drop] at hq
            have := hcv _ u hq
            rwa [show o + sizeOf P t + q = o + (sizeOf P t + q) by omega])
          exact ⟨max n1 n2, co.take (sizeOf P t), co.drop (sizeOf P t), c, cs, (List.take_append_drop _ _).symm, rfl, by rw [List.length_take]; omega, e1.le (Nat.le_max_left _ _), kflds_le (Nat.le_max_right _ _) (fun _ _ _ _ h => h.le (Nat.le_max_right _ _)) e2⟩
end
theorem outMuts_ok (hm : Mem P C M) : ∀ {ts : List (Bool × TypeId)} {L : List Row} {i : Nat} {ms : List PV}, outMuts P M.oh i ts = some ms → L.map (fun r => (r.box, r.t)) = ts → (∀ j r, L[j]? = some r → i + j < C.pins ∧ C.pin (i + j) = r.hd ∧ (r.box = true → r.cs.length = sizeOf P r.t ∧ ∀ q u, r.cs[q]? = some u → C.cv ((i + j) * 4096 + q) = u)) →
    LentAt P M.w L ms ((List.range' i L.length).map M.G.ft)
  | [], [], i, ms, _, _, _ => rfl
  | (b, t) :: ts, r :: L, i, ms, h, ht, hp => by
    simp only [List.map_cons, List.cons.injEq, Prod.mk.injEq] at ht
    obtain ⟨⟨hb, ht1⟩, ht2⟩ := ht
    have hp0 := hp 0 r rfl
    have hrest : ∀ ps, outMuts P M.oh (i + 1) ts = some ps → LentAt P M.w L ps ((List.range' (i + 1) L.length).map M.G.ft) := fun ps hr =>
      outMuts_ok hm hr ht2 (fun j r' hj => by
        have := hp (j + 1) r' (by simpa using hj)
        rwa [show i + 1 + j = i + (j + 1) by omega])
    have hrange : (List.range' i (r :: L).length).map M.G.ft = M.G.ft i :: (List.range' (i + 1) L.length).map M.G.ft := by simp [List.range'_succ]
    rw [hrange]
    cases b with
    | false =>
      simp only [outMuts] at h
      split at h
      · rename_i u pv ps ho hr
        cases hal : alike P t u <;> simp only [hal, cond_true, cond_false] at h
        · cases h
        · injection h with h; subst h
          obtain ⟨n, hn⟩ := hm.row i u pv ho
          have hpin := hm.pin i (by simpa using hp0.1) (.inl ⟨u, pv, ho⟩)
          refine ⟨_, _, rfl, ?_, hrest _ hr⟩
          simp only [LentAt1, hb]
          refine ⟨n, ?_⟩
          rw [ht1, ← hp0.2.1, Nat.add_zero, ← hpin]
          exact hn.alike (alike_symm hal)
      · cases h
    | true =>
      simp only [outMuts] at h
      split at h
      · rename_i u sv ps ho hr
        cases hal : (Nat.beq t u && conOk P 8 t sv (i * 4096)) <;> simp only [hal, cond_true, cond_false] at h
        · cases h
        · simp only [Bool.and_eq_true] at hal
          have hu : t = u := Nat.beq_eq.mp hal.1
          subst hu
          split at h
          · rename_i pv hc
            injection h with h; subst h
            obtain ⟨g, bcs, b1, b2, b3, b4⟩ := hm.box i t sv ho
            have hpin := hm.pin i (by simpa using hp0.1) (.inr (.inl ⟨t, sv, ho⟩))
            obtain ⟨q1, q2⟩ := hp0.2.2 hb
            subst ht1
            obtain ⟨n, hn⟩ := con_kept hm b4 hal.2 hc q1 (fun q u hq => by rw [hm.gh.1]; exact q2 q u hq)
            refine ⟨_, _, rfl, ?_, hrest _ hr⟩
            simp only [LentAt1, hb]
            exact ⟨bcs.toList, n, ⟨g, bcs, by rw [← hp0.2.1, Nat.add_zero, ← hpin]; exact b1, b2, b3, rfl⟩, hn⟩
          · cases h
      · cases h
  | [], _ :: _, _, _, _, h, _ => by simp at h
  | _ :: _, [], _, _, _, h, _ => by simp at h
end
end Go.Proofs.YtfbkfhdlingedaaAm

/-! A function's start; and the whole. -/
namespace Go.Proofs.YtfbkfhdlingedaaAm
open Go RowKit
theorem dropRes_append {α β : Type} : ∀ {res : List β} {ps ms : List α}, ps.length = res.length → dropRes res (ps ++ ms) = ms
  | [], [], ms, _ => rfl
  | _ :: res, p :: ps, ms, h => dropRes_append (res := res) (ps := ps) (by simpa using h)
  | [], _ :: _, _, h => by simp at h
  | _ :: _, [], _, h => by simp at h
def lentT (P : Program) : List (TypeId × Mode) → List (Bool × TypeId)
  | [] => []
  | (t, .mut) :: ms => (false, t) :: lentT P ms
  | (t, .box) :: ms => (true, (ptee P t).getD 0) :: lentT P ms
  | (t, .mut2) :: ms => (match tk P t with
    | .struct [t1, t2] => (false, t1) :: (false, t2) :: lentT P ms
    | _ => lentT P ms)
  | (t, .muts) :: ms => leavesT P 8 t ++ lentT P ms
  | _ :: ms => lentT P ms
section
variable {P : Program} {C : Cx} {σ : St} {a : Act} {w w' : World} {M : Mm} {l : List Nat} {x : SV} {v : Value} {t u : TypeId} {G : Gh} {ok : Nat → Prop}
variable [Glb P]
mutual
theorem LendAt.leaves : ∀ {n : Nat} {t : TypeId} {p : PV} {cs : List Value} {L : List Row}, LendAt P w n t p cs L → L.map (fun r => (r.box, r.t)) = leavesT P n t
  | 0, t, p, cs, L, h => h.elim
  | n + 1, t, p, cs, L, h => by
    unfold LendAt at h
    unfold leavesT
    cases ht : tk P t with
    | slice e =>
      simp only [ht] at h ⊢
      obtain ⟨v, r, _, rfl, ⟨h1, h2⟩, _⟩ := h
      simp [h1, h2]
    | struct fs =>
      simp only [ht] at h ⊢
      obtain ⟨ps, rfl, h⟩ := h
      exact LendFs.leaves h
    | int k => simp only [ht] at h ⊢; rw [h.2]; rfl
    | bool => simp only [ht] at h ⊢; rw [h.2]; rfl
    | str => simp only [ht] at h ⊢; rw [h.2]; rfl
    | other => simp only [ht] at h
    | bad => simp only [ht] at h
theorem LendFs.leaves : ∀ {n : Nat} {fs : List TypeId} {ps : List PV} {cs : List Value} {L : List Row}, LendFs (LendAt P w n) fs ps cs L → L.map (fun r => (r.box, r.t)) = fs.flatMap (leavesT P n)
  | n, [], [], cs, L, h => by rw [h.2]; rfl
  | n, t :: ts, p :: ps, cs, _, ⟨c, cs', M, M', _, rfl, h1, h2⟩ => by
    rw [List.map_append, LendAt.leaves h1, LendFs.leaves h2, List.flatMap_cons]
  | n, [], _ :: _, _, _, h => h.elim
  | n, _ :: _, [], _, _, h => h.elim
end
theorem leavesT_no : ∀ {n : Nat} {t : TypeId}, ∀ x ∈ leavesT P n t, x.1 = false
  | 0, t, x, h => by simp [leavesT] at h
  | n + 1, t, x, h => by
    unfold leavesT at h
    cases ht : tk P t <;> simp only [ht] at h
    case slice e => simp at h; rw [h]
    case struct fs =>
      obtain ⟨u, _, hu⟩ := List.mem_flatMap.1 h
      exact leavesT_no x hu
    all_goals cases h
theorem LendAt.noBox {n : Nat} {t : TypeId} {p : PV} {cs : List Value} {L : List Row} (h : LendAt P w n t p cs L) : ∀ r ∈ L, r.box = false := fun r hr => by
  have h1 : (r.box, r.t) ∈ L.map (fun r => (r.box, r.t)) := List.mem_map.2 ⟨r, hr, rfl⟩
  rw [h.leaves] at h1
  exact leavesT_no _ h1
theorem ArgsAt.len : ∀ {ms : List (TypeId × Mode)} {vs : List Value} {ps : List PV} {F : List Nat} {L : List Row}, ArgsAt P ok w ms vs ps F L → ps.length = vs.length ∧ ms.length = vs.length ∧ L.map (fun r => (r.box, r.t)) = lentT P ms
  | [], [], [], _, _, h => by obtain ⟨rfl, rfl⟩ := h; exact ⟨rfl, rfl, rfl⟩
  | (t, .ro) :: ms, v :: vs, p :: ps, F, L, ⟨_, h3⟩ => by have := h3.len; simp [this, lentT]
  | (t, .own) :: ms, v :: vs, p :: ps, F, L, ⟨F1, F2, h1, h2, h3⟩ => by have := h3.len; simp [this, lentT]
  | (t, .mut) :: ms, v :: vs, p :: ps, F, L, ⟨r, L', h1, h2, h3, h4, h5, h6⟩ => by have := h6.len; simp [this, lentT, h1, h2]
  | (t, .box) :: ms, v :: vs, p :: ps, F, L, ⟨r, L', h1, h2, h3, h4, h5, h6⟩ => by have := h6.len; simp [this, lentT, h1, h2]
  | (t, .mut2) :: ms, v :: vs, p :: ps, F, L, ⟨r1, r2, L', t1, t2, a, b, p1, p2, h1, h2, h3, h4, h5, h6, h7, h8, h9⟩ => by have := h9.len; simp [this, lentT, h1, h2, h5]
  | (t, .muts) :: ms, v :: vs, p :: ps, F, _, ⟨M, L', cs, fs, rfl, h2, h3, h4, h5⟩ => by have := h5.len; simp [this, lentT, h3.leaves]
  | (_, .muts) :: _, [], _, _, _, h => h.elim
  | (_, .muts) :: _, _ :: _, [], _, _, h => h.elim
  | (_, .mut2) :: _, [], _, _, _, h => h.elim
  | (_, .mut2) :: _, _ :: _, [], _, _, h => h.elim
  | [], _ :: _, _, _, _, h => h.elim
  | [], [], _ :: _, _, _, h => h.elim
  | (_, .ro) :: _, [], _, _, _, h => h.elim
  | (_, .own) :: _, [], _, _, _, h => h.elim
  | (_, .box) :: _, [], _, _, _, h => h.elim
  | (_, .box) :: _, _ :: _, [], _, _, h => h.elim
  | (_, .mut) :: _, [], _, _, _, h => h.elim
  | (_, .ro) :: _, _ :: _, [], _, _, h => h.elim
  | (_, .own) :: _, _ :: _, [], _, _, h => h.elim
  | (_, .mut) :: _, _ :: _, [], _, _, h => h.elim
theorem ArgsAt.boxes : ∀ {ms : List (TypeId × Mode)} {vs : List Value} {ps : List PV} {F : List Nat} {L : List Row}, ArgsAt P ok w ms vs ps F L → ∀ r ∈ L, r.box = true → r.cs.length = sizeOf P r.t ∧ sizeOf P r.t < 4096
  | [], [], [], _, _, h, r, hr, _ => by obtain ⟨rfl, rfl⟩ := h; cases hr
  | (t, .ro) :: ms, v :: vs, p :: ps, F, L, ⟨_, h3⟩, r, hr, hb => h3.boxes r hr hb
  | (t, .own) :: ms, v :: vs, p :: ps, F, L, ⟨F1, F2, h1, h2, h3⟩, r, hr, hb => h3.boxes r hr hb
  | (t, .mut) :: ms, v :: vs, p :: ps, F, _, ⟨r0, L', rfl, h2, h3, h4, h5, h6⟩, r, hr, hb => by
    rcases List.mem_cons.1 hr with rfl | hr
    · rw [h2.1] at hb; cases hb
    · exact h6.boxes r hr hb
  | (t, .box) :: ms, v :: vs, p :: ps, F, _, ⟨r0, L', rfl, h2, h3, h4, ⟨n, h5⟩, h6⟩, r, hr, hb => by
    rcases List.mem_cons.1 hr with rfl | hr
    · exact ⟨h5.len, h2.2.2⟩
    · exact h6.boxes r hr hb
  | (t, .mut2) :: ms, v :: vs, p :: ps, F, _, ⟨r1, r2, L', t1, t2, a, b, p1, p2, rfl, h2, h3, h4, h5, h6, h7, h8, h9⟩, r, hr, hb => by
    rcases List.mem_cons.1 hr with rfl | hr
    · rw [h5.1.1] at hb; cases hb
    · rcases List.mem_cons.1 hr with rfl | hr
      · rw [h5.2.1] at hb; cases hb
      · exact h9.boxes r hr hb
  | (t, .muts) :: ms, v :: vs, p :: ps, F, _, ⟨M, L', cs, fs, rfl, h2, h3, h4, h5⟩, r, hr, hb => by
    rcases List.mem_append.1 hr with hr | hr
    · rw [h3.noBox r hr] at hb; cases hb
    · exact h5.boxes r hr hb
  | (_, .muts) :: _, [], _, _, _, h, _, _, _ => h.elim
  | (_, .muts) :: _, _ :: _, [], _, _, h, _, _, _ => h.elim
  | (_, .mut2) :: _, [], _, _, _, h, _, _, _ => h.elim
  | (_, .mut2) :: _, _ :: _, [], _, _, h, _, _, _ => h.elim
  | [], _ :: _, _, _, _, h, _, _, _ => h.elim
  | [], [], _ :: _, _, _, h, _, _, _ => h.elim
  | (_, .ro) :: _, [], _, _, _, h, _, _, _ => h.elim
  | (_, .own) :: _, [], _, _, _, h, _, _, _ => h.elim
  | (_, .mut) :: _, [], _, _, _, h, _, _, _ => h.elim
  | (_, .box) :: _, [], _, _, _, h, _, _, _ => h.elim
  | (_, .ro) :: _, _ :: _, [], _, _, h, _, _, _ => h.elim
  | (_, .own) :: _, _ :: _, [], _, _, h, _, _, _ => h.elim
  | (_, .mut) :: _, _ :: _, [], _, _, h, _, _, _ => h.elim
  | (_, .box) :: _, _ :: _, [], _, _, h, _, _, _ => h.elim
theorem rd_flat {m : Nat} {n : Nat} {pv : PV} {cs : List Value} (h : Rd P ok w n t pv cs) (hs : (∀ e, tk P t ≠ .slice e) ∧ ∀ fs, tk P t ≠ .struct fs) : SVc P M t (reifyRo P (m + 1) t pv) cs := by
  cases n with
  | zero => exact h.elim
  | succ n =>
    have : Rd P M.ok M.w 1 t pv cs := by
      unfold Rd at h ⊢
      cases ht : tk P t <;> simp only [ht] at h ⊢
      · exact h
      · exact h
      · exact h
      · exact absurd ht (hs.1 _)
      · exact absurd ht (hs.2 _)
      · exact h
    exact reifyRo_ok this
mutual
theorem con_svc : ∀ {m n : Nat} {t : TypeId} {pv : PV} {cs : List Value} {o : Nat}, Rd P ok w n t pv cs → M.w = w → (∀ k, ok k → M.ok k) → (∀ q u, cs[q]? = some u → M.G.cv (o + q) = u) → SVc P M t (conRo P m t pv o) cs
  | 0, n, t, pv, cs, o, h, _, _, _ => .junk _ _ h.len h.ones
  | m + 1, 0, t, pv, cs, o, h, _, _, _ => h.elim
  | m + 1, n + 1, t, pv, cs, o, h, hw, hok, hcv => by
    have h0 := h
    unfold conRo
    cases ht : tk P t with
    | slice e =>
      have hl := h.len
      have h1 := h.ones
      rw [tk_size (by rw [ht]; simp), ht] at hl
      obtain ⟨y, rfl⟩ : ∃ y, cs = [y] := by
        cases cs with
        | nil => simp [TK.sz] at hl
        | cons y r => cases r with
          | nil => exact ⟨y, rfl⟩
          | cons => simp [TK.sz] at hl
      have := hcv 0 y rfl
      rw [Nat.add_zero] at this
      subst hw
      exact .leaf _ _ _ ⟨this.symm, n + 1, e, ht, h0.mono hok⟩ (h1 y (by simp)) (by rw [tk_size (by rw [ht]; simp), ht]; rfl) (by rw [ht]; simp)
    | struct fs =>
      unfold Rd at h
      simp only [ht] at h
      obtain ⟨ps, rfl, h⟩ := h
      exact .agg t t fs _ _ ht (alike_refl ht) (conFlds_svc (k := 0) (qs := ps) h hw hok hcv (fun i => by simp [PV.fld, PV.parts]))
    | int k => exact rd_flat (m := 0) h0 (by rw [ht]; simp)
    | bool => exact rd_flat (m := 0) h0 (by rw [ht]; simp)
    | str => exact rd_flat (m := 0) h0 (by rw [ht]; simp)
    | other => exact rd_flat (m := 0) h0 (by rw [ht]; simp)
    | bad => exact absurd ht h.good
theorem conFlds_svc : ∀ {m n : Nat} {fs : List TypeId} {qs : List PV} {cs : List Value} {o k : Nat} {pv : PV}, Flds (Rd P ok w n) fs qs cs → M.w = w → (∀ k, ok k → M.ok k) → (∀ q u, cs[q]? = some u → M.G.cv (o + q) = u) → (∀ i, pv.fld (k + i) = qs.getD i default) → SVcL P M fs (fieldsCon (conRo P m) P fs pv k o) cs
  | m, n, [], qs, cs, o, k, pv, h, _, _, _, _ => by
    cases qs with
    | nil => have : cs = [] := h; subst this; exact .nil
    | cons => exact h.elim
  | m, n, t :: ts, qs, cs, o, k, pv, h, hw, hok, hcv, hq => by
    cases qs with
    | nil => exact h.elim
    | cons q qs =>
      obtain ⟨c, cs', rfl, h1, h2⟩ := h
      have hq0 : pv.fld k = q := by simpa using hq 0
      have hl := h1.len
      simp only [fieldsCon, hq0]
      refine .cons _ _ _ _ _ _ (con_svc h1 hw hok (fun j u hj => hcv j u (by rw [List.getElem?_append_left (List.getElem?_eq_some_iff.1 hj).1]; exact hj))) (conFlds_svc h2 hw hok (fun j u hj => ?_) (fun i => by
        have := hq (i + 1)
        rw [show k + 1 + i = k + (i + 1) by omega, this]; simp))
      have := hcv (sizeOf P t + j) u (by rw [List.getElem?_append_right (by omega), hl]; simpa using hj)
      rwa [show o + sizeOf P t + j = o + (sizeOf P t + j) by omega]
end
/-- One thing lent, as it is laid. -/
def LaidC (P : Program) (w : World) (ok : Nat → Prop) (i : Nat) (c : Chg) (r : Row) : Prop :=
  c.hd = r.hd ∧ c.ft = r.ft ∧ match r.box with
  | false => ∃ u q, c.ob = .row u q ∧ ∃ n, Ow P w n u q [c.hd] c.ft
  | true => ∃ p n, c.ob = .box r.t (conRo P 8 r.t p (i * 4096)) ∧ BoxC w r.t c.hd c.ft r.cs ∧ Rd P ok w n r.t p r.cs
def LaidL (P : Program) (w : World) (ok : Nat → Prop) : Nat → List (Nat × Chg) → List Row → Prop
  | _, [], [] => True
  | i, x :: K, r :: L => x.1 = i ∧ LaidC P w ok i x.2 r ∧ LaidL P w ok (i + 1) K L
  | _, _, _ => False
theorem LaidL.kl : ∀ {i : Nat} {K : List (Nat × Chg)} {L : List Row}, LaidL P w ok i K L → K.map (·.1) = List.range' i L.length ∧ K.flatMap (·.2.ft) = L.flatMap (·.ft)
  | _, [], [], _ => ⟨rfl, rfl⟩
  | i, x :: K, r :: L, ⟨h1, h2, h3⟩ => by
    have := h3.kl
    exact ⟨by rw [List.map_cons, this.1, h1, List.length_cons, List.range'_succ], by simp [this.2, h2.2.1]⟩
  | _, [], _ :: _, h => h.elim
  | _, _ :: _, [], h => h.elim
theorem LaidL.get : ∀ {i : Nat} {K : List (Nat × Chg)} {L : List Row}, LaidL P w ok i K L → ∀ j r, L[j]? = some r → ∃ x, x ∈ K ∧ x.1 = i + j ∧ LaidC P w ok (i + j) x.2 r
  | _, [], [], _, j, r, hj => by simp at hj
  | i, x :: K, r :: L, ⟨h1, h2, h3⟩, 0, r', hj => by simp at hj; subst hj; exact ⟨x, by simp, h1, h2⟩
  | i, x :: K, r :: L, ⟨h1, h2, h3⟩, j + 1, r', hj => by
    obtain ⟨y, e1, e2, e3⟩ := h3.get j r' (by simpa using hj)
    exact ⟨y, List.mem_cons_of_mem _ e1, by omega, by rwa [show i + 1 + j = i + (j + 1) by omega] at e3⟩
  | _, [], _ :: _, h, _, _, _ => h.elim
  | _, _ :: _, [], h, _, _, _ => h.elim
theorem LaidL.mem : ∀ {i : Nat} {K : List (Nat × Chg)} {L : List Row}, LaidL P w ok i K L → ∀ x ∈ K, ∃ j r, L[j]? = some r ∧ x.1 = i + j ∧ LaidC P w ok (i + j) x.2 r
  | _, [], [], _, x, hx => by cases hx
  | i, x :: K, r :: L, ⟨h1, h2, h3⟩, y, hy => by
    rcases List.mem_cons.1 hy with rfl | hy
    · exact ⟨0, r, rfl, h1, h2⟩
    · obtain ⟨j, r', e1, e2, e3⟩ := h3.mem y hy
      exact ⟨j + 1, r', by simpa using e1, by omega, by rwa [show i + 1 + j = i + (j + 1) by omega] at e3⟩
  | _, [], _ :: _, h, _, _ => h.elim
  | _, _ :: _, [], h, _, _ => h.elim
/-- The parameters laid out: KL, what is lent; KO, what is given. -/
structure Laid (P : Program) (w : World) (ok : Nat → Prop) (ws : List (Nat × Own)) (xs : List SV) (vs : List Value) (m fr : Nat) (F : List Nat) (L : List Row) (KL KO : List (Nat × Chg)) : Prop where
  lent : LaidL P w ok m KL L
  ko : KO.map (·.1) = List.range' fr KO.length
  kof : (KO.flatMap (·.2.ft)).Sublist F
  rows : ∀ x ∈ KO, ∃ u q, x.2.ob = .row u q ∧ ∃ n, Ow P w n u q [x.2.hd] x.2.ft
  ws : ∀ y, y ∈ ws ↔ ∃ x ∈ KL ++ KO, y = (x.1, x.2.ob)
  sl : ∀ M : Mm, M.w = w → Holds M KL → Holds M KO → (∀ k, ok k → M.ok k) → Slots P M xs vs
theorem cons_ws {y z : Nat × Own} {KL KO : List (Nat × Chg)} {ws : List (Nat × Own)} {x0 : Nat × Chg} (h : y ∈ ws ↔ ∃ x ∈ KL ++ KO, y = (x.1, x.2.ob)) (hz : z = (x0.1, x0.2.ob)) : y ∈ z :: ws ↔ ∃ x ∈ (x0 :: KL) ++ KO, y = (x.1, x.2.ob) := by
  rw [List.mem_cons, h]
  constructor
  · rintro (rfl | ⟨x, hx, rfl⟩)
    · exact ⟨x0, by simp, hz⟩
    · exact ⟨x, by rcases List.mem_append.1 hx with hx | hx <;> simp [hx], rfl⟩
  · rintro ⟨x, hx, rfl⟩
    rcases List.mem_append.1 hx with hx | hx
    · rcases List.mem_cons.1 hx with rfl | hx
      · exact .inl hz.symm
      · exact .inr ⟨x, by simp [hx], rfl⟩
    · exact .inr ⟨x, by simp [hx], rfl⟩
theorem LaidL.append : ∀ {i : Nat} {K K' : List (Nat × Chg)} {L L' : List Row}, LaidL P w ok i K L → LaidL P w ok (i + L.length) K' L' → LaidL P w ok i (K ++ K') (L ++ L')
  | _, [], K', [], L', _, h => by simpa using h
  | i, x :: K, K', r :: L, L', ⟨h1, h2, h3⟩, h => ⟨h1, h2, LaidL.append h3 (by rw [List.length_cons] at h; rwa [show i + 1 + L.length = i + (L.length + 1) by omega])⟩
  | _, [], _, _ :: _, _, h, _ => h.elim
  | _, _ :: _, _, [], _, h, _ => h.elim
mutual
theorem lend_laid : ∀ {n : Nat} {t : TypeId} {p : PV} {cs : List Value} {L : List Row} (m : Nat), LendAt P w n t p cs L →
    ∃ K, LaidL P w ok m K L ∧ (adopt P n t p m).2 = K.map (fun x => (x.1, x.2.ob)) ∧ ∀ M : Mm, M.w = w → Holds M K → SVc P M t (adopt P n t p m).1 cs
  | 0, t, p, cs, L, m, h => h.elim
  | n + 1, t, p, cs, L, m, h => by
    unfold LendAt at h
    unfold adopt
    cases ht : tk P t with
    | slice e =>
      simp only [ht] at h ⊢
      obtain ⟨v, r, rfl, rfl, ⟨h1, h2⟩, h3, q, h4⟩ := h
      have h1v : one v = true := h4.ones v (by simp)
      refine ⟨[(m, ⟨.row t p, v, r.ft⟩)], ⟨rfl, ⟨h3.symm, rfl, ?_⟩, trivial⟩, rfl, fun M hw hH => ?_⟩
      · simp only [h1]; exact ⟨t, p, rfl, q, h4⟩
      · obtain ⟨c1, c2, c3⟩ := hH (m, ⟨.row t p, v, r.ft⟩) (by simp)
        have l1 : Leaf P M (.ref m []) v := by simp only [Leaf, c1]; exact .inl ⟨rfl, c2.symm⟩
        exact .leaf t _ v l1 h1v (by rw [tk_size (by rw [ht]; simp), ht]; rfl) (by rw [ht]; simp)
    | struct fs =>
      simp only [ht] at h ⊢
      obtain ⟨ps, rfl, h⟩ := h
      obtain ⟨K, a1, a2, a3⟩ := lend_laids (k := 0) (pv := .agg ps) m h (fun i => by simp [PV.fld, PV.parts])
      exact ⟨K, a1, a2, fun M hw hH => .agg t t fs _ _ ht (alike_refl ht) (a3 M hw hH)⟩
    | int k =>
      simp only [ht] at h ⊢
      obtain ⟨⟨x, rfl, rfl⟩, rfl⟩ := h
      exact ⟨[], trivial, rfl, fun M hw hH => .leaf t _ _ rfl rfl (by rw [tk_size (by rw [ht]; simp), ht]; rfl) (by rw [ht]; simp)⟩
    | bool =>
      simp only [ht] at h ⊢
      obtain ⟨⟨x, rfl, rfl⟩, rfl⟩ := h
      exact ⟨[], trivial, rfl, fun M hw hH => .leaf t _ _ rfl rfl (by rw [tk_size (by rw [ht]; simp), ht]; rfl) (by rw [ht]; simp)⟩
    | str =>
      simp only [ht] at h ⊢
      obtain ⟨⟨x, rfl, rfl⟩, rfl⟩ := h
      exact ⟨[], trivial, rfl, fun M hw hH => .leaf t _ _ rfl rfl (by rw [tk_size (by rw [ht]; simp), ht]; rfl) (by rw [ht]; simp)⟩
    | other => simp only [ht] at h
    | bad => simp only [ht] at h
theorem lend_laids : ∀ {n : Nat} {fs : List TypeId} {qs : List PV} {cs : List Value} {L : List Row} {k : Nat} {pv : PV} (m : Nat), LendFs (LendAt P w n) fs qs cs L → (∀ i, pv.fld (k + i) = qs.getD i default) →
    ∃ K, LaidL P w ok m K L ∧ (fieldsAdopt (adopt P n) fs pv k m).2 = K.map (fun x => (x.1, x.2.ob)) ∧ ∀ M : Mm, M.w = w → Holds M K → SVcL P M fs (fieldsAdopt (adopt P n) fs pv k m).1 cs
  | n, [], [], cs, L, k, pv, m, h, _ => by
    obtain ⟨rfl, rfl⟩ := h
    exact ⟨[], trivial, rfl, fun _ _ _ => .nil⟩
  | n, t :: ts, q :: qs, cs, L, k, pv, m, ⟨c, cs', M1, M2, h1, h2, h3, h4⟩, hq => by
    subst h1 h2
    have hq0 : pv.fld k = q := by simpa using hq 0
    obtain ⟨K1, a1, a2, a3⟩ := lend_laid m h3
    have hl : (adopt P n t q m).2.length = M1.length := by
      rw [a2, List.length_map]
      have := congrArg List.length a1.kl.1
      simpa using this
    obtain ⟨K2, b1, b2, b3⟩ := lend_laids (k := k + 1) (pv := pv) (m + (adopt P n t q m).2.length) h4 (fun i => by
      have := hq (i + 1)
      rw [show k + 1 + i = k + (i + 1) by omega, this]; simp)
    refine ⟨K1 ++ K2, a1.append (by rw [← hl]; exact b1), ?_, fun M hw hH => ?_⟩
    · simp only [fieldsAdopt, hq0, a2, b2, List.map_append]
      rw [← b2, a2]
    · simp only [fieldsAdopt, hq0]
      exact .cons _ _ _ _ _ _ (a3 M hw hH.left) (b3 M hw hH.right)
  | n, [], _ :: _, _, _, _, _, _, h, _ => h.elim
  | n, _ :: _, [], _, _, _, _, _, h, _ => h.elim
end
theorem laid_ok : ∀ {ms : List (TypeId × Mode)} {vs : List Value} {ps : List PV} {F : List Nat} {L : List Row} (m fr : Nat), ArgsAt P ok w ms vs ps F L →
    ∃ KL KO, Laid P w ok (paramsOf P ms ps m fr).2 (paramsOf P ms ps m fr).1 vs m fr F L KL KO
  | [], [], [], _, _, m, fr, h => by
    obtain ⟨rfl, rfl⟩ := h
    exact ⟨[], [], trivial, rfl, by simp, by simp, by simp [paramsOf], fun _ _ _ _ _ => trivial⟩
  | (t, .ro) :: ms, v :: vs, p :: ps, F, L, m, fr, ⟨⟨n, cs, b1, b2⟩, h3⟩ => by
    obtain ⟨KL, KO, h⟩ := laid_ok m fr h3
    refine ⟨KL, KO, ⟨h.lent, h.ko, h.kof, h.rows, h.ws, fun M hw h1 h2 hok => ⟨?_, h.sl M hw h1 h2 hok⟩⟩⟩
    subst hw
    rw [b2]
    exact svc_slot (reifyRo_ok (b1.mono hok))
  | (t, .own) :: ms, v :: vs, p :: ps, _, L, m, fr, ⟨F1, F2, rfl, ⟨n, cs, b1, b2⟩, h3⟩ => by
    obtain ⟨K1, a1, a2⟩ := adopt_ok (m := 8) fr b1
    obtain ⟨KL, KO, h⟩ := laid_ok m (fr + (adopt P 8 t p fr).2.length) h3
    refine ⟨KL, K1 ++ KO, ⟨h.lent, ?_, ?_, fun x hx => ?_, fun y => ?_, fun M hw h1 h2 hok => ⟨?_, h.sl M hw h1 h2.right hok⟩⟩⟩
    · rw [List.map_append, a1.ids, h.ko, a1.len, List.length_append, ← List.range'_append]; simp
    · rw [List.flatMap_append]; exact a1.sub.append h.kof
    · rcases List.mem_append.1 hx with hx | hx
      · obtain ⟨u, q, c1, c2, _⟩ := a1.rows x hx; exact ⟨u, q, c1, c2⟩
      · exact h.rows x hx
    · have hw1 := h.ws y
      simp only [paramsOf, List.mem_append]
      rw [hw1, ← a1.ws]
      constructor
      · rintro (h1 | ⟨x, hx, rfl⟩)
        · obtain ⟨x, hx, rfl⟩ := List.mem_map.1 h1
          exact ⟨x, .inr (.inl hx), rfl⟩
        · rcases List.mem_append.1 hx with hx | hx
          · exact ⟨x, .inl hx, rfl⟩
          · exact ⟨x, .inr (.inr hx), rfl⟩
      · rintro ⟨x, hx | hx | hx, rfl⟩
        · exact .inr ⟨x, List.mem_append_left _ hx, rfl⟩
        · exact .inl (List.mem_map.2 ⟨x, hx, rfl⟩)
        · exact .inr ⟨x, List.mem_append_right _ hx, rfl⟩
    · rw [b2]; exact svc_slot (a2 M hw h2.left)
  | (t, .mut) :: ms, v :: vs, p :: ps, F, _, m, fr, ⟨r, L', rfl, ⟨hrb, hrt⟩, hrv, ⟨e, hsl⟩, ⟨n, hn⟩, h6⟩ => by
    obtain ⟨KL, KO, h⟩ := laid_ok (m + 1) fr h6
    have h1v : one v = true := hn.ones v (by simp)
    refine ⟨(m, ⟨.row t p, v, r.ft⟩) :: KL, KO, ⟨⟨rfl, ⟨hrv.symm, rfl, ?_⟩, h.lent⟩, h.ko, h.kof, h.rows, fun y => ?_, fun M hw h1 h2 hok => ⟨?_, h.sl M hw (fun x hx => h1 x (List.mem_cons_of_mem _ hx)) h2 hok⟩⟩⟩
    · simp only [hrb]; exact ⟨t, p, rfl, n, hn⟩
    · exact cons_ws (h.ws y) rfl
    · obtain ⟨c1, c2, c3⟩ := h1 (m, ⟨.row t p, v, r.ft⟩) (by simp)
      refine .leaf _ _ ?_ h1v
      simp only [Leaf, c1]
      exact .inl ⟨rfl, c2.symm⟩
  | (t, .box) :: ms, v :: vs, p :: ps, F, _, m, fr, ⟨r, L', rfl, ⟨hrb, hrt, hsz⟩, hrv, hbx, ⟨n, hn⟩, h6⟩ => by
    obtain ⟨KL, KO, h⟩ := laid_ok (m + 1) fr h6
    have hp : paramsOf P ((t, .box) :: ms) (p :: ps) m fr = (.ptr m [] :: (paramsOf P ms ps (m + 1) fr).1, (m, .box r.t (conRo P 8 r.t p (m * 4096))) :: (paramsOf P ms ps (m + 1) fr).2) := by
      simp only [paramsOf, hrt, Option.getD_some]
    rw [hp]
    refine ⟨(m, ⟨.box r.t (conRo P 8 r.t p (m * 4096)), v, r.ft⟩) :: KL, KO, ⟨⟨rfl, ⟨hrv.symm, rfl, ?_⟩, h.lent⟩, h.ko, h.kof, h.rows, fun y => ?_, fun M hw h1 h2 hok => ⟨?_, h.sl M hw (fun x hx => h1 x (List.mem_cons_of_mem _ hx)) h2 hok⟩⟩⟩
    · simp only [hrb]; exact ⟨p, n, rfl, hbx, hn⟩
    · exact cons_ws (h.ws y) rfl
    · obtain ⟨c1, c2, c3⟩ := h1 (m, ⟨.box r.t (conRo P 8 r.t p (m * 4096)), v, r.ft⟩) (by simp)
      obtain ⟨g, arr, hv, _⟩ := hbx
      refine .leaf _ _ ?_ (by rw [hv]; rfl)
      simp only [Leaf, c1]
      exact ⟨g, 0, r.t, c2.trans hv, hv, rfl, rfl⟩
  | (t, .mut2) :: ms, v :: vs, p :: ps, F, _, m, fr, ⟨r1, r2, L', t1, t2, a, b, p1, p2, rfl, ht, hpp, hvv, ⟨⟨hb1, hq1⟩, hb2, hq2⟩, ⟨hd1, hd2⟩, ⟨⟨e1, hs1⟩, e2, hs2⟩, ⟨⟨n1, hn1⟩, n2, hn2⟩, h9⟩ => by
    subst hpp hvv
    obtain ⟨KL, KO, h⟩ := laid_ok (m + 2) fr h9
    have h1v : one a = true := hn1.ones a (by simp)
    have h2v : one b = true := hn2.ones b (by simp)
    have hp : paramsOf P ((t, .mut2) :: ms) (.agg [p1, p2] :: ps) m fr = (.agg t [.ref m [], .ref (m + 1) []] :: (paramsOf P ms ps (m + 2) fr).1, (m, .row t1 p1) :: (m + 1, .row t2 p2) :: (paramsOf P ms ps (m + 2) fr).2) := by
      simp only [paramsOf, ht]; rfl
    rw [hp]
    refine ⟨(m, ⟨.row t1 p1, a, r1.ft⟩) :: (m + 1, ⟨.row t2 p2, b, r2.ft⟩) :: KL, KO, ⟨⟨rfl, ⟨hd1.symm, rfl, ?_⟩, rfl, ⟨hd2.symm, rfl, ?_⟩, h.lent⟩, h.ko, h.kof, h.rows, fun y => ?_, fun M hw h1 h2 hok => ⟨?_, h.sl M hw (fun x hx => h1 x (List.mem_cons_of_mem _ (List.mem_cons_of_mem _ hx))) h2 hok⟩⟩⟩
    · simp only [hb1]; exact ⟨t1, p1, rfl, n1, hn1⟩
    · simp only [hb2]; exact ⟨t2, p2, rfl, n2, hn2⟩
    · exact cons_ws (cons_ws (h.ws y) rfl) rfl
    · obtain ⟨c1, c2, c3⟩ := h1 (m, ⟨.row t1 p1, a, r1.ft⟩) (by simp)
      obtain ⟨d1, d2, d3⟩ := h1 (m + 1, ⟨.row t2 p2, b, r2.ft⟩) (by simp)
      have l1 : Leaf P M (.ref m []) a := by simp only [Leaf, c1]; exact .inl ⟨rfl, c2.symm⟩
      have l2 : Leaf P M (.ref (m + 1) []) b := by simp only [Leaf, d1]; exact .inl ⟨rfl, d2.symm⟩
      have z1 : sizeOf P t1 = 1 := by rw [tk_size (by rw [hs1]; simp), hs1]; rfl
      have z2 : sizeOf P t2 = 1 := by rw [tk_size (by rw [hs2]; simp), hs2]; rfl
      refine .agg t _ #[a, b] (.agg t t [t1, t2] _ _ ht (alike_refl ht) ?_)
      exact .cons t1 [t2] _ _ [a] [b] (.leaf t1 _ a l1 h1v z1 (by rw [hs1]; simp)) (.cons t2 [] _ _ [b] [] (.leaf t2 _ b l2 h2v z2 (by rw [hs2]; simp)) .nil)
  | (t, .muts) :: ms, v :: vs, p :: ps, F, _, m, fr, ⟨M1, L', cs, fs, rfl, ht, h3, hv, h5⟩ => by
    obtain ⟨K1, a1, a2, a3⟩ := lend_laid (ok := ok) m h3
    have hl : (adopt P 8 t p m).2.length = M1.length := by
      rw [a2, List.length_map]
      have := congrArg List.length a1.kl.1
      simpa using this
    obtain ⟨KL, KO, h⟩ := laid_ok (m + (adopt P 8 t p m).2.length) fr h5
    refine ⟨K1 ++ KL, KO, ⟨a1.append (by rw [← hl]; exact h.lent), h.ko, h.kof, h.rows, fun y => ?_, fun M hw h1 h2 hok => ⟨?_, h.sl M hw h1.right h2 hok⟩⟩⟩
    · have hw1 := h.ws y
      simp only [paramsOf, List.mem_append]
      rw [hw1, a2]
      constructor
      · rintro (h1 | ⟨x, hx, rfl⟩)
        · obtain ⟨x, hx, rfl⟩ := List.mem_map.1 h1
          exact ⟨x, .inl (.inl hx), rfl⟩
        · rcases List.mem_append.1 hx with hx | hx
          · exact ⟨x, .inl (.inr hx), rfl⟩
          · exact ⟨x, .inr hx, rfl⟩
      · rintro ⟨x, (hx | hx) | hx, rfl⟩
        · exact .inl (List.mem_map.2 ⟨x, hx, rfl⟩)
        · exact .inr ⟨x, List.mem_append_left _ hx, rfl⟩
        · exact .inr ⟨x, List.mem_append_right _ hx, rfl⟩
    · have hs := svc_slot (a3 M hw h1.left)
      have e : valOf P t cs = v := by unfold valOf; rw [ht, hv]
      rw [e] at hs
      exact hs
  | (_, .muts) :: _, [], _, _, _, _, _, h => h.elim
  | (_, .muts) :: _, _ :: _, [], _, _, _, _, h => h.elim
  | (_, .mut2) :: _, [], _, _, _, _, _, h => h.elim
  | (_, .mut2) :: _, _ :: _, [], _, _, _, _, h => h.elim
  | [], _ :: _, _, _, _, _, _, h => h.elim
  | [], [], _ :: _, _, _, _, _, h => h.elim
  | (_, .ro) :: _, [], _, _, _, _, _, h => h.elim
  | (_, .own) :: _, [], _, _, _, _, _, h => h.elim
  | (_, .mut) :: _, [], _, _, _, _, _, h => h.elim
  | (_, .box) :: _, [], _, _, _, _, _, h => h.elim
  | (_, .ro) :: _, _ :: _, [], _, _, _, _, h => h.elim
  | (_, .own) :: _, _ :: _, [], _, _, _, _, h => h.elim
  | (_, .mut) :: _, _ :: _, [], _, _, _, _, h => h.elim
  | (_, .box) :: _, _ :: _, [], _, _, _, _, h => h.elim
def cv0 (L : List Row) (k : Nat) : Value := (L[k / 4096]?).elim undef fun r => r.cs.getD (k % 4096) undef
theorem cv0_at {L : List Row} {j : Nat} {r : Row} (hj : L[j]? = some r) {q : Nat} {u : Value} (hq : r.cs[q]? = some u) (hl : q < 4096) : cv0 L (j * 4096 + q) = u := by
  unfold cv0
  rw [show (j * 4096 + q) / 4096 = j by omega, show (j * 4096 + q) % 4096 = q by omega, hj]
  simp [List.getD_eq_getElem?_getD, hq]
def cx0 (w : World) (ok : Nat → Prop) (F : List Nat) (L : List Row) : Cx := ⟨w, fun k => k ∈ F ++ L.flatMap (·.ft) ∨ w.heap.size ≤ k, L.length, fun i => (L[i]?).elim undef (·.hd), cv0 L, ok⟩
/-- All parameters are read alone. -/
theorem allRo_args {w : World} : ∀ {ms : List (TypeId × Mode)} {vs : List Value} {ps : List PV} {F : List Nat} {L : List Row}, allRo ms = true → ArgsAt P ok w ms vs ps F L → F = [] ∧ L = []
  | [], [], [], _, _, _, h => h
  | (_, .ro) :: ms, v :: vs, p :: ps, F, L, ha, h => allRo_args (ms := ms) ha h.2
  | (_, .own) :: _, _, _, _, _, ha, _ => by simp [allRo] at ha
  | (_, .mut) :: _, _, _, _, _, ha, _ => by simp [allRo] at ha
  | (_, .box) :: _, _, _, _, _, ha, _ => by simp [allRo] at ha
  | (_, .muts) :: _, _, _, _, _, ha, _ => by simp [allRo] at ha
  | (_, .mut2) :: _, _, _, _, _, ha, _ => by simp [allRo] at ha
  | [], _ :: _, _, _, _, _, h => h.elim
  | [], [], _ :: _, _, _, _, h => h.elim
  | (_, .ro) :: _, [], _, _, _, _, h => h.elim
  | (_, .ro) :: _, _ :: _, [], _, _, _, h => h.elim
theorem allRo_rd {ok' : Nat → Prop} {w : World} (hok : ∀ k, ok k → ok' k) : ∀ {ms : List (TypeId × Mode)} {vs : List Value} {ps : List PV} {F : List Nat} {L : List Row}, allRo ms = true → ArgsAt P ok w ms vs ps F L → ArgsAt P ok' w ms vs ps F L
  | [], [], [], _, _, _, h => h
  | (_, .ro) :: ms, v :: vs, p :: ps, F, L, ha, h => by
    obtain ⟨⟨n, cs, h1, h2⟩, h3⟩ := h
    exact ⟨⟨n, cs, h1.mono hok, h2⟩, allRo_rd hok (ms := ms) ha h3⟩
  | (_, .own) :: _, _, _, _, _, ha, _ => by simp [allRo] at ha
  | (_, .mut) :: _, _, _, _, _, ha, _ => by simp [allRo] at ha
  | (_, .box) :: _, _, _, _, _, ha, _ => by simp [allRo] at ha
  | (_, .muts) :: _, _, _, _, _, ha, _ => by simp [allRo] at ha
  | (_, .mut2) :: _, _, _, _, _, ha, _ => by simp [allRo] at ha
  | [], _ :: _, _, _, _, _, h => h.elim
  | [], [], _ :: _, _, _, _, h => h.elim
  | (_, .ro) :: _, [], _, _, _, _, h => h.elim
  | (_, .ro) :: _, _ :: _, [], _, _, _, h => h.elim
theorem res_nobox {ok' : Nat → Prop} {w : World} : ∀ {rs : List (TypeId × RMode)} {outs : List PV} {vs : List Value} {F : List Nat}, boxRes rs = false → hasShr rs = false → ResAt P ok w rs outs vs F → ResAt P ok' w rs outs vs F
  | [], _, _, _, _, hq, h => h
  | (_, .val) :: rs, outs, v :: vs, F, hb, hq, h => ⟨h.1, res_nobox (rs := rs) hb hq h.2⟩
  | (_, .own) :: rs, outs, v :: vs, F, hb, hq, ⟨F1, F2, h1, h2, h3⟩ => ⟨F1, F2, h1, h2, res_nobox (rs := rs) hb hq h3⟩
  | (_, .nown) :: rs, outs, v :: vs, F, hb, hq, ⟨F1, F2, h1, h2, h4, h3⟩ => ⟨F1, F2, h1, h2, h4, res_nobox (rs := rs) hb hq h3⟩
  | (_, .nown) :: _, _, [], _, _, hq, h => h.elim
  | (_, .box) :: _, _, _, _, hb, hq, _ => by simp [boxRes] at hb
  | (_, .any) :: rs, outs, v :: vs, F, hb, hq, h => res_nobox (rs := rs) hb hq h
  | (_, .err) :: rs, outs, v :: vs, F, hb, hq, h => ⟨h.1, res_nobox (rs := rs) hb hq h.2⟩
  | (_, .err) :: _, _, [], _, _, hq, h => h.elim
  | (_, .any) :: _, _, [], _, _, hq, h => h.elim
  | (_, .val) :: _, _, [], _, _, hq, h => h.elim
  | (_, .own) :: _, _, [], _, _, hq, h => h.elim
  | (_, .shr) :: _, _, _, _, _, hq, _ => by cases hq
/-- The state at a function's start. -/
theorem start_ok {E : Env} {fn : Func} {ms : List (TypeId × Mode)} {vs : List Value} {ps : List PV} {F : List Nat} {L : List Row} (hE : E.pins = L.length) (h : ArgsAt P ok w ms vs ps F L) (hnd : (F ++ L.flatMap (·.ft)).Nodup) (hok : ∀ k ∈ F ++ L.flatMap (·.ft), ¬ ok k) (hglb : Glb.holds (P := P) ok w) :
    Rel P (cx0 w ok F L) (startOf P E fn ms ps) { tmps := vs.toArray ++ Array.replicate (fn.ntmps - vs.toArray.size) undef, defers := [] } w := by
  obtain ⟨KL, KO, hl⟩ := laid_ok 0 E.pins h
  have hlen := h.len
  have hkl := hl.lent.kl
  let K := KL ++ KO
  have hkeys : (K.map (·.1)).Nodup := by
    simp only [K, List.map_append]
    rw [hkl.1, hl.ko, List.nodup_append]
    refine ⟨List.nodup_range', List.nodup_range', fun i hi j hj he => ?_⟩
    rw [List.mem_range'_1] at hi hj
    omega
  let oh : Nat → Own := (startOf P E fn ms ps).oh
  have hoh : ∀ i, oh i = match lookC K i with | some c => c.ob | none => .free := fun i => by
    show ((paramsOf P ms ps 0 E.pins).2.find? fun x => Nat.beq x.1 i).elim .free (·.2) = _
    cases hf : (paramsOf P ms ps 0 E.pins).2.find? fun x => Nat.beq x.1 i with
    | some y =>
      obtain ⟨x, hx, rfl⟩ := (hl.ws y).1 (List.mem_of_find?_eq_some hf)
      have hi := List.find?_some hf
      have : x.1 = i := Nat.beq_eq.mp hi
      subst this
      have hlk : lookC K x.1 = some x.2 := lookC_of hkeys hx
      rw [hlk]; rfl
    | none =>
      cases hlk : lookC K i with
      | none => rfl
      | some c =>
        have := (hl.ws (i, c.ob)).2 ⟨(i, c), lookC_mem hlk, rfl⟩
        have h2 := List.find?_eq_none.1 hf _ this
        simp at h2
  let G : Gh := (⟨fun _ => undef, fun _ => [], cv0 L, ok⟩ : Gh).chg K
  have hft : ∀ i k, k ∈ G.ft i → ∃ c, lookC K i = some c ∧ k ∈ c.ft := fun i k hk => by
    cases hlk : lookC K i with
    | none => rw [(chg_none hlk).2] at hk; cases hk
    | some c => rw [(chg_some hlk).2] at hk; exact ⟨c, rfl, hk⟩
  have hKn : (K.flatMap (·.2.ft)).Nodup := by
    simp only [K, List.flatMap_append, hkl.2]
    rw [List.nodup_append] at hnd ⊢
    exact ⟨hnd.2.1, hnd.1.sublist hl.kof, fun i hi j hj he => hnd.2.2 j (hl.kof.subset hj) i hi he.symm⟩
  have hKF : ∀ i k, k ∈ G.ft i → k ∈ F ++ L.flatMap (·.ft) := fun i k hk => by
    obtain ⟨c, hc, hkc⟩ := hft i k hk
    have : k ∈ K.flatMap (·.2.ft) := List.mem_flatMap.2 ⟨_, lookC_mem hc, hkc⟩
    simp only [K, List.flatMap_append, hkl.2] at this
    rcases List.mem_append.1 this with h1 | h1
    · exact List.mem_append_right _ h1
    · exact List.mem_append_left _ (hl.kof.subset h1)
  have hMok : ∀ k, ok k → (⟨w, oh, G⟩ : Mm).ok k := fun k hk => ⟨hk, fun id hid => hok k (hKF id k hid) hk⟩
  have hrow : ∀ i c, lookC K i = some c → (∃ u q, c.ob = .row u q ∧ ∃ n, Ow P w n u q [c.hd] c.ft) ∨ (∃ u sv cs, c.ob = .box u sv ∧ BoxC w u c.hd c.ft cs ∧ SVc P ⟨w, oh, G⟩ u sv cs) := fun i c hc => by
    rcases List.mem_append.1 (lookC_mem hc) with hx | hx
    · obtain ⟨j, r, hj, e1, e2, e3, e4⟩ := hl.lent.mem _ hx
      cases hb : r.box with
      | false => simp only [hb] at e4; exact .inl e4
      | true =>
        simp only [hb] at e4
        obtain ⟨p, n, d1, d2, d3⟩ := e4
        have hbx := h.boxes r (List.mem_of_getElem? hj) hb
        refine .inr ⟨r.t, _, r.cs, d1, d2, con_svc d3 rfl hMok (fun q u hq => ?_)⟩
        have hq' := (List.getElem?_eq_some_iff.1 hq).1
        show cv0 L _ = u
        rw [Nat.zero_add]
        exact cv0_at hj hq (by omega)
    · exact .inl (hl.rows _ hx)
  have hpinG : ∀ id r, L[id]? = some r → ∃ c, lookC K id = some c ∧ c.hd = r.hd := fun id r hr => by
    obtain ⟨x, hx, e1, e2, _⟩ := hl.lent.get id r hr
    rw [Nat.zero_add] at e1
    have hmem : (id, x.2) ∈ K := by rw [← e1]; exact List.mem_append_left _ hx
    exact ⟨x.2, lookC_of hkeys hmem, e2⟩
  have hat : At P (cx0 w ok F L) ⟨w, oh, G⟩ := by
    refine ⟨⟨⟨rfl, rfl, rfl, Nat.le_refl _, fun _ _ _ => rfl⟩, fun id t pv hr => ?_, fun id t sv hr => ?_, fun id t pv p hr => ?_, fun id h1 h2 h3 h4 => ?_, fun id t ps hr => ?_, fun id => ?_, fun i j hij k hk hk' => ?_, fun id k hk => .inl (hKF id k hk), fun id hid _ => ?_, fun k hk => .inr hk, ⟨rfl, rfl⟩⟩, fun id hid => ?_, hglb, fun k hk hko hm => hm.elim (fun h => hok k h hko) (fun h => absurd hk (Nat.not_lt.2 h))⟩
    · have hr' : oh id = .row t pv := hr
      rw [hoh] at hr'
      cases hlk : lookC K id with
      | none => rw [hlk] at hr'; cases hr'
      | some c =>
        rw [hlk] at hr'
        have hr2 : c.ob = .row t pv := hr'
        rcases hrow id c hlk with ⟨u, q, c1, n, c2⟩ | ⟨u, sv, cs, c1, _⟩
        · rw [c1] at hr2; injection hr2 with e1 e2; subst e1 e2
          refine ⟨n, ?_⟩
          show Ow P w n u q [G.hnd id] (G.ft id)
          rw [(chg_some hlk).1, (chg_some hlk).2]; exact c2
        · rw [c1] at hr2; cases hr2
    · have hr' : oh id = .box t sv := hr
      rw [hoh] at hr'
      cases hlk : lookC K id with
      | none => rw [hlk] at hr'; cases hr'
      | some c =>
        rw [hlk] at hr'
        have hr2 : c.ob = .box t sv := hr'
        rcases hrow id c hlk with ⟨u, q, c1, _⟩ | ⟨u, sv', cs, c1, ⟨g, arr, d1, d2, d3, d4⟩, c3⟩
        · rw [c1] at hr2; cases hr2
        · rw [c1] at hr2; injection hr2 with e1 e2; subst e1 e2
          exact ⟨g, arr, (chg_some hlk).1.trans d1, (chg_some hlk).2.trans d2, d3, d4 ▸ c3⟩
    · have hr' : oh id = .hole t pv p := hr
      rw [hoh] at hr'
      cases hlk : lookC K id with
      | none => rw [hlk] at hr'; cases hr'
      | some c =>
        rw [hlk] at hr'
        have hr2 : c.ob = .hole t pv p := hr'
        rcases hrow id c hlk with ⟨u, q, c1, _⟩ | ⟨u, sv, cs, c1, _⟩ <;> rw [c1] at hr2 <;> cases hr2
    · show G.ft id = []
      cases hlk : lookC K id with
      | none => exact (chg_none hlk).2
      | some c =>
        have := hoh id
        rw [hlk] at this
        rcases hrow id c hlk with ⟨u, q, c1, _⟩ | ⟨u, sv, cs, c1, _⟩
        · exact absurd (this.trans c1) (h1 u q)
        · exact absurd (this.trans c1) (h2 u sv)
    · have hr' : oh id = .shl t ps := hr
      rw [hoh] at hr'
      cases hlk : lookC K id with
      | none => rw [hlk] at hr'; cases hr'
      | some c =>
        rw [hlk] at hr'
        have hr2 : c.ob = .shl t ps := hr'
        rcases hrow id c hlk with ⟨u, q, c1, _⟩ | ⟨u, sv, cs, c1, _⟩ <;> rw [c1] at hr2 <;> cases hr2
    · show (G.ft id).Nodup
      cases hlk : lookC K id with
      | none => rw [(chg_none hlk).2]; simp
      | some c => rw [(chg_some hlk).2]; exact nodup_of_flat hKn _ (lookC_mem hlk)
    · obtain ⟨c, hc, hkc⟩ := hft i k hk
      obtain ⟨d, hd, hkd⟩ := hft j k hk'
      exact disj_of_nodup hKn _ (lookC_mem hc) _ (lookC_mem hd) hij k hkc hkd
    · have hid' : id < L.length := hid
      obtain ⟨c, hc, hhd⟩ := hpinG id L[id] (by simp [hid'])
      show G.hnd id = (L[id]?).elim undef (·.hd)
      rw [(chg_some hc).1, hhd]
      simp [hid']
    · have hid' : id < L.length := hid
      obtain ⟨c, hc, _⟩ := hpinG id L[id] (by simp [hid'])
      have := hoh id
      rw [hc] at this
      show oh id ≠ .free
      rw [this]
      rcases hrow id c hc with ⟨u, q, c1, _⟩ | ⟨u, sv, cs, c1, _⟩ <;> simp only [c1] <;> simp
  have hholds : ∀ K', (∀ x ∈ K', x ∈ K) → Holds (⟨w, oh, G⟩ : Mm) K' := fun K' hsub x hx => by
    have hlk := lookC_of hkeys (hsub x hx)
    refine ⟨?_, (chg_some hlk).1, (chg_some hlk).2⟩
    show oh x.1 = _
    rw [hoh, hlk]
  have hsl := hl.sl ⟨w, oh, G⟩ rfl (hholds KL (fun x hx => List.mem_append_left _ hx)) (hholds KO (fun x hx => List.mem_append_right _ hx)) hMok
  have hslen := hsl.length
  refine ⟨G, hat, rfl, ?_, fun t => ?_⟩
  · show ((paramsOf P ms ps 0 E.pins).1 ++ List.replicate (fn.ntmps - ps.length) SV.junk).length ≤ _
    simp [hslen, hlen.1]
  · show Slot P ⟨w, oh, G⟩ (((paramsOf P ms ps 0 E.pins).1 ++ List.replicate (fn.ntmps - ps.length) SV.junk).getD t .junk) ((vs.toArray ++ Array.replicate (fn.ntmps - vs.toArray.size) undef).getD t undef)
    by_cases ht : t < vs.length
    · obtain ⟨x, hx⟩ : ∃ x, (paramsOf P ms ps 0 E.pins).1[t]? = some x := ⟨_, List.getElem?_eq_getElem (by omega)⟩
      have hv : vs[t]? = some vs[t] := by simp [ht]
      have h1 : ((paramsOf P ms ps 0 E.pins).1 ++ List.replicate (fn.ntmps - ps.length) SV.junk).getD t .junk = x := by
        rw [List.getD_eq_getElem?_getD, List.getElem?_append_left (by omega), hx]; rfl
      have h2 : (vs.toArray ++ Array.replicate (fn.ntmps - vs.toArray.size) undef).getD t undef = vs[t] := by
        rw [Array.getD_eq_getD_getElem?, Array.getElem?_append_left (by simpa using ht)]
        simp [ht]
      rw [h1, h2]
      exact hsl.get t x vs[t] hx hv
    · have h1 : ((paramsOf P ms ps 0 E.pins).1 ++ List.replicate (fn.ntmps - ps.length) SV.junk).getD t .junk = .junk := by
        rw [List.getD_eq_getElem?_getD, List.getElem?_append_right (by omega), List.getElem?_replicate]
        split <;> rfl
      rw [h1]; exact .junk _
/-- THE WHOLE: what the machine says of a function is what the function does. -/
theorem fnOk_of_run {f : FuncId} {fn : Func} {c : Code} {s : ASpec} {E : Env} (hmix : P.follows .mixedOrders = true) (hf : P.funcs[f]? = some fn) (hb : fn.body = some c) (hname : (fn.name == "runtime.NumGoroutine") = false) (hc : codeOk c = true)
    (hT : ∀ f s, E.T f = some s → FnOk P f s) (hts : E.ts = lentT P s.params) (hfz : E.fz = true → allRo s.params = true ∧ boxRes s.res = false) (hden : ∀ args outs, s.den args = some outs → run P E fn s.params s.res args = some outs) (hsh : hasShr s.res = true → allRo s.params = true) : FnOk P f s := by
  refine ⟨⟨fn, hf, by rw [hb]; rfl, hname⟩, fun w ok1 vs ps F L outs hglb1 hargs1 hnd hok1 hd => ?_⟩
  let ok : Nat → Prop := fun k => ok1 k ∨ (E.fz = true ∧ w.heap.size ≤ k)
  have hglb : Glb.holds (P := P) ok w := Glb.step hglb1 (Nat.le_refl _) (fun k _ hk => ⟨.inl hk, rfl⟩)
  have hFL : E.fz = true → F = [] ∧ L = [] := fun h => allRo_args (hfz h).1 hargs1
  have hargs : ArgsAt P ok w s.params vs ps F L := by
    cases hf : E.fz with
    | false =>
      have : ok = ok1 := by funext k; simp [ok, hf]
      rw [this]; exact hargs1
    | true => exact allRo_rd (fun k hk => .inl hk) (hfz hf).1 hargs1
  have hok : ∀ k ∈ F ++ L.flatMap (·.ft), ¬ ok k := fun k hk ho => by
    rcases ho with h | ⟨h, _⟩
    · exact hok1 k hk h
    · obtain ⟨rfl, rfl⟩ := hFL h
      simp at hk
  have hres : hasShr s.res = false → ∀ {w' : World} {vs : List Value} {F' : List Nat}, ResAt P ok w' s.res outs vs F' → ResAt P ok1 w' s.res outs vs F' := fun hq {w' vs F'} h => by
    cases hf : E.fz with
    | false =>
      have : ok = ok1 := by funext k; simp [ok, hf]
      rw [this] at h; exact h
    | true => exact res_nobox (hfz hf).2 hq h
  have hrun := hden ps outs hd
  have hLt := hargs.len.2.2
  have hE : E.pins = L.length := by show E.ts.length = _; rw [hts, ← hLt]; simp
  have hstart := start_ok (fn := fn) hE hargs hnd hok hglb
  have hbody : bodyOf fn = c := by simp [bodyOf, hb]
  unfold run at hrun
  rw [hbody] at hrun
  refine calls_of_wp hf hb ?_
  have hend : ∀ (e : Ex) (σ' : St) (a' : Act) (w' : World), fin P E fn s.res e σ' = some outs → Rel P (cx0 w ok F L) σ' a' w' → (∀ id, e ≠ .exit id) ∧ a'.defers = [] ∧ ∃ v, (results fn a'.tmps).run P w' = .ok v w' ∧ ∃ v', Ending.returned v = .returned v' ∧ FnPost P ok1 w w' s.res outs L (F ++ L.flatMap (·.ft)) v' := fun e σ' a' w' hfin ⟨G, hG⟩ => by
    have hne : ∀ id, e ≠ .exit id := fun id he => by subst he; simp [fin] at hfin
    have hfin' : (match resultSVs P σ' fn.results.toList with
      | some xs => match results1 P σ'.oh s.res xs with
        | some (vs, l) => match outMuts P σ'.oh 0 E.ts with
          | some ms => bif nodupB (List.range E.pins ++ l) then some (vs ++ ms) else none
          | none => none
        | none => none
      | none => none) = some outs := by
      cases e with
      | exit id => exact absurd rfl (hne id)
      | normal => exact hfin
      | ret => exact hfin
    refine ⟨hne, hG.defers, ?_⟩
    split at hfin'
    case h_2 => cases hfin'
    rename_i xs hxs
    split at hfin'
    case h_2 => cases hfin'
    rename_i rs l hrs
    split at hfin'
    case h_2 => cases hfin'
    rename_i ms hms
    cases hnb : nodupB (List.range E.pins ++ l) <;> simp only [hnb, cond_true, cond_false] at hfin'
    · cases hfin'
    injection hfin' with hout
    obtain ⟨rvs, e1, e2⟩ := results_ok hG hxs
    have hm := hG.at_.mem
    have hr12 : ResAt P (okR ok1 w s.res) w' s.res (rs ++ ms) rvs (l.flatMap G.ft) ∧ rs.length = s.res.length := by
      cases hsr : hasShr s.res with
      | false =>
        obtain ⟨r1, r2⟩ := results1_ok (M := ⟨w', σ'.oh, G⟩) (rest := ms) (ok' := ok) hm (fun _ h => h) (hs0 := false) (fun h => by cases h) (fun h => by rw [hsr] at h; exact h) e2 hrs
        rw [okR_no hsr]
        rw [hout] at r1 ⊢
        exact ⟨hres hsr r1, r2⟩
      | true =>
        have hro := allRo_args (hsh hsr) hargs1
        rw [okR_yes hsr]
        exact results1_ok (M := ⟨w', σ'.oh, G⟩) (rest := ms) hm (fun k hk => hk.imp (fun h => h) (fun h => h.2)) (hs0 := true) (fun _ k hk => by
          rcases hk with hk | hk
          · obtain ⟨rfl, rfl⟩ := hro
            simp at hk
          · exact .inr hk) (fun _ => rfl) e2 hrs
    obtain ⟨r1, r2⟩ := hr12
    have hlent := outMuts_ok (M := ⟨w', σ'.oh, G⟩) hm hms (by rw [hLt, hts]) (fun j r hj => by
      have hlt := (List.getElem?_eq_some_iff.1 hj).1
      refine ⟨by simpa [cx0] using hlt, by simp [cx0, hj], fun hb => ?_⟩
      have hbx := hargs.boxes r (List.mem_of_getElem? hj) hb
      refine ⟨hbx.1, fun q u hq => ?_⟩
      have hq' := (List.getElem?_eq_some_iff.1 hq).1
      show cv0 L _ = u
      rw [Nat.zero_add]
      exact cv0_at hj hq (by omega))
    have hids := ft_nodup (M := ⟨w', σ'.oh, G⟩) hm (nodupB_nodup hnb)
    rw [hE, List.flatMap_append, List.range_eq_range'] at hids
    refine ⟨retVal rvs, results_run e1, retVal rvs, rfl, rvs, l.flatMap G.ft, (List.range' 0 L.length).map G.ft, rfl, ?_, ?_, ?_, ?_, ?_⟩
    · rw [← hout]; exact r1
    · rw [← hout, dropRes_append r2]; exact hlent
    · rw [← List.flatMap_def]
      rw [List.nodup_append] at hids ⊢
      exact ⟨hids.2.1, hids.1, fun i hi j hj he => hids.2.2 j hj i hi he.symm⟩
    · intro k hk
      have : ∃ id, k ∈ G.ft id := by
        rcases List.mem_append.1 hk with hk | hk
        · obtain ⟨i, _, hi⟩ := List.mem_flatMap.1 hk; exact ⟨i, hi⟩
        · obtain ⟨g, hg, hkg⟩ := List.mem_flatten.1 hk
          obtain ⟨i, _, rfl⟩ := List.mem_map.1 hg
          exact ⟨i, hkg⟩
      obtain ⟨id, hid⟩ := this
      rcases hm.own id k hid with h | h
      · exact .inr h
      · exact .inl h
    · exact ⟨hm.kept.os, hm.kept.tape, hm.kept.output, hm.kept.size, fun k hk hn => hm.kept.block k hk (fun hc => by
        rcases hc with hc | hc
        · exact hn hc
        · have h9 : w.heap.size ≤ k := hc
          omega)⟩
  have hmr : E.fz = true → ∀ k, (cx0 w ok F L).may k → (cx0 w ok F L).rok k := fun h k hk => Or.inr (a := ok1 k) ⟨h, by
    rcases hk with hk | hk
    · obtain ⟨rfl, rfl⟩ := hFL h
      simp at hk
    · exact hk⟩
  have hTz : ∀ f s, E.Tz f = some s → TOk P (cx0 w ok F L) f s := fun f s hs => by
    unfold Env.Tz at hs
    split at hs
    · rename_i s0 h0
      cases hb : (!hasShr s0.res || (E.fz && (allRo s0.params && oneRes s0.res))) <;> simp only [hb, cond_true, cond_false] at hs
      · cases hs
      injection hs with hs; subst hs
      refine ⟨hT f _ h0, fun hsr => ?_⟩
      rw [hsr] at hb
      simp only [Bool.not_true, Bool.false_or, Bool.and_eq_true] at hb
      exact ⟨hb.2.1, hb.2.2, hmr hb.1⟩
    · cases hs
  refine exec_ok hmix hTz (by rw [hE]; rfl) (fun h k hk => Or.inr (a := ok1 k) ⟨h, by
    rcases hk with hk | hk
    · obtain ⟨rfl, rfl⟩ := hFL h
      simp at hk
    · exact hk⟩) c hc hrun hstart (fun e σ' a' w' hk hR' => ?_)
  obtain ⟨hne, h2⟩ := hend e σ' a' w' hk hR'
  cases e with
  | exit id => exact absurd rfl (hne id)
  | normal => exact h2
  | ret => exact h2
end
end Go.Proofs.YtfbkfhdlingedaaAm

/-! A law's arguments, as trees; a law's end. -/
namespace Go.Proofs.YtfbkfhdlingedaaAm
open Go RowKit
/-- Arguments of this type are read in full. -/
def goodT (P : Program) : Nat → TypeId → Bool
  | 0, _ => false
  | n + 1, t => match tk P t with
    | .int _ | .bool | .str => true
    | .slice e => goodT P n e
    | .struct fs => !isArr P t && fs.all (goodT P n)
    | _ => false
def PvOkL (f : TypeId → PV → Prop) : List TypeId → List PV → Prop
  | [], [] => True
  | t :: ts, p :: ps => f t p ∧ PvOkL f ts ps
  | _, _ => False
/-- What an argument may be. -/
def PvOk (P : Program) : Nat → TypeId → PV → Prop
  | 0, _, _ => False
  | n + 1, t, pv => match tk P t with
    | .int k => ∃ x, pv = .sc (.int k x) ∧ (Lit.int k x).wf = true
    | .bool => ∃ b, pv = .sc (.bool b)
    | .str => ∃ s, pv = .sc (.string s) ∧ s.size ≤ reachBytes
    | .slice e => ∃ ps, pv = .list ps ∧ ps.length ≤ reachBytes ∧ ∀ p ∈ ps, PvOk P n e p
    | .struct fs => ∃ ps, pv = .agg ps ∧ PvOkL (PvOk P n) fs ps
    | _ => False
section
variable {P : Program} {W W' w : World} {H : Type} {enc : TypeId × Value → H} {ok : Nat → Prop}
variable [Glb P]
theorem cellsOf_eq (t : TypeId) : P.cellsOf t = sizeOf P t := by
  unfold Program.cellsOf sizeOf
  cases P.info? t <;> rfl
theorem list_of {α : Type} {n : Nat} {p : Nat → α → Prop} (h : ∀ i, i < n → ∃ x, p i x) : ∃ xs : List α, xs.length = n ∧ ∀ j a, xs[j]? = some a → p j a := by
  induction n with
  | zero => exact ⟨[], rfl, fun j a h => by simp at h⟩
  | succ n ih =>
    obtain ⟨xs, hl, hx⟩ := ih (fun i hi => h i (by omega))
    obtain ⟨x, hp⟩ := h n (by omega)
    refine ⟨xs ++ [x], by simp [hl], fun j a hj => ?_⟩
    by_cases hjn : j < n
    · rw [List.getElem?_append_left (by omega)] at hj
      exact hx j a hj
    · have hj2 : j = n := by
        have := (List.getElem?_eq_some_iff.1 hj).1
        simp [hl] at this
        omega
      subst hj2
      rw [List.getElem?_append_right (by omega), hl] at hj
      simp at hj
      subst hj
      exact hp
theorem flds_of {n N : Nat} {cs : List Value} (hN : cs.length = N) : ∀ (gs : List Field) (o : Nat), laid P o gs N = true →
    (∀ g ∈ gs, ∃ p, Rd P ok w n g.type p ((cs.drop g.offset).take (sizeOf P g.type)) ∧ PvOk P n g.type p) → ∃ ps, Flds (Rd P ok w n) (gs.map (·.type)) ps (cs.drop o) ∧ PvOkL (PvOk P n) (gs.map (·.type)) ps
  | [], o, hl, _ => by
    have : o = N := by simpa [laid] using hl
    exact ⟨[], by show cs.drop o = []; rw [List.drop_eq_nil_iff]; omega, trivial⟩
  | g :: gs, o, hl, h => by
    simp only [laid, Bool.and_eq_true] at hl
    have ho : g.offset = o := by simpa using hl.1
    obtain ⟨p, h1, h2⟩ := h g (by simp)
    obtain ⟨ps, h3, h4⟩ := flds_of hN gs (o + sizeOf P g.type) hl.2 (fun g' hg' => h g' (by simp [hg']))
    refine ⟨p :: ps, ⟨_, _, ?_, h1, h3⟩, h2, h4⟩
    rw [ho, ← List.drop_drop]
    exact (List.take_append_drop _ _).symm
theorem weightsAll_mem {e : TypeId} {b : Nat} : ∀ {ds : List (DataW H)} {d : DataW H}, d ∈ ds → b ∈ d.weights P e → b ∈ DataW.weightsAll P e ds
  | d0 :: ds, d, hd, hb => by
    simp only [DataW.weightsAll, List.mem_append]
    rcases List.mem_cons.1 hd with rfl | hd
    · exact .inl hb
    · exact .inr (weightsAll_mem hd hb)
theorem weights_more {us : List TypeId} {b : Nat} : ∀ {ts : List TypeId} {ds : List (DataW H)}, b ∈ DataW.weightsEach P ts ds → b ∈ DataW.weightsEach P (ts ++ us) ds
  | [], ds, h => by cases ds <;> simp [DataW.weightsEach] at h
  | t :: ts, [], h => by simp [DataW.weightsEach] at h
  | t :: ts, d :: ds, h => by
    simp only [List.cons_append, DataW.weightsEach, List.mem_append] at h ⊢
    exact h.imp id weights_more
theorem trod_rd : ∀ {n : Nat} {t : TypeId} {fuel : Nat} {cs : List Value} {x : DataW H × List MemPlace}, goodT P n t = true → DataW.trod enc P w 0 (fun _ => true) true fuel t cs = some x → (∀ b ∈ x.1.weights P t, b ≤ reachBytes) →
    ∃ pv, Rd P (fun _ => True) w n t pv cs ∧ PvOk P n t pv
  | 0, t, fuel, cs, x, hg, _, _ => by simp [goodT] at hg
  | n + 1, t, fuel, cs, x, hg, h, hb => by
    unfold goodT at hg
    unfold Rd PvOk
    cases ht : tk P t with
    | int k =>
      obtain ⟨z, rfl, _, hw⟩ := DataW.trod_int (tk_int ht) h
      exact ⟨_, ⟨z, rfl, rfl⟩, z, rfl, hw⟩
    | bool =>
      obtain ⟨z, rfl, _⟩ := DataW.trod_bool (tk_bool ht) h
      exact ⟨_, ⟨z, rfl, rfl⟩, z, rfl⟩
    | str =>
      obtain ⟨z, rfl, rfl, hs⟩ := DataW.trod_string (tk_str ht) h
      refine ⟨_, ⟨z, rfl, rfl⟩, z, rfl, ?_⟩
      have := hb z.data.toList.length (by simp [DataW.weights])
      simpa using this
    | other => rw [ht] at hg; simp at hg
    | bad => rw [ht] at hg; simp at hg
    | slice e =>
      rw [ht] at hg
      obtain ⟨hu, hel⟩ := tk_slice ht
      obtain ⟨i, z, hi, _, _, _, hby, _⟩ := elemOk_info hel
      rcases Deep.open_slice hu h with ⟨rfl, _⟩ | ⟨a, len, cap, m, n', D, Pl, rfl, _, hl, hm, hmm, rfl, hx⟩
      · exact ⟨.list [], ⟨none, 0, [], rfl, rfl, Nat.le_refl _, fun h => by simp at h⟩, [], rfl, by simp, by simp⟩
      · obtain ⟨xs, hxl, hxs⟩ := list_of (n := len) (p := fun i y => ∃ cs', w.cells? 0 (a.add (i * P.cellsOf e)) (P.cellsOf e) = some cs' ∧ Rd P (fun _ => True) w n e y cs' ∧ PvOk P n e y) (fun i hi => by
          obtain ⟨cs', h1, h2⟩ := hx i (by rw [hmm]; simp; omega)
          obtain ⟨y, hy, hp⟩ := trod_rd hg h2 (fun b hbb => hb b (by
            simp only [DataW.weights, hu]
            refine List.mem_cons_of_mem _ (List.mem_append_left _ (weightsAll_mem (d := D i) (List.mem_map.2 ⟨i, by simp [hi], rfl⟩) hbb))))
          exact ⟨y, cs', h1, hy, hp⟩)
        refine ⟨.list xs, ⟨some a, cap, xs, by rw [hxl], rfl, by omega, fun _ => ⟨a, rfl, trivial, fun j p hj => ?_⟩⟩, xs, rfl, ?_, fun p hp => ?_⟩
        · obtain ⟨cs', h1, h2, _⟩ := hxs j p hj
          obtain ⟨_, hcl, hcell⟩ := World.cells?_some h1
          rw [cellsOf_eq] at hcl hcell
          refine ⟨cs', hcl, fun q u hq => ?_, h2⟩
          have hi : q < sizeOf P e := by rw [← hcl]; exact (List.getElem?_eq_some_iff.1 hq).1
          have := hcell q hi
          rw [hq, add_add] at this
          exact this
        · have hw := hb _ (by simp only [DataW.weights, hu]; exact List.mem_cons_self)
          have hbp : 0 < P.bytesOf e := by simp [Program.bytesOf, hi]; exact hby
          simp only [List.length_map, List.length_range] at hw
          have : len ≤ (len + (m - len)) * P.bytesOf e := Nat.le_trans (Nat.le_add_right _ _) (Nat.le_mul_of_pos_right _ hbp)
          omega
        · obtain ⟨j, hj⟩ := List.mem_iff_getElem?.1 hp
          obtain ⟨_, _, _, h3⟩ := hxs j p hj
          exact h3
    | struct fs =>
      rw [ht] at hg
      simp only [Bool.and_eq_true, Bool.not_eq_true'] at hg
      obtain ⟨hna, hg⟩ := hg
      obtain ⟨gs, hu, hla, hfs⟩ := tk_struct ht hna
      obtain ⟨xs, n', _, hx0, hl, hxl, hf⟩ := DataW.trod_struct hu h
      subst hx0
      have := flds_of (P := P) (ok := fun _ => True) (w := w) (n := n) (N := sizeOf P t) (cs := cs) (by rw [hl, cellsOf_eq]) gs.toList 0 hla (fun g hg' => by
        obtain ⟨i, hi⟩ := List.mem_iff_getElem?.1 hg'
        have hgi : gs[i]? = some g := by simpa using hi
        have hlt : i < xs.length := by rw [hxl]; exact (Array.getElem?_eq_some_iff.1 hgi).1
        have h1 := hf i g hgi
        rw [List.getElem?_eq_getElem hlt, cellsOf_eq] at h1
        refine trod_rd (List.all_eq_true.1 hg g.type (by rw [hfs]; exact List.mem_map_of_mem hg')) h1 (fun b hbb => hb b ?_)
        simp only [DataW.weights, hu]
        exact DataW.weights_mem_each (j := i) (by simp [hgi]) (by simp [hlt]) b hbb)
      obtain ⟨ps, h3, h4⟩ := this
      rw [← hfs] at h3 h4
      exact ⟨.agg ps, ⟨ps, rfl, by simpa using h3⟩, ps, rfl, h4⟩
theorem okWide_val {n : Nat} {r : Reach} {base : Nat} {t : TypeId} {v : Value} (hg : goodT P n t = true) (h : Value.okWide P w r base t v) : v = valOf P t v.cells.toList := by
  cases n with
  | zero => simp [goodT] at hg
  | succ n =>
    unfold goodT at hg
    cases ht : tk P t with
    | int k => obtain ⟨z, rfl⟩ := WideShapes.okWide_int (tk_int ht) h; exact (valOf_one (by rw [ht]; simp) _).symm
    | bool => obtain ⟨z, rfl⟩ := WideShapes.okWide_bool (tk_bool ht) h; exact (valOf_one (by rw [ht]; simp) _).symm
    | str => obtain ⟨z, rfl⟩ := WideShapes.okWide_string (tk_str ht) h; exact (valOf_one (by rw [ht]; simp) _).symm
    | slice e => obtain ⟨a, l, c, rfl⟩ := WideShapes.okWide_slice (tk_slice ht).1 h; exact (valOf_one (by rw [ht]; simp) _).symm
    | struct fs =>
      rw [ht] at hg
      simp only [Bool.and_eq_true, Bool.not_eq_true'] at hg
      obtain ⟨gs, hu, _⟩ := tk_struct ht hg.1
      obtain ⟨cs, rfl, _⟩ := WideShapes.okWide_struct hu h
      exact (valOf_agg ht cs).symm
    | other => rw [ht] at hg; simp at hg
    | bad => rw [ht] at hg; simp at hg
theorem law_args {n : Nat} {r : Reach} {base : Nat} : ∀ {ts : List TypeId} {vs : List Value} {ds : List (DataW H)} {pl : List MemPlace}, ts.all (goodT P n) = true → DataW.TrodAll enc P w 0 (fun _ => true) true ts vs ds pl →
    (∀ (j : Nat) t v, ts[j]? = some t → vs[j]? = some v → Value.okWide P w r base t v) → (∀ b ∈ DataW.weightsEach P ts ds, b ≤ reachBytes) → ∃ ps, ArgsAt P (fun _ => True) w (ts.map fun t => (t, Mode.ro)) vs ps [] [] ∧ PvOkL (PvOk P n) ts ps
  | [], [], [], pl, _, _, _, _ => ⟨[], ⟨rfl, rfl⟩, trivial⟩
  | t :: ts, v :: vs, d :: ds, pl, hg, ⟨p, q, ⟨fuel, h1⟩, h2, _⟩, hv, hb => by
    simp only [List.all_cons, Bool.and_eq_true] at hg
    obtain ⟨ps, a1, a2⟩ := law_args hg.2 h2 (fun j t v h3 h4 => hv (j + 1) t v (by simpa using h3) (by simpa using h4)) (fun b hbb => hb b (by simp [DataW.weightsEach, hbb]))
    obtain ⟨p, b1, b2⟩ := trod_rd hg.1 h1 (fun b hbb => hb b (by simp only [DataW.weightsEach, List.mem_append]; exact .inl hbb))
    exact ⟨p :: ps, ⟨⟨n, _, b1, okWide_val hg.1 (hv 0 t v rfl rfl)⟩, a1⟩, b2, a2⟩
  | [], _ :: _, _, _, _, h, _, _ => h.elim
  | [], [], _ :: _, _, _, h, _, _ => h.elim
  | _ :: _, [], _, _, _, h, _, _ => h.elim
  | _ :: _, _ :: _, [], _, _, h, _, _ => h.elim
theorem law_back (hl : laidOutB P = true) (bel : Below W.heap.size W W') : ∀ {ts : List TypeId} {vs : List Value} {ds : List (DataW H)} {pl : List MemPlace}, ts.all (fun t => P.readableRec t && decide (t < P.types.size)) = true → DataW.TrodAll enc P W 0 (fun _ => true) true ts vs ds pl →
    DataW.TrodAll enc P W' 0 (fun b => decide (b < W.heap.size)) true ts vs ds pl
  | [], [], [], pl, _, h => h
  | t :: ts, v :: vs, d :: ds, pl, hr, ⟨p, q, h1, h2, h3⟩ => by
    simp only [List.all_cons, Bool.and_eq_true, decide_eq_true_eq] at hr
    have hlt : ∀ x ∈ p, x.block < W.heap.size := by obtain ⟨m, hm⟩ := h1; exact DataW.trod_lt m _ _ _ hm
    exact ⟨p, q, Below.trod hl hr.1.1 hr.1.2 h1 bel hlt, law_back hl bel hr.2 h2, h3⟩
  | [], _ :: _, _, _, _, h => h.elim
  | [], [], _ :: _, _, _, h => h.elim
  | _ :: _, [], _, _, _, h => h.elim
  | _ :: _, _ :: _, [], _, _, h => h.elim
/-- A law's end: it has said true. -/
theorem law_end {t : TypeId} {v : Value} (ht : tk P t = .bool) (h : FnPost P ok W W' [(t, .val)] [.sc (.bool true)] [] [] v) : v = .bool true ∧ Below W.heap.size W W' := by
  obtain ⟨vs, F, Gs, rfl, hr, _, _, _, hs⟩ := h
  match vs, hr with
  | u :: us, ⟨⟨n, cs, h1, h2⟩, h3⟩ =>
    obtain ⟨rfl, _⟩ := h3
    refine ⟨?_, hs.os, hs.tape, hs.output, hs.size, fun k hk => hs.block k hk (by simp)⟩
    cases n with
    | zero => exact h1.elim
    | succ n =>
      unfold Rd at h1
      simp only [ht] at h1
      obtain ⟨b, hb, rfl⟩ := h1
      simp at hb; subst hb
      rw [valOf_one (by rw [ht]; simp)] at h2
      show u = _
      rw [h2]
  | [], h => exact h.elim
theorem lk_ok {l : List (FuncId × ASpec)} (h : ∀ x ∈ l, FnOk P x.1 x.2) : ∀ f s, lk l f = some s → FnOk P f s := by
  induction l with
  | nil => intro f s h; simp [lk] at h
  | cons x r ih =>
    intro f s hs
    unfold lk at hs
    cases hb : Nat.beq x.1 f
    · rw [hb] at hs; exact ih (fun y hy => h y (List.mem_cons_of_mem _ hy)) f s hs
    · rw [hb] at hs
      injection hs with hs
      have : x.1 = f := Nat.beq_eq.mp hb
      subst this hs
      exact h x (by simp)
theorem fnOk_of {f : FuncId} {fn : Func} {s : ASpec} {E : Env} (hmix : P.follows .mixedOrders = true) (hf : P.funcs[f]? = some fn) (hb : fn.body.isSome = true) (hname : (fn.name == "runtime.NumGoroutine") = false) (hc : codeOk (bodyOf fn) = true)
    (hT : ∀ f s, E.T f = some s → FnOk P f s) (hts : E.ts = lentT P s.params) (hden : ∀ args outs, s.den args = some outs → run P E fn s.params s.res args = some outs) (hfz : E.fz = false := by rfl) (hsh : hasShr s.res = true → allRo s.params = true := by first | (intro _; rfl) | (intro h; cases h)) : FnOk P f s := by
  obtain ⟨c, hc'⟩ := Option.isSome_iff_exists.1 hb
  exact fnOk_of_run hmix hf hc' hname (by simpa [bodyOf, hc'] using hc) hT hts (fun h => by rw [hfz] at h; cases h) hden hsh
theorem fnOk_ofz {f : FuncId} {fn : Func} {s : ASpec} {E : Env} (hmix : P.follows .mixedOrders = true) (hf : P.funcs[f]? = some fn) (hb : fn.body.isSome = true) (hname : (fn.name == "runtime.NumGoroutine") = false) (hc : codeOk (bodyOf fn) = true)
    (hT : ∀ f s, E.T f = some s → FnOk P f s) (hts : E.ts = lentT P s.params) (hden : ∀ args outs, s.den args = some outs → run P E fn s.params s.res args = some outs) (hro : allRo s.params = true := by rfl) (hbr : boxRes s.res = false := by rfl) (hsh : hasShr s.res = true → allRo s.params = true := by first | (intro _; rfl) | (intro h; cases h)) : FnOk P f s := by
  obtain ⟨c, hc'⟩ := Option.isSome_iff_exists.1 hb
  exact fnOk_of_run hmix hf hc' hname (by simpa [bodyOf, hc'] using hc) hT hts (fun _ => ⟨hro, hbr⟩) hden hsh
/-- A function that calls itself: rounds of calls, d deep. -/
theorem fnOk_rec {f : FuncId} {fn : Func} {ps : List (TypeId × Mode)} {res : List (TypeId × RMode)} (hmix : P.follows .mixedOrders = true) (hf : P.funcs[f]? = some fn) (hb : fn.body.isSome = true) (hname : (fn.name == "runtime.NumGoroutine") = false) (hc : codeOk (bodyOf fn) = true)
    (g : Nat → List PV → Option Res) (E : Nat → Env) (h0 : ∀ a, g 0 a = none) (hT : ∀ d, FnOk P f ⟨ps, res, g d⟩ → ∀ f' s, (E d).T f' = some s → FnOk P f' s) (hts : ∀ d, (E d).ts = lentT P ps)
    (hden : ∀ d args outs, g (d + 1) args = some outs → run P (E d) fn ps res args = some outs) (hfz : ∀ d, (E d).fz = false := by intro _; rfl) (hsh : hasShr res = true → allRo ps = true := by first | (intro _; rfl) | (intro h; cases h)) : ∀ d, FnOk P f ⟨ps, res, g d⟩
  | 0 => ⟨⟨fn, hf, by obtain ⟨c, h⟩ := Option.isSome_iff_exists.1 hb; rw [h]; rfl, hname⟩, fun _ _ _ _ _ _ _ _ _ _ _ h => by
      have h' : g 0 _ = some _ := h
      rw [h0] at h'; cases h'⟩
  | d + 1 => fnOk_of (s := ⟨ps, res, g (d + 1)⟩) (E := E d) hmix hf hb hname hc (hT d (fnOk_rec hmix hf hb hname hc g E h0 hT hts hden hfz hsh d)) (hts d) (hden d) (hfz d) hsh
theorem all_nil {Q : FuncId × ASpec → Prop} : ∀ x ∈ ([] : List (FuncId × ASpec)), Q x := fun _ h => by cases h
theorem all_cons {Q : FuncId × ASpec → Prop} {x : FuncId × ASpec} {l : List (FuncId × ASpec)} (h : Q x) (hl : ∀ y ∈ l, Q y) : ∀ y ∈ x :: l, Q y := fun y hy => by
  rcases List.mem_cons.1 hy with rfl | hy
  · exact h
  · exact hl y hy
end
end Go.Proofs.YtfbkfhdlingedaaAm

/-! A kit of small plain laws: rounds, numbers, lists, trees of plain values. -/
namespace Go.Proofs.YtfbkfhdlingedaaAm
open Go RowKit
/-! ### Rounds -/
def Ev {α : Type} (g : Nat → Option α) (r : α) : Prop := ∃ k0, ∀ k, k0 ≤ k → g k = some r
def Ev2 {α : Type} (g : Nat → Nat → Option α) (r : α) : Prop := ∃ k0, ∀ N n, k0 ≤ N → k0 ≤ n → g N n = some r
def Ev3 {α : Type} (g : Nat → Nat → Nat → Option α) (r : α) : Prop := ∃ k0, ∀ N m n, k0 ≤ N → k0 ≤ m → k0 ≤ n → g N m n = some r
def Ev4 {α : Type} (g : Nat → Nat → Nat → Nat → Option α) (r : α) : Prop := ∃ k0, ∀ N l m n, k0 ≤ N → k0 ≤ l → k0 ≤ m → k0 ≤ n → g N l m n = some r
section
variable {α β : Type} {r : α} {s : β}
theorem Ev.now (r : α) : Ev (fun _ => some r) r := ⟨0, fun _ _ => rfl⟩
theorem Ev2.now (r : α) : Ev2 (fun _ _ => some r) r := ⟨0, fun _ _ _ _ => rfl⟩
theorem Ev3.now (r : α) : Ev3 (fun _ _ _ => some r) r := ⟨0, fun _ _ _ _ _ _ => rfl⟩
theorem Ev4.now (r : α) : Ev4 (fun _ _ _ _ => some r) r := ⟨0, fun _ _ _ _ _ _ _ _ => rfl⟩
theorem Ev.of {g : Nat → Option α} (h : ∀ N, g N = some r) : Ev g r := ⟨0, fun N _ => h N⟩
theorem Ev.congr {g g' : Nat → Option α} (h : ∀ N, g N = g' N) (h' : Ev g' r) : Ev g r := by
  obtain ⟨k, hk⟩ := h'; exact ⟨k, fun N hN => (h N).trans (hk N hN)⟩
theorem Ev2.congr {g g' : Nat → Nat → Option α} (h : ∀ N n, g N n = g' N n) (h' : Ev2 g' r) : Ev2 g r := by
  obtain ⟨k, hk⟩ := h'; exact ⟨k, fun N n hN hn => (h N n).trans (hk N n hN hn)⟩
theorem Ev3.congr {g g' : Nat → Nat → Nat → Option α} (h : ∀ N m n, g N m n = g' N m n) (h' : Ev3 g' r) : Ev3 g r := by
  obtain ⟨k, hk⟩ := h'; exact ⟨k, fun N m n hN hm hn => (h N m n).trans (hk N m n hN hm hn)⟩
theorem Ev.up {g : Nat → Option α} (h : Ev g r) : Ev2 (fun N _ => g N) r := by obtain ⟨k, hk⟩ := h; exact ⟨k, fun N _ hN _ => hk N hN⟩
theorem Ev.up3 {g : Nat → Option α} (h : Ev g r) : Ev3 (fun N _ _ => g N) r := by obtain ⟨k, hk⟩ := h; exact ⟨k, fun N _ _ hN _ _ => hk N hN⟩
theorem Ev.up4 {g : Nat → Option α} (h : Ev g r) : Ev4 (fun N _ _ _ => g N) r := by obtain ⟨k, hk⟩ := h; exact ⟨k, fun N _ _ _ hN _ _ _ => hk N hN⟩
theorem Ev2.diag {g : Nat → Nat → Option α} (h : Ev2 g r) : Ev (fun N => g N N) r := by obtain ⟨k, hk⟩ := h; exact ⟨k, fun N hN => hk N N hN hN⟩
/-- A loop inside a loop, from its start. -/
theorem Ev3.start {g : Nat → Nat → Nat → Option α} (h : Ev3 g r) : Ev2 (fun N n => g N n N) r := by obtain ⟨k, hk⟩ := h; exact ⟨k, fun N n hN hn => hk N n N hN hn hN⟩
theorem Ev4.start {g : Nat → Nat → Nat → Nat → Option α} (h : Ev4 g r) : Ev3 (fun N m n => g N m n N) r := by obtain ⟨k, hk⟩ := h; exact ⟨k, fun N m n hN hm hn => hk N m n N hN hm hn hN⟩
/-- A loop behind a loop. -/
theorem Ev2.after {g : Nat → Nat → Option α} (h : Ev2 g r) : Ev2 (fun N _ => g N N) r := by obtain ⟨k, hk⟩ := h; exact ⟨k, fun N _ hN _ => hk N N hN hN⟩
theorem Ev2.after3 {g : Nat → Nat → Option α} (h : Ev2 g r) : Ev3 (fun N _ _ => g N N) r := by obtain ⟨k, hk⟩ := h; exact ⟨k, fun N _ _ hN _ _ => hk N N hN hN⟩
/-- The loop around goes on. -/
theorem Ev2.outer {g : Nat → Nat → Option α} (h : Ev2 g r) : Ev3 (fun N m _ => g N m) r := by obtain ⟨k, hk⟩ := h; exact ⟨k, fun N m _ hN hm _ => hk N m hN hm⟩
theorem Ev3.outer {g : Nat → Nat → Nat → Option α} (h : Ev3 g r) : Ev4 (fun N l m _ => g N l m) r := by obtain ⟨k, hk⟩ := h; exact ⟨k, fun N l m _ hN hl hm _ => hk N l m hN hl hm⟩
theorem Ev2.outer4 {g : Nat → Nat → Option α} (h : Ev2 g r) : Ev4 (fun N l _ _ => g N l) r := by obtain ⟨k, hk⟩ := h; exact ⟨k, fun N l _ _ hN hl _ _ => hk N l hN hl⟩
theorem Ev3.after {g : Nat → Nat → Nat → Option α} (h : Ev3 g r) : Ev3 (fun N m _ => g N m N) r := by obtain ⟨k, hk⟩ := h; exact ⟨k, fun N m _ hN hm _ => hk N m N hN hm hN⟩
theorem Ev2.succ {g : Nat → Nat → Option α} (h : Ev2 (fun N n => g N (n + 1)) r) : Ev2 g r := by
  obtain ⟨k, hk⟩ := h
  refine ⟨k + 1, fun N n hN hn => ?_⟩
  obtain ⟨m, rfl⟩ : ∃ m, n = m + 1 := ⟨n - 1, by omega⟩
  exact hk N m (by omega) (by omega)
theorem Ev3.succ {g : Nat → Nat → Nat → Option α} (h : Ev3 (fun N m n => g N m (n + 1)) r) : Ev3 g r := by
  obtain ⟨k, hk⟩ := h
  refine ⟨k + 1, fun N m n hN hm hn => ?_⟩
  obtain ⟨n, rfl⟩ : ∃ n', n = n' + 1 := ⟨n - 1, by omega⟩
  exact hk N m n (by omega) (by omega) (by omega)
theorem Ev4.succ {g : Nat → Nat → Nat → Nat → Option α} (h : Ev4 (fun N l m n => g N l m (n + 1)) r) : Ev4 g r := by
  obtain ⟨k, hk⟩ := h
  refine ⟨k + 1, fun N l m n hN hl hm hn => ?_⟩
  obtain ⟨n, rfl⟩ : ∃ n', n = n' + 1 := ⟨n - 1, by omega⟩
  exact hk N l m n (by omega) (by omega) (by omega) (by omega)
theorem Ev.bind {g : Nat → Option β} {f : Nat → β → Option α} (h : Ev g s) (k : Ev (fun N => f N s) r) : Ev (fun N => (g N).bind (f N)) r := by
  obtain ⟨k1, h1⟩ := h; obtain ⟨k2, h2⟩ := k
  exact ⟨max k1 k2, fun N hN => by
    show (g N).bind (f N) = _
    rw [h1 N (by omega), Option.bind_some]; exact h2 N (by omega)⟩
theorem Ev2.bind {g : Nat → Option β} {f : Nat → Nat → β → Option α} (h : Ev g s) (k : Ev2 (fun N n => f N n s) r) : Ev2 (fun N n => (g N).bind (f N n)) r := by
  obtain ⟨k1, h1⟩ := h; obtain ⟨k2, h2⟩ := k
  exact ⟨max k1 k2, fun N n hN hn => by
    show (g N).bind (f N n) = _
    rw [h1 N (by omega), Option.bind_some]; exact h2 N n (by omega) (by omega)⟩
theorem Ev3.bind {g : Nat → Option β} {f : Nat → Nat → Nat → β → Option α} (h : Ev g s) (k : Ev3 (fun N m n => f N m n s) r) : Ev3 (fun N m n => (g N).bind (f N m n)) r := by
  obtain ⟨k1, h1⟩ := h; obtain ⟨k2, h2⟩ := k
  exact ⟨max k1 k2, fun N m n hN hm hn => by
    show (g N).bind (f N m n) = _
    rw [h1 N (by omega), Option.bind_some]; exact h2 N m n (by omega) (by omega) (by omega)⟩
theorem Ev4.bind {g : Nat → Option β} {f : Nat → Nat → Nat → Nat → β → Option α} (h : Ev g s) (k : Ev4 (fun N l m n => f N l m n s) r) : Ev4 (fun N l m n => (g N).bind (f N l m n)) r := by
  obtain ⟨k1, h1⟩ := h; obtain ⟨k2, h2⟩ := k
  exact ⟨max k1 k2, fun N l m n hN hl hm hn => by
    show (g N).bind (f N l m n) = _
    rw [h1 N (by omega), Option.bind_some]; exact h2 N l m n (by omega) (by omega) (by omega) (by omega)⟩
theorem Ev.ext {g : Nat → Option α} {r' : α} (h : Ev g r) (e : r = r') : Ev g r' := e ▸ h
theorem Ev2.ext {g : Nat → Nat → Option α} {r' : α} (h : Ev2 g r) (e : r = r') : Ev2 g r' := e ▸ h
theorem Ev3.ext {g : Nat → Nat → Nat → Option α} {r' : α} (h : Ev3 g r) (e : r = r') : Ev3 g r' := e ▸ h
theorem Ev.some {g : Nat → Option α} (h : Ev g r) : ∃ N, g N = Option.some r := by obtain ⟨k, hk⟩ := h; exact ⟨k, hk k (Nat.le_refl _)⟩
end
/-! ### Plain values as trees -/
abbrev strP (s : ByteArray) : PV := .sc (.string s)
abbrev intP (n : Int) : PV := .sc (.int .i64 n)
abbrev boolP (b : Bool) : PV := .sc (.bool b)
def strsP (l : List ByteArray) : PV := .list (l.map strP)
def intsP (l : List Int) : PV := .list (l.map intP)
theorem items_list (l : List PV) : (PV.list l).items = l := rfl
/-- Whole numbers of 32 bits, as trees. -/
def numsL (l : List Int) : List PV := l.map fun x => .sc (.int .u32 x)
theorem fld_agg (l : List PV) (i : Nat) : (PV.agg l).fld i = l.getD i default := rfl
theorem elem_list (l : List PV) (i : Nat) : (PV.list l).elem i = l.getD i default := rfl
theorem toStr_sc (s : ByteArray) : (PV.sc (.string s)).toStr = s := rfl
theorem toInt_sc (k : IntKind) (n : Int) : (PV.sc (.int k n)).toInt = n := rfl
theorem toBool_sc (b : Bool) : (PV.sc (.bool b)).toBool = b := rfl
theorem headD_one (v : PV) (l : List PV) : (v :: l).headD default = v := rfl
theorem strs_len (l : List ByteArray) : (strsP l).items.length = l.length := by simp [strsP, PV.items]
theorem ints_len (l : List Int) : (intsP l).items.length = l.length := by simp [intsP, PV.items]
theorem strs_elem (l : List ByteArray) (i : Nat) : ((strsP l).elem i).toStr = l.getD i ByteArray.empty := by
  simp only [strsP, elem_list, List.getD_eq_getElem?_getD, List.getElem?_map]
  cases l[i]? <;> rfl
theorem ints_elem (l : List Int) (i : Nat) : ((intsP l).elem i).toInt = l.getD i 0 := by
  simp only [intsP, elem_list, List.getD_eq_getElem?_getD, List.getElem?_map]
  cases l[i]? <;> rfl
theorem strs_take (l : List ByteArray) (i j : Nat) : PV.list (((strsP l).items.drop i).take j) = strsP ((l.drop i).take j) := by simp [strsP, PV.items]
theorem ints_take (l : List Int) (i j : Nat) : PV.list (((intsP l).items.drop i).take j) = intsP ((l.drop i).take j) := by simp [intsP, PV.items]
/-! ### Numbers -/
theorem wrap_id {n : Int} (h0 : -9223372036854775808 ≤ n) (h1 : n < 9223372036854775808) : IntKind.i64.wrap n = n := by
  have h : IntKind.i64.wrap n = if (n % 18446744073709551616) ≥ 9223372036854775808 then n % 18446744073709551616 - 18446744073709551616 else n % 18446744073709551616 := by
    simp [IntKind.wrap, IntKind.signed, IntKind.bits]
  rw [h]; split <;> omega
theorem nn {n : Nat} : (0 : Int) ≤ (n : Int) := Int.natCast_nonneg n
theorem nat_int (n : Nat) : ((n : Int)).toNat = n := rfl
theorem dec_true {p : Prop} [Decidable p] (h : p) : (decide p = true) = True := by simp [h]
theorem dec_false {p : Prop} [Decidable p] (h : ¬ p) : (decide p = true) = False := by simp [h]
/-! ### Texts -/
theorem toList_inj {s t : ByteArray} : s.toList = t.toList ↔ s = t := by
  constructor
  · intro h
    have h1 : s.data.toList = t.data.toList := by simpa [ByteArray.toList_eq] using h
    cases s; cases t; simp at h1; simp [h1]
  · rintro rfl; rfl
instance decText : DecidableEq ByteArray := fun a b => decidable_of_iff (a.toList = b.toList) toList_inj
instance decIn (c : ByteArray) : (l : List ByteArray) → Decidable (c ∈ l)
  | [] => isFalse (by simp)
  | x :: r => match decText c x, decIn c r with
    | isTrue h, _ => isTrue (by simp [h])
    | isFalse _, isTrue h => isTrue (by simp [h])
    | isFalse h1, isFalse h2 => isFalse (by simp [h1, h2])
/-- A text's byte, as a number. -/
def bt (s : ByteArray) (i : Nat) : Int := ((s.get! i).toNat : Int)
theorem get_bt (s : ByteArray) (i : Nat) : (((s.get! i).toNat : Nat) : Int) = bt s i := rfl
def bytesOf (s : ByteArray) : List Int := s.data.toList.map fun b => (b.toNat : Int)
theorem bytesOf_len (s : ByteArray) : (bytesOf s).length = s.size := by simp [bytesOf]
theorem bt_bytes (s : ByteArray) (i : Nat) : bt s i = (bytesOf s).getD i 0 := by
  unfold bt bytesOf ByteArray.get!
  rw [List.getD_eq_getElem?_getD, List.getElem?_map]
  by_cases h : i < s.size
  · simp [getElem!_def, h, Array.getElem?_eq_getElem (show i < s.data.size from h)]
  · rw [List.getElem?_eq_none (by simpa using h)]
    have : s.data[i]? = none := Array.getElem?_eq_none (by simpa using h)
    simp [getElem!_def, this]; rfl
theorem bytesOf_inj {s t : ByteArray} (h : bytesOf s = bytesOf t) : s = t := by
  have : s.data.toList = t.data.toList := by
    have := (List.map_inj_right (f := fun b : UInt8 => (b.toNat : Int)) (fun x y h => by
      have h' : x.toNat = y.toNat := Int.ofNat.inj h
      exact UInt8.toNat_inj.1 h')).1 h
    exact this
  cases s; cases t; simp at this; simp [this]
/-! ### A place in a list: what stands there, and the next place -/
section
variable {α : Type} {xs pre rest : List α} {c : α}
theorem at_lt (hp : xs = pre ++ c :: rest) : (pre.length : Int) < (xs.length : Int) := by subst hp; simp; omega
theorem at_ltN (hp : xs = pre ++ c :: rest) : pre.length < xs.length := by subst hp; simp
theorem at_end (hp : xs = pre ++ []) : ¬ (pre.length : Int) < (xs.length : Int) := by subst hp; simp
theorem at_step (hp : xs = pre ++ c :: rest) : xs = (pre ++ [c]) ++ rest := by subst hp; simp
theorem at_next (hp : xs = pre ++ c :: rest) (hx : xs.length ≤ 9223372036854775807) : IntKind.i64.wrap ((pre.length : Int) + 1) = ((pre ++ [c]).length : Int) := by
  have := at_lt hp
  rw [wrap_id (by omega) (by omega)]; simp
theorem at_getD {d : α} (hp : xs = pre ++ c :: rest) : xs.getD pre.length d = c := by subst hp; simp
theorem at_bt {s : ByteArray} {pre rest : List Int} {c : Int} (hp : bytesOf s = pre ++ c :: rest) : bt s pre.length = c := by rw [bt_bytes]; exact at_getD hp
theorem at_size {s : ByteArray} {pre rest : List Int} {c : Int} (hp : bytesOf s = pre ++ c :: rest) : (pre.length : Int) < (s.size : Int) := by have := at_lt hp; rwa [bytesOf_len] at this
theorem at_sizeE {s : ByteArray} {pre : List Int} (hp : bytesOf s = pre ++ []) : ¬ (pre.length : Int) < (s.size : Int) := by have := at_end hp; rwa [bytesOf_len] at this
theorem set_mid (pre : List α) (c x : α) (rest : List α) : (pre ++ c :: rest).set pre.length x = pre ++ x :: rest := by simp [List.set_append]
theorem zero_len : (0 : Int) = (([] : List α).length : Int) := rfl
end
/-! ### Arguments of plain types -/
section
variable {P : Program} {n : Nat} {t e : TypeId} {p : PV}
theorem pvOk_int {k : IntKind} (ht : tk P t = .int k) (h : PvOk P (n + 1) t p) : ∃ x, p = .sc (.int k x) ∧ (Lit.int k x).wf = true := by unfold PvOk at h; simpa only [ht] using h
theorem pvOk_bool (ht : tk P t = .bool) (h : PvOk P (n + 1) t p) : ∃ b, p = boolP b := by unfold PvOk at h; simpa only [ht] using h
theorem pvOk_str (ht : tk P t = .str) (h : PvOk P (n + 1) t p) : ∃ s, p = strP s ∧ s.size ≤ reachBytes := by unfold PvOk at h; simpa only [ht] using h
theorem pvOk_slice (ht : tk P t = .slice e) (h : PvOk P (n + 1) t p) : ∃ ps, p = .list ps ∧ ps.length ≤ reachBytes ∧ ∀ q ∈ ps, PvOk P n e q := by unfold PvOk at h; simpa only [ht] using h
theorem pvOk_struct {fs : List TypeId} (ht : tk P t = .struct fs) (h : PvOk P (n + 1) t p) : ∃ ps, p = .agg ps ∧ PvOkL (PvOk P n) fs ps := by unfold PvOk at h; simpa only [ht] using h
theorem pvOkL_cons {f : TypeId → PV → Prop} {t : TypeId} {ts : List TypeId} {ps : List PV} (h : PvOkL f (t :: ts) ps) : ∃ p qs, ps = p :: qs ∧ f t p ∧ PvOkL f ts qs := by
  cases ps with
  | nil => exact h.elim
  | cons p qs => exact ⟨p, qs, rfl, h.1, h.2⟩
theorem pvOkL_nil {f : TypeId → PV → Prop} {ps : List PV} (h : PvOkL f [] ps) : ps = [] := by
  cases ps with
  | nil => rfl
  | cons p qs => exact h.elim
theorem pvOkL1 {f : TypeId → PV → Prop} {t : TypeId} {ps : List PV} (h : PvOkL f [t] ps) : ∃ p, ps = [p] ∧ f t p := by
  obtain ⟨p, qs, rfl, h1, h2⟩ := pvOkL_cons h
  exact ⟨p, by rw [pvOkL_nil h2], h1⟩
theorem pvOkL2 {f : TypeId → PV → Prop} {t u : TypeId} {ps : List PV} (h : PvOkL f [t, u] ps) : ∃ p q, ps = [p, q] ∧ f t p ∧ f u q := by
  obtain ⟨p, qs, rfl, h1, h2⟩ := pvOkL_cons h
  obtain ⟨q, rfl, h3⟩ := pvOkL1 h2
  exact ⟨p, q, rfl, h1, h3⟩
theorem pvOkL3 {f : TypeId → PV → Prop} {t u v : TypeId} {ps : List PV} (h : PvOkL f [t, u, v] ps) : ∃ p q r, ps = [p, q, r] ∧ f t p ∧ f u q ∧ f v r := by
  obtain ⟨p, qs, rfl, h1, h2⟩ := pvOkL_cons h
  obtain ⟨q, r, rfl, h3, h4⟩ := pvOkL2 h2
  exact ⟨p, q, r, rfl, h1, h3, h4⟩
theorem map_of {α : Type} {f : α → PV} {φ : α → Prop} : ∀ {ps : List PV}, (∀ q ∈ ps, ∃ x, q = f x ∧ φ x) → ∃ xs : List α, ps = xs.map f ∧ ∀ x ∈ xs, φ x
  | [], _ => ⟨[], rfl, by simp⟩
  | p :: ps, h => by
    obtain ⟨x, hx, hp⟩ := h p (by simp)
    obtain ⟨xs, hxs, hps⟩ := map_of (f := f) (φ := φ) (ps := ps) (fun q hq => h q (by simp [hq]))
    exact ⟨x :: xs, by simp [hx, hxs], fun y hy => (List.mem_cons.1 hy).elim (fun he => he ▸ hp) (hps y)⟩
theorem pvOk_strs (ht : tk P t = .slice e) (he : tk P e = .str) (h : PvOk P (n + 2) t p) : ∃ l, p = strsP l ∧ l.length ≤ reachBytes ∧ ∀ s ∈ l, s.size ≤ reachBytes := by
  obtain ⟨ps, rfl, h1, h2⟩ := pvOk_slice ht h
  obtain ⟨xs, rfl, h3⟩ := map_of (f := strP) (φ := fun s => s.size ≤ reachBytes) (fun q hq => pvOk_str he (h2 q hq))
  exact ⟨xs, rfl, by simpa using h1, h3⟩
theorem pvOk_ints (ht : tk P t = .slice e) (he : tk P e = .int .i64) (h : PvOk P (n + 2) t p) : ∃ l, p = intsP l ∧ l.length ≤ reachBytes ∧ ∀ x ∈ l, (Lit.int .i64 x).wf = true := by
  obtain ⟨ps, rfl, h1, h2⟩ := pvOk_slice ht h
  obtain ⟨xs, rfl, h3⟩ := map_of (f := intP) (φ := fun x => (Lit.int .i64 x).wf = true) (fun q hq => pvOk_int he (h2 q hq))
  exact ⟨xs, rfl, by simpa using h1, h3⟩
theorem wf_i64 {x : Int} (h : (Lit.int .i64 x).wf = true) : -9223372036854775808 ≤ x ∧ x < 9223372036854775808 := by
  simp [Lit.wf, IntKind.min, IntKind.max, IntKind.signed, IntKind.bits] at h
  omega
end
end Go.Proofs.YtfbkfhdlingedaaAm

