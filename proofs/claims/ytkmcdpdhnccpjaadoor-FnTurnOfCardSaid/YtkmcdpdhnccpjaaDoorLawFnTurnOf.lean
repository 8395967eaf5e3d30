/- The law FnTurnOf answers true for every input, and each argument reads behind the call as it read before: no conditions. -/
import Derived.Test.YtkmcdpdhnccpjaaDoorRows
import Derived.Test.YtkmcdpdhnccpjaaDoorPureFnTurnOf
import Derived.Test.YtkmcdpdhnccpjaaDoorCards
import Derived.Test.YtkmcdpdhnccpjaaDoorTie
import Derived.WalkKit
import Derived.ProofKit
import Derived.OpenShut
import Derived.ShutString
import Derived.ChangeOld
import Derived.Below
import Derived.SizedLaws
import Derived.Deep.Slices
import Derived.LaidMore
import Derived.Lay
import Derived.SevenTiedAt
import Derived.Stop.Joined
import Derived.ChangeVars
import Derived.Handed
namespace Go.Proofs.YtkmcdpdhnccpjaaDoor.fnTurnOf
open Go.ChangeShapes Go.WideShapes Go.ChangeAt Go.RowKit Go.Proofs
open Go.Proofs.YtkmcdpdhnccpjaaDoorAm
set_option linter.unusedVariables false
set_option linter.unusedSimpArgs false
theorem own : ownKnob Tryd.prog.godebug = none := by kernel_rfl
theorem laidOut : laidOutB Tryd.prog = true := by kernel_rfl
set_option maxRecDepth 100000 in
theorem lifted (os : Os) (started : os.Started) (H : Type) (enc : TypeId × Value → H) :
    ReturnsInHanded {} Tryd.checked os 4 .any (fun w args => (Rows.fnTurnOfSpec.pre enc Tryd.prog Tryd.f4 Rows.fnTurnOfRow.domain false w args ∧ laidMetH Tryd.prog Rows.fnTurnOfRow.laid w) ∧ sizedMet enc Tryd.prog Tryd.f4 (OpenSpec.ofChange Rows.fnTurnOfSpec) false w args) (Rows.fnTurnOfSpec.post enc Tryd.prog Tryd.f4 false true false false) := by
  refine returns_am (C := Tryd.checked) (X := fun w _ => laidMetH Tryd.prog Rows.fnTurnOfRow.laid w) (fun _ _ _ hh h => h.of_heap hh) own started (by kernel_rfl) Tryd.func4
    (ChangeSpec.witness_shaped (enc := enc) (C := Tryd.checked) (os := os) (X := fun w _ => laidMetH Tryd.prog Rows.fnTurnOfRow.laid w) false (World.laidAll Tryd.prog os Rows.fnTurnOfRow.laid) #[.slice none 0 0] 8 (World.laidAll_os _ _ _)
      (World.shaped_of_ZipB (by kernel_rfl) (by kernel_rfl)) (by kernel_rfl) (by kernel_rfl) (by kernel_rfl)
      (by rw [MakeChecks.laidMetH_plain _ _ _ (by kernel_rfl)]; exact laidMet_laidAll _ (by kernel_rfl) (by kernel_rfl))) ?_
  intro W base args ds gs before hval0 hW hcnd hsz0 hL hshape
  have hsz : (DataW.weightsEach Tryd.prog (Tryd.f4.params.toList ++ Rows.fnTurnOfSpec.plain.varTypes Tryd.prog) (ds ++ gs)).all (· ≤ reachBytes) = true := hsz0
  have hval : ∀ (j : Nat) t v, Tryd.f4.params[j]? = some t → args[j]? = some v → Value.okWide Tryd.prog W .any base t v := hval0
  have hW' := hW
  obtain ⟨p, q, hA0, hV, rfl, hfz, hnd⟩ := hW
  have hA : DataW.TrodAll enc Tryd.prog W 0 (fun _ => true) true Tryd.f4.params.toList args.toList ds p := hA0
  rw [Tryd.params4] at hA hval hsz
  have hVl := vars_len hV
  obtain ⟨g0, rfl⟩ : ∃ g0, gs = [g0] := by
    match gs, hVl with
    | [x0], _ => exact ⟨x0, rfl⟩
  have hA1 : DataW.TrodAll enc Tryd.prog W 0 (fun _ => true) true [32] args.toList ds p := hA
  obtain ⟨v0, vs0, d0, ds0, p0, q0, hargs, rfl, rfl, h0, r0⟩ := trodAll_cons hA
  obtain ⟨rfl, rfl, rfl⟩ := trodAll_nil r0
  obtain rfl : args = #[v0] := by cases args; simp_all
  have hwt : ∀ b ∈ DataW.weightsEach Tryd.prog [32] [d0], b ≤ reachBytes := fun b hb => by
    have := List.all_eq_true.1 hsz b (weights_more2 hb)
    simpa using this
  have hva : ∀ (j : Nat) t v, ([32] : List TypeId)[j]? = some t → ([v0] : List Value)[j]? = some v → Value.okWide Tryd.prog W .any base t v := fun j t v h1 h2 => hval j t v (by simpa using h1) (by simpa using h2)
  have hLm : laidMet Tryd.prog Rows.fnTurnOfRow.laid W := by
    have h := hL
    rw [MakeChecks.laidMetH_plain _ _ _ (by kernel_rfl)] at h
    exact h
  obtain ⟨pls, hLV, _⟩ := hLm
  have hglb : Glb.holds (P := Tryd.prog) (fun _ => True) W := ⟨(all_cons' ((by kernel_rfl : pvD Tryd.prog 6 87 (Rows.laid_loop_example_medlar_impl_shaStep (H := Unit)) = FnTurnOf.shaStepP) ▸ glAt_laid (d := Rows.laid_loop_example_medlar_impl_shaStep) (by kernel_rfl) (by kernel_rfl) (k := 6) (by kernel_rfl) hLV (List.mem_of_getElem? (i := 3) rfl)) all_nil'), (all_cons' ⟨trivial, tab_laid (t := 98) (d := Rows.laid_internal_strconv_uint64pow10) (na := 20) (e := 86) (fs := List.replicate 20 86) (by kernel_rfl) (by kernel_rfl) (by kernel_rfl) (by kernel_rfl) (by kernel_rfl) (k := 6) (by kernel_rfl) (by kernel_rfl) hLV (List.mem_of_getElem? (i := 2) rfl)⟩ all_nil')⟩
  obtain ⟨ps, ha, hp⟩ := law_args (n := 8) (by kernel_rfl) hA1 hva hwt
  obtain ⟨M, hM⟩ := FnTurnOf.law ps hp
  have hc := (FnTurnOf.laws_FnTurnOf.ok M).2 W (fun _ => True) [v0] ps [] [] [.sc (.bool true)] hglb ha (by simp) (by simp) hM
  refine hc.mono fun e W' ⟨v, he, hpost⟩ => ?_
  subst he
  obtain ⟨rfl, bel⟩ := law_end (by kernel_rfl) hpost
  have hback := law_back laidOut bel (by kernel_rfl) hA1
  exact ⟨_, rfl, _, _, _, [], _, _, hW', trodAll_mk1 (shut_bool Tryd.underlying4 _), hback, vars_back laidOut bel (by kernel_rfl) hV, bel.frame _, fun h => by cases h⟩
theorem over : Rows.fnTurnOfRow.holds Tryd.pinned (OpenSpec.ofChange Rows.fnTurnOfSpec) :=
  OpenClaim.holds_of_wide 4 Tryd.f4 rfl rfl rfl rfl rfl rfl rfl ⟨rfl, rfl, rfl, rfl, rfl⟩ rfl rfl rfl rfl rfl (by kernel_rfl) Tryd.func4 (by kernel_rfl)
    (of_decide_eq_true (by kernel_rfl)) (by unfold Func.isWrapper; first | (rw [if_pos (by decide +kernel)]; kernel_rfl) | (rw [if_neg (by decide +kernel)]; exact ⟨rfl, rfl⟩))
    (fun os started H enc _ => lifted os started H enc)
theorem proved : Rows.FnTurnOfCardSaid :=
  Claim7.holds_tied_plain_at .later [] [.data, .data, .data, .data] true (true, "437a4aa2753f7cfb4b62adefc7cf8c8f06d5d40dd7cf50eef56cff71e8c33cc4") false
    over (fun _ h => by cases h) (by kernel_rfl) (fun _ h => by cases h) fnTurnOf_row_tie rfl ⟨rfl, rfl⟩ (by kernel_rfl) rfl
    (fun f fn hf hfn => by
      obtain rfl : f = 4 := Option.some.inj ((show Tryd.prog.funcNamed "loop.example/medlar/laws.FnTurnOf" = some 4 by kernel_rfl).symm.trans hf) |>.symm
      obtain rfl : fn = Tryd.f4 := (Option.some.inj (Tryd.func4.symm.trans hfn)).symm
      exact ⟨by kernel_rfl, fun j t ht => by
        rw [Tryd.params4] at ht
        have hm : t ∈ [32] := by simpa using Array.mem_of_getElem? ht
        have hall : ([32].all fun u => !Tryd.prog.wantsStandIn u) = true := by kernel_rfl
        exact (show Tryd.prog.wantsStandIn t = false by simpa using List.all_eq_true.1 hall t hm)⟩)
    (by kernel_rfl)
#print axioms proved
end Go.Proofs.YtkmcdpdhnccpjaaDoor.fnTurnOf
namespace Go.Proofs.YtkmcdpdhnccpjaaDoor
/-- The row, under a short name, for the claim. -/
theorem fnTurnOf_holds : Rows.FnTurnOfCardSaid := fnTurnOf.proved
end Go.Proofs.YtkmcdpdhnccpjaaDoor
