/- The law FnExactRingRelease answers true for every input, and each argument reads behind the call as it read before: no conditions. -/
import Derived.Test.YtjfigkikhmffpaaGreatDoorRows
import Derived.Test.YtjfigkikhmffpaaGreatDoorPureFnExactRingRelease
import Derived.Test.YtjfigkikhmffpaaGreatDoorCards
import Derived.Test.YtjfigkikhmffpaaGreatDoorTie
import Derived.WalkKit
import Derived.ProofKit
import Derived.OpenShut
import Derived.ShutString
import Derived.ChangeOld
import Derived.Below
import Derived.SizedLaws
import Derived.Deep.Slices
import Derived.LaidMore
import Derived.Lay
import Derived.SevenTiedAt
import Derived.Stop.Joined
import Derived.ChangeVars
import Derived.Handed
namespace Go.Proofs.YtjfigkikhmffpaaGreatDoor.fnExactRingRelease
open Go.ChangeShapes Go.WideShapes Go.ChangeAt Go.RowKit Go.Proofs
open Go.Proofs.YtjfigkikhmffpaaGreatDoorAm
set_option linter.unusedVariables false
set_option linter.unusedSimpArgs false
theorem own : ownKnob Tryz.prog.godebug = none := by kernel_rfl
theorem laidOut : laidOutB Tryz.prog = true := by kernel_rfl
set_option maxRecDepth 100000 in
theorem lifted (os : Os) (started : os.Started) (H : Type) (enc : TypeId × Value → H) :
    ReturnsInHanded {} Tryz.checked os 3 .any (fun w args => (Rows.fnExactRingReleaseSpec.pre enc Tryz.prog Tryz.f3 Rows.fnExactRingReleaseRow.domain false w args ∧ laidMetH Tryz.prog Rows.fnExactRingReleaseRow.laid w) ∧ sizedMet enc Tryz.prog Tryz.f3 (OpenSpec.ofChange Rows.fnExactRingReleaseSpec) false w args) (Rows.fnExactRingReleaseSpec.post enc Tryz.prog Tryz.f3 false true false false) := by
  refine returns_am (C := Tryz.checked) (X := fun w _ => laidMetH Tryz.prog Rows.fnExactRingReleaseRow.laid w) (fun _ _ _ hh h => h.of_heap hh) own started (by kernel_rfl) Tryz.func3
    (ChangeSpec.witness_shaped (enc := enc) (C := Tryz.checked) (os := os) (X := fun w _ => laidMetH Tryz.prog Rows.fnExactRingReleaseRow.laid w) false (World.laidAll Tryz.prog os Rows.fnExactRingReleaseRow.laid) #[.agg #[.slice none 0 0, .slice none 0 0], .int .i64 0, .agg #[.slice none 0 0, .slice none 0 0], .agg #[.slice none 0 0, .slice none 0 0]] 8 (World.laidAll_os _ _ _)
      (World.shaped_of_ZipB (by kernel_rfl) (by kernel_rfl)) (by kernel_rfl) (by kernel_rfl) (by kernel_rfl)
      (by rw [MakeChecks.laidMetH_plain _ _ _ (by kernel_rfl)]; exact laidMet_laidAll _ (by kernel_rfl) (by kernel_rfl))) ?_
  intro W base args ds gs before hval0 hW hcnd hsz0 hL hshape
  have hsz : (DataW.weightsEach Tryz.prog (Tryz.f3.params.toList ++ Rows.fnExactRingReleaseSpec.plain.varTypes Tryz.prog) (ds ++ gs)).all (· ≤ reachBytes) = true := hsz0
  have hval : ∀ (j : Nat) t v, Tryz.f3.params[j]? = some t → args[j]? = some v → Value.okWide Tryz.prog W .any base t v := hval0
  have hW' := hW
  obtain ⟨p, q, hA0, hV, rfl, hfz, hnd⟩ := hW
  have hA : DataW.TrodAll enc Tryz.prog W 0 (fun _ => true) true Tryz.f3.params.toList args.toList ds p := hA0
  rw [Tryz.params3] at hA hval hsz
  have hVl := vars_len hV
  obtain ⟨g0, rfl⟩ : ∃ g0, gs = [g0] := by
    match gs, hVl with
    | [x0], _ => exact ⟨x0, rfl⟩
  have hA1 : DataW.TrodAll enc Tryz.prog W 0 (fun _ => true) true [25, 3, 29, 29] args.toList ds p := hA
  obtain ⟨v0, vs0, d0, ds0, p0, q0, hargs, rfl, rfl, h0, r0⟩ := trodAll_cons hA
  obtain ⟨v1, vs1, d1, ds1, p1, q1, rfl, rfl, rfl, h1, r1⟩ := trodAll_cons r0
  obtain ⟨v2, vs2, d2, ds2, p2, q2, rfl, rfl, rfl, h2, r2⟩ := trodAll_cons r1
  obtain ⟨v3, vs3, d3, ds3, p3, q3, rfl, rfl, rfl, h3, r3⟩ := trodAll_cons r2
  obtain ⟨rfl, rfl, rfl⟩ := trodAll_nil r3
  obtain rfl : args = #[v0, v1, v2, v3] := by cases args; simp_all
  have hwt : ∀ b ∈ DataW.weightsEach Tryz.prog [25, 3, 29, 29] [d0, d1, d2, d3], b ≤ reachBytes := fun b hb => by
    have := List.all_eq_true.1 hsz b (weights_more2 hb)
    simpa using this
  have hva : ∀ (j : Nat) t v, ([25, 3, 29, 29] : List TypeId)[j]? = some t → ([v0, v1, v2, v3] : List Value)[j]? = some v → Value.okWide Tryz.prog W .any base t v := fun j t v h1 h2 => hval j t v (by simpa using h1) (by simpa using h2)
  have hLm : laidMet Tryz.prog Rows.fnExactRingReleaseRow.laid W := by
    have h := hL
    rw [MakeChecks.laidMetH_plain _ _ _ (by kernel_rfl)] at h
    exact h
  obtain ⟨pls, hLV, _⟩ := hLm
  have hglb : Glb.holds (P := Tryz.prog) (fun _ => True) W := ⟨(all_cons' ((by kernel_rfl : pvD Tryz.prog 6 168 (Rows.laid_loop_example_medlar_impl_shaStep (H := Unit)) = FnExactRingRelease.shaStepP) ▸ glAt_laid (d := Rows.laid_loop_example_medlar_impl_shaStep) (by kernel_rfl) (by kernel_rfl) (k := 6) (by kernel_rfl) hLV (List.mem_of_getElem? (i := 4) rfl)) all_nil'), (all_cons' ⟨trivial, tab_laid (t := 215) (d := Rows.laid_internal_strconv_uint64pow10) (na := 20) (e := 167) (fs := List.replicate 20 167) (by kernel_rfl) (by kernel_rfl) (by kernel_rfl) (by kernel_rfl) (by kernel_rfl) (k := 6) (by kernel_rfl) (by kernel_rfl) hLV (List.mem_of_getElem? (i := 2) rfl)⟩ (all_cons' ⟨trivial, someI64_of (cell_of_shapedOpen_int (zero := #[.int .i64 0]) (t := 3) hshape (of_decide_eq_true (by kernel_rfl)) (by kernel_rfl) rfl (by kernel_rfl) (by kernel_rfl) Tryz.underlying3)⟩ all_nil'))⟩
  obtain ⟨ps, ha, hp⟩ := law_args (n := 8) (by kernel_rfl) hA1 hva hwt
  obtain ⟨M, hM⟩ := FnExactRingRelease.law ps hp
  have hc := (FnExactRingRelease.laws_FnExactRingRelease.ok M).2 W (fun _ => True) [v0, v1, v2, v3] ps [] [] [.sc (.bool true)] hglb ha (by simp) (by simp) hM
  refine hc.mono fun e W' ⟨v, he, hpost⟩ => ?_
  subst he
  obtain ⟨rfl, bel⟩ := law_end (by kernel_rfl) hpost
  have hback := law_back laidOut bel (by kernel_rfl) hA1
  exact ⟨_, rfl, _, _, _, [], _, _, hW', trodAll_mk1 (shut_bool Tryz.underlying4 _), hback, vars_back laidOut bel (by kernel_rfl) hV, bel.frame _, fun h => by cases h⟩
theorem over : Rows.fnExactRingReleaseRow.holds Tryz.pinned (OpenSpec.ofChange Rows.fnExactRingReleaseSpec) :=
  OpenClaim.holds_of_wide 3 Tryz.f3 rfl rfl rfl rfl rfl rfl rfl ⟨rfl, rfl, rfl, rfl, rfl⟩ rfl rfl rfl rfl rfl (by kernel_rfl) Tryz.func3 (by kernel_rfl)
    (of_decide_eq_true (by kernel_rfl)) (by unfold Func.isWrapper; first | (rw [if_pos (by decide +kernel)]; kernel_rfl) | (rw [if_neg (by decide +kernel)]; exact ⟨rfl, rfl⟩))
    (fun os started H enc _ => lifted os started H enc)
theorem proved : Rows.FnExactRingReleaseCardSaid :=
  Claim7.holds_tied_plain_at .later [] [.data, .data, .data, .data, .data, .pinned] true (true, "5a76dae59192b0da4bd4b5579670179833e3d0c21407e7d9a05ed3f63748d1bd") false
    over (fun _ h => by cases h) (by kernel_rfl) (fun _ h => by cases h) fnExactRingRelease_row_tie rfl ⟨rfl, rfl⟩ (by kernel_rfl) rfl
    (fun f fn hf hfn => by
      obtain rfl : f = 3 := Option.some.inj ((show Tryz.prog.funcNamed "loop.example/medlar/laws.FnExactRingRelease" = some 3 by kernel_rfl).symm.trans hf) |>.symm
      obtain rfl : fn = Tryz.f3 := (Option.some.inj (Tryz.func3.symm.trans hfn)).symm
      exact ⟨by kernel_rfl, fun j t ht => by
        rw [Tryz.params3] at ht
        have hm : t ∈ [25, 3, 29, 29] := by simpa using Array.mem_of_getElem? ht
        have hall : ([25, 3, 29, 29].all fun u => !Tryz.prog.wantsStandIn u) = true := by kernel_rfl
        exact (show Tryz.prog.wantsStandIn t = false by simpa using List.all_eq_true.1 hall t hm)⟩)
    (by kernel_rfl)
#print axioms proved
end Go.Proofs.YtjfigkikhmffpaaGreatDoor.fnExactRingRelease
namespace Go.Proofs.YtjfigkikhmffpaaGreatDoor
/-- The row, under a short name, for the claim. -/
theorem fnExactRingRelease_holds : Rows.FnExactRingReleaseCardSaid := fnExactRingRelease.proved
end Go.Proofs.YtjfigkikhmffpaaGreatDoor
