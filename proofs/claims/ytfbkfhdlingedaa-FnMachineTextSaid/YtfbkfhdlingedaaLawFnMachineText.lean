/- The law FnMachineText answers true for every input, and each argument reads behind the call as it read before: no conditions. -/
import Derived.Test.YtfbkfhdlingedaaRows
import Derived.Test.YtfbkfhdlingedaaPureFnMachineText
import Derived.WalkKit
import Derived.ProofKit
import Derived.OpenShut
import Derived.ShutString
import Derived.ChangeOld
import Derived.Below
import Derived.SizedLaws
import Derived.Deep.Slices
namespace Go.Proofs.Ytfbkfhdlingedaa.fnMachineText
open Go.ChangeShapes Go.WideShapes Go.ChangeAt Go.RowKit Go.Proofs
open Go.Proofs.YtfbkfhdlingedaaAm
set_option linter.unusedVariables false
set_option linter.unusedSimpArgs false
theorem own : ownKnob Try.prog.godebug = none := by kernel_rfl
theorem laidOut : laidOutB Try.prog = true := by kernel_rfl
set_option maxRecDepth 100000 in
theorem lifted (os : Os) (started : os.Started) (H : Type) (enc : TypeId × Value → H) :
    ReturnsInHanded {} Try.checked os 8 .any (Rows.fnMachineTextSpec.pre6 enc Try.prog Try.f8 Rows.fnMachineTextRow.domain false) (Rows.fnMachineTextSpec.post enc Try.prog Try.f8 false true false false) := by
  refine returns_am6 (C := Try.checked) own started (by kernel_rfl) Try.func8
    (ChangeSpec.witness6 (enc := enc) (C := Try.checked) false ⟨#[], #[.slice none 0 0, .slice none 0 0], []⟩ 8 (by kernel_rfl) (by kernel_rfl) (by kernel_rfl) (by kernel_rfl)) ?_
  intro W base args ds gs before hval0 hW hcnd hsz0 hshape
  have hsz : (DataW.weightsEach Try.prog (Try.f8.params.toList ++ Rows.fnMachineTextSpec.plain.varTypes Try.prog) (ds ++ gs)).all (· ≤ reachBytes) = true := hsz0
  have hval : ∀ (j : Nat) t v, Try.f8.params[j]? = some t → args[j]? = some v → Value.okWide Try.prog W .any base t v := hval0
  have hW' := hW
  obtain ⟨p, q, hA0, hV, rfl, hfz, hnd⟩ := hW
  have hA : DataW.TrodAll enc Try.prog W 0 (fun _ => true) true Try.f8.params.toList args.toList ds p := hA0
  rw [Try.params8] at hA hval hsz
  obtain ⟨rfl, rfl⟩ := trodVars_none hV
  have hA1 : DataW.TrodAll enc Try.prog W 0 (fun _ => true) true [41, 41] args.toList ds p := hA
  obtain ⟨v0, vs0, d0, ds0, p0, q0, hargs, rfl, rfl, h0, r0⟩ := trodAll_cons hA
  obtain ⟨v1, vs1, d1, ds1, p1, q1, rfl, rfl, rfl, h1, r1⟩ := trodAll_cons r0
  obtain ⟨rfl, rfl, rfl⟩ := trodAll_nil r1
  obtain rfl : args = #[v0, v1] := by cases args; simp_all
  have hwt : ∀ b ∈ DataW.weightsEach Try.prog [41, 41] [d0, d1], b ≤ reachBytes := fun b hb => by
    have := List.all_eq_true.1 hsz b (by rw [List.append_nil]; exact weights_more hb)
    simpa using this
  have hva : ∀ (j : Nat) t v, ([41, 41] : List TypeId)[j]? = some t → ([v0, v1] : List Value)[j]? = some v → Value.okWide Try.prog W .any base t v := fun j t v h1 h2 => hval j t v (by simpa using h1) (by simpa using h2)
  have hglb : Glb.holds (P := Try.prog) (fun _ => True) W := ⟨all_nil', all_nil'⟩
  obtain ⟨ps, ha, hp⟩ := law_args (n := 8) (by kernel_rfl) hA1 hva hwt
  obtain ⟨M, hM⟩ := FnMachineText.law ps hp
  have hc := (FnMachineText.laws_FnMachineText.ok M).2 W (fun _ => True) [v0, v1] ps [] [] [.sc (.bool true)] hglb ha (by simp) (by simp) hM
  refine hc.mono fun e W' ⟨v, he, hpost⟩ => ?_
  subst he
  obtain ⟨rfl, bel⟩ := law_end (by kernel_rfl) hpost
  have hback := law_back laidOut bel (by kernel_rfl) hA1
  exact ⟨_, rfl, _, _, _, [], _, [], hW', trodAll_mk1 (shut_bool Try.underlying4 _), hback, rfl, bel.frame _, fun h => by cases h⟩
theorem over : Rows.fnMachineTextRow.holds Try.pinned (OpenSpec.ofChange Rows.fnMachineTextSpec) :=
  OpenClaim.holds_of_wide 8 Try.f8 rfl rfl rfl rfl rfl rfl rfl ⟨rfl, rfl, rfl, rfl, rfl⟩ rfl rfl rfl rfl rfl (by kernel_rfl) Try.func8 (by kernel_rfl)
    (of_decide_eq_true (by kernel_rfl)) (by unfold Func.isWrapper; first | (rw [if_pos (by decide +kernel)]; kernel_rfl) | (rw [if_neg (by decide +kernel)]; exact ⟨rfl, rfl⟩))
    (fun os started H enc _ => lifted os started H enc)
theorem proved : Rows.FnMachineTextSaid := over
#print axioms proved
end Go.Proofs.Ytfbkfhdlingedaa.fnMachineText
namespace Go.Proofs.Ytfbkfhdlingedaa
/-- The row, under a short name, for the claim. -/
theorem fnMachineText_holds : Rows.FnMachineTextSaid := fnMachineText.proved
end Go.Proofs.Ytfbkfhdlingedaa
