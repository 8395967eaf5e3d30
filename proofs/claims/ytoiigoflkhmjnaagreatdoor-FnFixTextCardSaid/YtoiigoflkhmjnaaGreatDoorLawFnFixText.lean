/- The law FnFixText answers true for every input, and each argument reads behind the call as it read before: no conditions. -/
import Derived.Test.YtoiigoflkhmjnaaGreatDoorRows
import Derived.Test.YtoiigoflkhmjnaaGreatDoorPureFnFixText
import Derived.Test.YtoiigoflkhmjnaaGreatDoorCards
import Derived.Test.YtoiigoflkhmjnaaGreatDoorTie
import Derived.WalkKit
import Derived.ProofKit
import Derived.OpenShut
import Derived.ShutString
import Derived.ChangeOld
import Derived.Below
import Derived.SizedLaws
import Derived.Deep.Slices
import Derived.LaidMore
import Derived.Lay
import Derived.SevenTiedAt
import Derived.Stop.Joined
import Derived.ChangeVars
import Derived.Handed
namespace Go.Proofs.YtoiigoflkhmjnaaGreatDoor.fnFixText
open Go.ChangeShapes Go.WideShapes Go.ChangeAt Go.RowKit Go.Proofs
open Go.Proofs.YtoiigoflkhmjnaaGreatDoorAm
set_option linter.unusedVariables false
set_option linter.unusedSimpArgs false
theorem own : ownKnob Tryz.prog.godebug = none := by kernel_rfl
theorem laidOut : laidOutB Tryz.prog = true := by kernel_rfl
set_option maxRecDepth 100000 in
theorem lifted (os : Os) (started : os.Started) (H : Type) (enc : TypeId × Value → H) :
    ReturnsInHanded {} Tryz.checked os 6 .any (fun w args => (Rows.fnFixTextSpec.pre enc Tryz.prog Tryz.f6 Rows.fnFixTextRow.domain false w args ∧ laidMetH Tryz.prog Rows.fnFixTextRow.laid w) ∧ sizedMet enc Tryz.prog Tryz.f6 (OpenSpec.ofChange Rows.fnFixTextSpec) false w args) (Rows.fnFixTextSpec.post enc Tryz.prog Tryz.f6 false true false false) := by
  refine returns_am (C := Tryz.checked) (X := fun w _ => laidMetH Tryz.prog Rows.fnFixTextRow.laid w) (fun _ _ _ hh h => h.of_heap hh) own started (by kernel_rfl) Tryz.func6
    (ChangeSpec.witness_shaped (enc := enc) (C := Tryz.checked) (os := os) (X := fun w _ => laidMetH Tryz.prog Rows.fnFixTextRow.laid w) false (World.laidAll Tryz.prog os Rows.fnFixTextRow.laid) #[.slice none 0 0] 8 (World.laidAll_os _ _ _)
      (World.shaped_of_ZipB (by kernel_rfl) (by kernel_rfl)) (by kernel_rfl) (by kernel_rfl) (by kernel_rfl)
      (by rw [MakeChecks.laidMetH_plain _ _ _ (by kernel_rfl)]; exact laidMet_laidAll _ (by kernel_rfl) (by kernel_rfl))) ?_
  intro W base args ds gs before hval0 hW hcnd hsz0 hL hshape
  have hsz : (DataW.weightsEach Tryz.prog (Tryz.f6.params.toList ++ Rows.fnFixTextSpec.plain.varTypes Tryz.prog) (ds ++ gs)).all (· ≤ reachBytes) = true := hsz0
  have hval : ∀ (j : Nat) t v, Tryz.f6.params[j]? = some t → args[j]? = some v → Value.okWide Tryz.prog W .any base t v := hval0
  have hW' := hW
  obtain ⟨p, q, hA0, hV, rfl, hfz, hnd⟩ := hW
  have hA : DataW.TrodAll enc Tryz.prog W 0 (fun _ => true) true Tryz.f6.params.toList args.toList ds p := hA0
  rw [Tryz.params6] at hA hval hsz
  obtain ⟨rfl, rfl⟩ := trodVars_none hV
  have hA1 : DataW.TrodAll enc Tryz.prog W 0 (fun _ => true) true [22] args.toList ds p := hA
  obtain ⟨v0, vs0, d0, ds0, p0, q0, hargs, rfl, rfl, h0, r0⟩ := trodAll_cons hA
  obtain ⟨rfl, rfl, rfl⟩ := trodAll_nil r0
  obtain rfl : args = #[v0] := by cases args; simp_all
  have hwt : ∀ b ∈ DataW.weightsEach Tryz.prog [22] [d0], b ≤ reachBytes := fun b hb => by
    have := List.all_eq_true.1 hsz b (by rw [List.append_nil]; exact weights_more hb)
    simpa using this
  have hva : ∀ (j : Nat) t v, ([22] : List TypeId)[j]? = some t → ([v0] : List Value)[j]? = some v → Value.okWide Tryz.prog W .any base t v := fun j t v h1 h2 => hval j t v (by simpa using h1) (by simpa using h2)
  have hglb : Glb.holds (P := Tryz.prog) (fun _ => True) W := ⟨all_nil', (all_cons' ⟨trivial, someI64_of (cell_of_shapedOpen_int (zero := #[.int .i64 0]) (t := 3) hshape (of_decide_eq_true (by kernel_rfl)) (by kernel_rfl) rfl (by kernel_rfl) (by kernel_rfl) Tryz.underlying3)⟩ all_nil')⟩
  obtain ⟨ps, ha, hp⟩ := law_args (n := 8) (by kernel_rfl) hA1 hva hwt
  obtain ⟨M, hM⟩ := FnFixText.law ps hp
  have hc := (FnFixText.laws_FnFixText.ok M).2 W (fun _ => True) [v0] ps [] [] [.sc (.bool true)] hglb ha (by simp) (by simp) hM
  refine hc.mono fun e W' ⟨v, he, hpost⟩ => ?_
  subst he
  obtain ⟨rfl, bel⟩ := law_end (by kernel_rfl) hpost
  have hback := law_back laidOut bel (by kernel_rfl) hA1
  exact ⟨_, rfl, _, _, _, [], _, [], hW', trodAll_mk1 (shut_bool Tryz.underlying4 _), hback, rfl, bel.frame _, fun h => by cases h⟩
theorem over : Rows.fnFixTextRow.holds Tryz.pinned (OpenSpec.ofChange Rows.fnFixTextSpec) :=
  OpenClaim.holds_of_wide 6 Tryz.f6 rfl rfl rfl rfl rfl rfl rfl ⟨rfl, rfl, rfl, rfl, rfl⟩ rfl rfl rfl rfl rfl (by kernel_rfl) Tryz.func6 (by kernel_rfl)
    (of_decide_eq_true (by kernel_rfl)) (by unfold Func.isWrapper; first | (rw [if_pos (by decide +kernel)]; kernel_rfl) | (rw [if_neg (by decide +kernel)]; exact ⟨rfl, rfl⟩))
    (fun os started H enc _ => lifted os started H enc)
theorem proved : Rows.FnFixTextCardSaid :=
  Claim7.holds_tied_plain_at .later [] [.data, .pinned, .pinned] true (true, "43e0aba808f2e30931c99c207d7901e1785db6b11522d6fcf05f6a6fc4b9320a") false
    over (fun _ h => by cases h) (by kernel_rfl) (fun _ h => by cases h) fnFixText_row_tie rfl ⟨rfl, rfl⟩ (by kernel_rfl) rfl
    (fun f fn hf hfn => by
      obtain rfl : f = 6 := Option.some.inj ((show Tryz.prog.funcNamed "loop.example/medlar/laws.FnFixText" = some 6 by kernel_rfl).symm.trans hf) |>.symm
      obtain rfl : fn = Tryz.f6 := (Option.some.inj (Tryz.func6.symm.trans hfn)).symm
      exact ⟨by kernel_rfl, fun j t ht => by
        rw [Tryz.params6] at ht
        have hm : t ∈ [22] := by simpa using Array.mem_of_getElem? ht
        have hall : ([22].all fun u => !Tryz.prog.wantsStandIn u) = true := by kernel_rfl
        exact (show Tryz.prog.wantsStandIn t = false by simpa using List.all_eq_true.1 hall t hm)⟩)
    (by kernel_rfl)
#print axioms proved
end Go.Proofs.YtoiigoflkhmjnaaGreatDoor.fnFixText
namespace Go.Proofs.YtoiigoflkhmjnaaGreatDoor
/-- The row, under a short name, for the claim. -/
theorem fnFixText_holds : Rows.FnFixTextCardSaid := fnFixText.proved
end Go.Proofs.YtoiigoflkhmjnaaGreatDoor
