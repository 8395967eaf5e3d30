/- The law FnExactFrontGet answers true for every input, and each argument reads behind the call as it read before: no conditions. -/
import Derived.Test.YtpnbhcifhbnaaaaDoorRows
import Derived.Test.YtpnbhcifhbnaaaaDoorPureFnExactFrontGet
import Derived.Test.YtpnbhcifhbnaaaaDoorCards
import Derived.Test.YtpnbhcifhbnaaaaDoorTie
import Derived.WalkKit
import Derived.ProofKit
import Derived.OpenShut
import Derived.ShutString
import Derived.ChangeOld
import Derived.Below
import Derived.SizedLaws
import Derived.Deep.Slices
import Derived.LaidMore
import Derived.Lay
import Derived.SevenTiedAt
import Derived.Stop.Joined
import Derived.ChangeVars
import Derived.Handed
namespace Go.Proofs.YtpnbhcifhbnaaaaDoor.fnExactFrontGet
open Go.ChangeShapes Go.WideShapes Go.ChangeAt Go.RowKit Go.Proofs
open Go.Proofs.YtpnbhcifhbnaaaaDoorAm
set_option linter.unusedVariables false
set_option linter.unusedSimpArgs false
theorem own : ownKnob Tryd.prog.godebug = none := by kernel_rfl
theorem laidOut : laidOutB Tryd.prog = true := by kernel_rfl
set_option maxRecDepth 100000 in
theorem lifted (os : Os) (started : os.Started) (H : Type) (enc : TypeId × Value → H) :
    ReturnsInHanded {} Tryd.checked os 4 .any (fun w args => (Rows.fnExactFrontGetSpec.pre enc Tryd.prog Tryd.f4 Rows.fnExactFrontGetRow.domain false w args ∧ laidMetH Tryd.prog Rows.fnExactFrontGetRow.laid w) ∧ sizedMet enc Tryd.prog Tryd.f4 (OpenSpec.ofChange Rows.fnExactFrontGetSpec) false w args) (Rows.fnExactFrontGetSpec.post enc Tryd.prog Tryd.f4 false true false false) := by
  refine returns_am (C := Tryd.checked) (X := fun w _ => laidMetH Tryd.prog Rows.fnExactFrontGetRow.laid w) (fun _ _ _ hh h => h.of_heap hh) own started (by kernel_rfl) Tryd.func4
    (ChangeSpec.witness_shaped (enc := enc) (C := Tryd.checked) (os := os) (X := fun w _ => laidMetH Tryd.prog Rows.fnExactFrontGetRow.laid w) false (World.laidAll Tryd.prog os Rows.fnExactFrontGetRow.laid) #[.string ByteArray.empty] 8 (World.laidAll_os _ _ _)
      (World.shaped_of_ZipB (by kernel_rfl) (by kernel_rfl)) (by kernel_rfl) (by kernel_rfl) (by kernel_rfl)
      (by rw [MakeChecks.laidMetH_plain _ _ _ (by kernel_rfl)]; exact laidMet_laidAll _ (by kernel_rfl) (by kernel_rfl))) ?_
  intro W base args ds gs before hval0 hW hcnd hsz0 hL hshape
  have hsz : (DataW.weightsEach Tryd.prog (Tryd.f4.params.toList ++ Rows.fnExactFrontGetSpec.plain.varTypes Tryd.prog) (ds ++ gs)).all (· ≤ reachBytes) = true := hsz0
  have hval : ∀ (j : Nat) t v, Tryd.f4.params[j]? = some t → args[j]? = some v → Value.okWide Tryd.prog W .any base t v := hval0
  have hW' := hW
  obtain ⟨p, q, hA0, hV, rfl, hfz, hnd⟩ := hW
  have hA : DataW.TrodAll enc Tryd.prog W 0 (fun _ => true) true Tryd.f4.params.toList args.toList ds p := hA0
  rw [Tryd.params4] at hA hval hsz
  obtain ⟨rfl, rfl⟩ := trodVars_none hV
  have hA1 : DataW.TrodAll enc Tryd.prog W 0 (fun _ => true) true [9] args.toList ds p := hA
  obtain ⟨v0, vs0, d0, ds0, p0, q0, hargs, rfl, rfl, h0, r0⟩ := trodAll_cons hA
  obtain ⟨rfl, rfl, rfl⟩ := trodAll_nil r0
  obtain rfl : args = #[v0] := by cases args; simp_all
  have hwt : ∀ b ∈ DataW.weightsEach Tryd.prog [9] [d0], b ≤ reachBytes := fun b hb => by
    have := List.all_eq_true.1 hsz b (by rw [List.append_nil]; exact weights_more hb)
    simpa using this
  have hva : ∀ (j : Nat) t v, ([9] : List TypeId)[j]? = some t → ([v0] : List Value)[j]? = some v → Value.okWide Tryd.prog W .any base t v := fun j t v h1 h2 => hval j t v (by simpa using h1) (by simpa using h2)
  have hLm : laidMet Tryd.prog Rows.fnExactFrontGetRow.laid W := by
    have h := hL
    rw [MakeChecks.laidMetH_plain _ _ _ (by kernel_rfl)] at h
    exact h
  obtain ⟨pls, hLV, _⟩ := hLm
  have hglb : Glb.holds (P := Tryd.prog) (fun _ => True) W := ⟨all_nil', (all_cons' ⟨trivial, iface_laid (t := 39) (d := Rows.laid_strconv_ErrSyntax) rfl (by kernel_rfl) (by kernel_rfl) Tryd.underlying39 hLV (List.mem_of_getElem? (i := 5) rfl)⟩ (all_cons' ⟨trivial, iface_laid (t := 39) (d := Rows.laid_strconv_ErrRange) rfl (by kernel_rfl) (by kernel_rfl) Tryd.underlying39 hLV (List.mem_of_getElem? (i := 4) rfl)⟩ (all_cons' ⟨trivial, tab_laid (t := 92) (d := Rows.laid_internal_strconv_uint64pow10) (na := 20) (e := 75) (fs := List.replicate 20 75) (by kernel_rfl) (by kernel_rfl) (by kernel_rfl) (by kernel_rfl) (by kernel_rfl) (k := 6) (by kernel_rfl) (by kernel_rfl) hLV (List.mem_of_getElem? (i := 2) rfl)⟩ (all_cons' ⟨trivial, someI64_of (cell_of_shapedOpen_int (zero := #[.int .i64 0]) (t := 3) hshape (of_decide_eq_true (by kernel_rfl)) (by kernel_rfl) rfl (by kernel_rfl) (by kernel_rfl) Tryd.underlying3)⟩ all_nil'))))⟩
  obtain ⟨ps, ha, hp⟩ := law_args (n := 8) (by kernel_rfl) hA1 hva hwt
  obtain ⟨M, hM⟩ := FnExactFrontGet.law ps hp
  have hc := (FnExactFrontGet.laws_FnExactFrontGet.ok M).2 W (fun _ => True) [v0] ps [] [] [.sc (.bool true)] hglb ha (by simp) (by simp) hM
  refine hc.mono fun e W' ⟨v, he, hpost⟩ => ?_
  subst he
  obtain ⟨rfl, bel⟩ := law_end (by kernel_rfl) hpost
  have hback := law_back laidOut bel (by kernel_rfl) hA1
  exact ⟨_, rfl, _, _, _, [], _, [], hW', trodAll_mk1 (shut_bool Tryd.underlying4 _), hback, rfl, bel.frame _, fun h => by cases h⟩
theorem over : Rows.fnExactFrontGetRow.holds Tryd.pinned (OpenSpec.ofChange Rows.fnExactFrontGetSpec) :=
  OpenClaim.holds_of_wide 4 Tryd.f4 rfl rfl rfl rfl rfl rfl rfl ⟨rfl, rfl, rfl, rfl, rfl⟩ rfl rfl rfl rfl rfl (by kernel_rfl) Tryd.func4 (by kernel_rfl)
    (of_decide_eq_true (by kernel_rfl)) (by unfold Func.isWrapper; first | (rw [if_pos (by decide +kernel)]; kernel_rfl) | (rw [if_neg (by decide +kernel)]; exact ⟨rfl, rfl⟩))
    (fun os started H enc _ => lifted os started H enc)
theorem proved : Rows.FnExactFrontGetCardSaid :=
  Claim7.holds_tied_plain_at .later [] [.data, .data, .data, .data, .sentinel, .sentinel, .pinned] true (true, "17f0385c564be32200c361bae86ad2ace28c8f45a1a7275a6f856651e856e257") true
    over (fun _ h => by cases h) (by kernel_rfl) (fun _ h => by cases h) fnExactFrontGet_row_tie rfl ⟨rfl, rfl⟩ (by kernel_rfl) rfl
    (fun f fn hf hfn => by
      obtain rfl : f = 4 := Option.some.inj ((show Tryd.prog.funcNamed "loop.example/medlar/laws.FnExactFrontGet" = some 4 by kernel_rfl).symm.trans hf) |>.symm
      obtain rfl : fn = Tryd.f4 := (Option.some.inj (Tryd.func4.symm.trans hfn)).symm
      exact ⟨by kernel_rfl, fun j t ht => by
        rw [Tryd.params4] at ht
        have hm : t ∈ [9] := by simpa using Array.mem_of_getElem? ht
        have hall : ([9].all fun u => !Tryd.prog.wantsStandIn u) = true := by kernel_rfl
        exact (show Tryd.prog.wantsStandIn t = false by simpa using List.all_eq_true.1 hall t hm)⟩)
    (by kernel_rfl)
#print axioms proved
end Go.Proofs.YtpnbhcifhbnaaaaDoor.fnExactFrontGet
namespace Go.Proofs.YtpnbhcifhbnaaaaDoor
/-- The row, under a short name, for the claim. -/
theorem fnExactFrontGet_holds : Rows.FnExactFrontGetCardSaid := fnExactFrontGet.proved
end Go.Proofs.YtpnbhcifhbnaaaaDoor
