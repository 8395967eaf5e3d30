/- Functions of the library, as functions of trees, by the contracts of the shelf: no conditions. -/
import Derived.Test.YtoejdiplkaphfaaDoorAm3
import Derived.Shelf.Strings.OnBuilder
set_option linter.unusedVariables false
set_option linter.unusedSimpArgs false
namespace Go.Proofs.YtoejdiplkaphfaaDoorAm
open Go RowKit Go.Shelf Go.Proofs
section
variable {P : Program} [Glb P] {w w' : World} {n : Nat} {t u e : TypeId} {ρ : Shelf.Ren} {f : FuncId} {ok : Nat → Prop}
theorem step_below {Z : Nat → Prop} (h : Below w.heap.size w w') : Step w w' Z := ⟨h.os, h.tape, h.output, h.size, fun k hk _ => h.block k hk⟩
theorem rdV_str (ht : tk P t = .str) (s : ByteArray) : RdV P ok w t (strP s) (.string s) := by
  refine ⟨1, [.string s], ?_, ?_⟩
  · unfold Rd
    simp only [ht]
    exact ⟨s, rfl, rfl⟩
  · exact (valOf_one (fun fs => by rw [ht]; simp) _).symm
theorem rdV_str_inv (ht : tk P t = .str) {p : PV} {v : Value} (h : RdV P ok w t p v) : ∃ s, p = strP s ∧ v = .string s := by
  obtain ⟨n, cs, h1, h2⟩ := h
  cases n with
  | zero => exact h1.elim
  | succ n =>
    unfold Rd at h1
    simp only [ht] at h1
    obtain ⟨s, rfl, rfl⟩ := h1
    exact ⟨s, rfl, by rw [h2, valOf_one (fun fs => by rw [ht]; simp)]⟩
/-! ### strings.ToUpper, of ASCII -/
def asciiB (s : ByteArray) : Bool := s.data.toList.all fun b => decide (b.toNat < 128)
def upperM (s : ByteArray) : ByteArray := ⟨(Lib.toUpperA s.data.toList).toArray⟩
def upperDen : List PV → Option (List PV)
  | [.sc (.string s)] => if asciiB s = true then (if s.size ≤ 140737488355328 then some [strP (upperM s)] else none) else none
  | _ => none
theorem fnOk_upper (L : Lays.n158 P ρ) (X : Builder.Extra P ρ) (hf : ρ.f 158 = f) (hfn : HasFn P f) (ht : tk P t = .str) (hu : tk P u = .str) : FnOk P f ⟨[(t, .ro)], [(u, .val)], upperDen⟩ := by
  refine ⟨hfn, fun w ok vs ps F L' outs hglb ha hnd hok hd => ?_⟩
  match vs, ps, ha with
  | [v], [p], ha =>
    obtain ⟨h1, rfl, rfl⟩ := ha
    obtain ⟨s, rfl, rfl⟩ := rdV_str_inv ht h1
    have hd' : (if asciiB s = true then (if s.size ≤ 140737488355328 then some [strP (upperM s)] else none) else none) = some outs := hd
    split at hd'
    case isFalse => cases hd'
    rename_i hasc
    split at hd'
    case isFalse => cases hd'
    rename_i hs
    injection hd' with hd'; subst hd'
    have hc := Any.strings_ToUpper_ascii L X s w hs (fun j b hj => by
      have := List.all_eq_true.1 hasc b (List.mem_of_getElem? hj)
      simpa using this)
    rw [hf] at hc
    refine Calls.mono hc ?_
    rintro x w' ⟨rfl, hb⟩
    exact ⟨_, rfl, [.string (upperM s)], [], [], rfl, ⟨rdV_str hu (upperM s), rfl, rfl⟩, rfl, by simp, by simp, step_below hb⟩
  | [], _, ha => exact ha.elim
  | _ :: _, [], ha => exact ha.elim
  | [_], _ :: _ :: _, ha => exact ha.2.elim
  | _ :: _ :: _, [_], ha => exact ha.2.elim
  | _ :: _ :: _, _ :: _ :: _, ha => exact ha.2.elim
end
end Go.Proofs.YtoejdiplkaphfaaDoorAm

