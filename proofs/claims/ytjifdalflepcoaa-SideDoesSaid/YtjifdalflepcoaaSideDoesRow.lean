/-
  The statement SideDoes: for every input the law returns true, and each argument reads behind the call as it read before. No condition.
-/
import Derived.Test.YtjifdalflepcoaaRows
import Derived.Test.YtjifdalflepcoaaArgsR
import Derived.Test.YtjifdalflepcoaaArgsE
import Derived.Test.YtjifdalflepcoaaSideDoes
import Derived.ChangeOld
import Derived.Below
namespace Go.Proofs.Ytjifdalflepcoaa.sideDoes
open Go.ChangeShapes Go.WideShapes Go.ChangeAt Go.RowKit Go.Joins
set_option linter.unusedVariables false
set_option linter.unusedSimpArgs false

theorem own : ownKnob Try.prog.godebug = none := by kernel_rfl
theorem laidOut : laidOutB Try.prog = true := by kernel_rfl

section
variable {H : Type} {enc : TypeId × Value → H} {w : World} {base : Nat} {spare : Nat → Bool} {held : Bool}
set_option maxRecDepth 100000 in
theorem flat_0 : Flat enc Try.prog w base spare held 74 := by
  refine flat_struct Try.underlying74 (by kernel_rfl) ?_
  intro i f hf
  match i with
  | 0 => simp at hf; subst hf; exact (flat_int Try.underlying3 (by kernel_rfl))
  | 1 => simp at hf; subst hf; exact (flat_entry)
  | i + 2 => simp at hf
end

set_option maxRecDepth 100000 in
theorem lifted (os : Os) (started : os.Started) (H : Type) (enc : TypeId × Value → H) :
    ReturnsInHanded {} Try.checked os 11 .any (Rows.sideDoesSpec.pre6 enc Try.prog Try.f11 Rows.sideDoesRow.domain false) (Rows.sideDoesSpec.post enc Try.prog Try.f11 false true false false) := by
  refine returnsInHanded_of_change (C := Try.checked) own started (by kernel_rfl) Try.func11
    (ChangeSpec.witness6 (enc := enc) (C := Try.checked) false ⟨#[], #[.slice none 0 0], []⟩ 8 (by kernel_rfl) (by kernel_rfl) (by kernel_rfl) (by kernel_rfl)) ?_
  intro W base args ds gs before hval0 hW hcnd _
  have hval : ∀ (j : Nat) t v, Try.f11.params[j]? = some t → args[j]? = some v → Value.okWide Try.prog W .any base t v := hval0
  have hW' := hW
  obtain ⟨p, q, hA0, hV, rfl, hfz, hnd⟩ := hW
  have hA : DataW.TrodAll enc Try.prog W 0 (fun _ => true) true Try.f11.params.toList args.toList ds p := hA0
  rw [Try.params11] at hA hval
  obtain ⟨v0, vs0, d0, ds0, p0, q0, hargs, rfl, rfl, h0, r0⟩ := trodAll_cons hA
  obtain ⟨rfl, rfl, rfl⟩ := trodAll_nil r0
  obtain rfl : args = #[v0] := by cases args; simp_all
  obtain ⟨rfl, rfl⟩ := trodVars_none hV
  have k0 := h0
  have lt0 : ∀ x ∈ p0, x.block < W.heap.size := by obtain ⟨m, hm⟩ := k0; exact DataW.trod_lt m _ _ _ hm
  obtain ⟨ao0, cap0, m0, l0, rfl, rd0, hl0, len0, bd0⟩ := arg_rows Try.underlying72 (C := 3) (by kernel_rfl) (by decide) flat_0 (hval 0 72 v0 rfl rfl) h0
  clear hA0 hval0
  refine (SideDoes_walk ao0 cap0 m0 l0 W rd0 hl0 len0 bd0).mono fun e W' ⟨he, bel⟩ => ?_
  subst he
  exact ⟨_, rfl, _, _, _, [], _, [], hW', trodAll_mk1 (shut_bool Try.underlying4 _), (trodAll_cons_mk (Below.trod laidOut (by kernel_rfl) (of_decide_eq_true (by kernel_rfl)) k0 bel lt0) trodAll_mk0), rfl, bel.frame _, fun h => by cases h⟩

theorem over : Rows.sideDoesRow.holds Try.pinned (OpenSpec.ofChange Rows.sideDoesSpec) :=
  OpenClaim.holds_of_wide 11 Try.f11 rfl rfl rfl rfl rfl rfl rfl ⟨rfl, rfl, rfl, rfl, rfl⟩ rfl rfl rfl rfl rfl (by kernel_rfl) Try.func11 (by kernel_rfl)
    (of_decide_eq_true (by kernel_rfl)) (by unfold Func.isWrapper; first | (rw [if_pos (by decide +kernel)]; kernel_rfl) | (rw [if_neg (by decide +kernel)]; exact ⟨rfl, rfl⟩))
    (fun os started H enc _ => lifted os started H enc)

theorem proved : Rows.SideDoesSaid := over
#print axioms proved
end Go.Proofs.Ytjifdalflepcoaa.sideDoes
