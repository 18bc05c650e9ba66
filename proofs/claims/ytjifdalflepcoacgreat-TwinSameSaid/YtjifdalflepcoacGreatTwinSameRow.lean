/-
  The statement TwinSame: for every input the law returns true, and each argument reads behind the call as it read before. No condition.
-/
import Derived.Below
import Derived.ChangeOld
import Derived.Test.YtjifdalflepcoacGreatRows
import Derived.Test.YtjifdalflepcoacGreatTWRP19
namespace Go.Proofs.YtjifdalflepcoacGreat.twinSame
open Go.ChangeShapes Go.WideShapes Go.ChangeAt Go.RowKit Go.Joins
set_option linter.unusedVariables false
set_option linter.unusedSimpArgs false

theorem own : ownKnob Tryz.prog.godebug = none := by kernel_rfl
theorem laidOut : laidOutB Tryz.prog = true := by kernel_rfl

section
variable {H : Type} {enc : TypeId × Value → H} {w : World} {base : Nat} {spare : Nat → Bool} {held : Bool}
set_option maxRecDepth 100000 in
theorem flat_2 : Flat enc Tryz.prog w base spare held 69 := by
  refine lV Tryz.underlying69 (by kernel_rfl) ?_
  intro i f hf
  match i with
  | 0 => simp at hf; subst hf; exact (cY Tryz.underlying3 (by kernel_rfl))
  | 1 => simp at hf; subst hf; exact (cY Tryz.underlying3 (by kernel_rfl))
  | 2 => simp at hf; subst hf; exact (cY Tryz.underlying3 (by kernel_rfl))
  | 3 => simp at hf; subst hf; exact (cY Tryz.underlying3 (by kernel_rfl))
  | 4 => simp at hf; subst hf; exact (cY Tryz.underlying3 (by kernel_rfl))
  | 5 => simp at hf; subst hf; exact (cY Tryz.underlying2 (by kernel_rfl))
  | i + 6 => simp at hf
end

set_option maxRecDepth 100000 in
theorem lifted (os : Os) (started : os.Started) (H : Type) (enc : TypeId × Value → H) :
    ReturnsInHanded {} Tryz.checked os 8 .any (Rows.twinSameSpec.pre6 enc Tryz.prog Tryz.f8 Rows.twinSameRow.domain false) (Rows.twinSameSpec.post enc Tryz.prog Tryz.f8 false true false false) := by
  refine returnsInHanded_of_change (C := Tryz.checked) own started (by kernel_rfl) Tryz.func8
    (ChangeSpec.witness6 (enc := enc) (C := Tryz.checked) false ⟨#[], #[.int .i64 0, .int .i64 0, .slice none 0 0], []⟩ 8 (by kernel_rfl) (by kernel_rfl) (by kernel_rfl) (by kernel_rfl)) ?_
  intro W base args ds gs before hval0 hW hcnd _
  have hval : ∀ (j : Nat) t v, Tryz.f8.params[j]? = some t → args[j]? = some v → Value.okWide Tryz.prog W .any base t v := hval0
  have hW' := hW
  obtain ⟨p, q, hA0, hV, rfl, hfz, hnd⟩ := hW
  have hA : DataW.TrodAll enc Tryz.prog W 0 (fun _ => true) true Tryz.f8.params.toList args.toList ds p := hA0
  rw [Tryz.params8] at hA hval
  obtain ⟨v0, vs0, d0, ds0, p0, q0, hargs, rfl, rfl, h0, r0⟩ := trodAll_cons hA
  obtain ⟨v1, vs1, d1, ds1, p1, q1, rfl, rfl, rfl, h1, r1⟩ := trodAll_cons r0
  obtain ⟨v2, vs2, d2, ds2, p2, q2, rfl, rfl, rfl, h2, r2⟩ := trodAll_cons r1
  obtain ⟨rfl, rfl, rfl⟩ := trodAll_nil r2
  obtain rfl : args = #[v0, v1, v2] := by cases args; simp_all
  obtain ⟨rfl, rfl⟩ := trodVars_none hV
  have k2 := h2
  have lt2 : ∀ x ∈ p2, x.block < W.heap.size := by obtain ⟨m, hm⟩ := k2; exact DataW.trod_lt m _ _ _ hm
  obtain ⟨a0, rfl, rfl, rfl, w0⟩ := open_int Tryz.underlying3 (hval 0 3 v0 rfl rfl) h0
  obtain ⟨a1, rfl, rfl, rfl, w1⟩ := open_int Tryz.underlying3 (hval 1 3 v1 rfl rfl) h1
  obtain ⟨ao2, cap2, m2, l2, rfl, rd2, hl2, len2, bd2⟩ := sH Tryz.underlying62 (C := 6) (by kernel_rfl) (by decide) flat_2 (hval 2 62 v2 rfl rfl) h2
  clear hA0 hval0
  refine (sx a0 a1 ao2 cap2 m2 l2 W (gd w0) (gd w1) rd2 hl2 len2 bd2).mono fun e W' ⟨he, bel⟩ => ?_
  subst he
  exact ⟨_, rfl, _, _, _, [], _, [], hW', trodAll_mk1 (shut_bool Tryz.underlying4 _), (trodAll_cons_mk (shut_int Tryz.underlying3 w0) (trodAll_cons_mk (shut_int Tryz.underlying3 w1) (trodAll_cons_mk (Below.trod laidOut (by kernel_rfl) (of_decide_eq_true (by kernel_rfl)) k2 bel lt2) trodAll_mk0))), rfl, bel.frame _, fun h => by cases h⟩

theorem over : Rows.twinSameRow.holds Tryz.pinned (OpenSpec.ofChange Rows.twinSameSpec) :=
  OpenClaim.holds_of_wide 8 Tryz.f8 rfl rfl rfl rfl rfl rfl rfl ⟨rfl, rfl, rfl, rfl, rfl⟩ rfl rfl rfl rfl rfl (by kernel_rfl) Tryz.func8 (by kernel_rfl)
    (of_decide_eq_true (by kernel_rfl)) (by unfold Func.isWrapper; first | (rw [if_pos (by decide +kernel)]; kernel_rfl) | (rw [if_neg (by decide +kernel)]; exact ⟨rfl, rfl⟩))
    (fun os started H enc _ => lifted os started H enc)

theorem proved : Rows.TwinSameSaid := over
#print axioms proved
end Go.Proofs.YtjifdalflepcoacGreat.twinSame
