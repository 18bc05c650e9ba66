/-
  The statement WoodDoes: for every input the law returns true, and each argument reads behind the call as it read before. No condition.
-/
import Derived.Test.YtjifdalflepcoabRows
import Derived.Test.YtjifdalflepcoabWDesP0
import Derived.Test.YtjifdalflepcoabWDesP2
import Derived.ChangeOld
import Derived.Below
namespace Go.Proofs.Ytjifdalflepcoab.woodDoes
open Go.ChangeShapes Go.WideShapes Go.ChangeAt Go.RowKit Go.Joins
set_option linter.unusedVariables false
set_option linter.unusedSimpArgs false

theorem walk (n o : Int) (lo : Option Addr) (lc m : Nat) (xs : List Int) (w : World) (hn : R64 n) (ho : R64 o) (h0 : Rd w lo (xs.map (Value.int .i64))) (hx : xs.length = m * 5) (_ : m ≤ maxLen) (hb : ∀ x ∈ xs, R64 x) :
    Calls Try.prog 6 #[.int .i64 n, .int .i64 o, .slice lo m lc] w fun e w' => e = .returned (.bool true) ∧ Below w.heap.size w w' :=
  (WoodDoes_raw n o lo lc m xs w h0 hx hb hn ho).mono fun e w' h => ⟨h.1, h.2.below (fun _ _ h => h)⟩

theorem own : ownKnob Try.prog.godebug = none := by kernel_rfl
theorem laidOut : laidOutB Try.prog = true := by kernel_rfl

section
variable {H : Type} {enc : TypeId × Value → H} {w : World} {base : Nat} {spare : Nat → Bool} {held : Bool}
set_option maxRecDepth 100000 in
theorem flat_2 : Flat enc Try.prog w base spare held 61 := by
  refine flat_struct Try.underlying61 (by kernel_rfl) ?_
  intro i f hf
  match i with
  | 0 => simp at hf; subst hf; exact (flat_int Try.underlying3 (by kernel_rfl))
  | 1 => simp at hf; subst hf; exact (flat_int Try.underlying3 (by kernel_rfl))
  | 2 => simp at hf; subst hf; exact (flat_int Try.underlying3 (by kernel_rfl))
  | 3 => simp at hf; subst hf; exact (flat_int Try.underlying3 (by kernel_rfl))
  | 4 => simp at hf; subst hf; exact (flat_int Try.underlying2 (by kernel_rfl))
  | i + 5 => simp at hf
end

set_option maxRecDepth 100000 in
theorem lifted (os : Os) (started : os.Started) (H : Type) (enc : TypeId × Value → H) :
    ReturnsInHanded {} Try.checked os 6 .any (Rows.woodDoesSpec.pre6 enc Try.prog Try.f6 Rows.woodDoesRow.domain false) (Rows.woodDoesSpec.post enc Try.prog Try.f6 false true false false) := by
  refine returnsInHanded_of_change (C := Try.checked) own started (by kernel_rfl) Try.func6
    (ChangeSpec.witness6 (enc := enc) (C := Try.checked) false ⟨#[], #[.int .i64 0, .int .i64 0, .slice none 0 0], []⟩ 8 (by kernel_rfl) (by kernel_rfl) (by kernel_rfl) (by kernel_rfl)) ?_
  intro W base args ds gs before hval0 hW hcnd _
  have hval : ∀ (j : Nat) t v, Try.f6.params[j]? = some t → args[j]? = some v → Value.okWide Try.prog W .any base t v := hval0
  have hW' := hW
  obtain ⟨p, q, hA0, hV, rfl, hfz, hnd⟩ := hW
  have hA : DataW.TrodAll enc Try.prog W 0 (fun _ => true) true Try.f6.params.toList args.toList ds p := hA0
  rw [Try.params6] at hA hval
  obtain ⟨v0, vs0, d0, ds0, p0, q0, hargs, rfl, rfl, h0, r0⟩ := trodAll_cons hA
  obtain ⟨v1, vs1, d1, ds1, p1, q1, rfl, rfl, rfl, h1, r1⟩ := trodAll_cons r0
  obtain ⟨v2, vs2, d2, ds2, p2, q2, rfl, rfl, rfl, h2, r2⟩ := trodAll_cons r1
  obtain ⟨rfl, rfl, rfl⟩ := trodAll_nil r2
  obtain rfl : args = #[v0, v1, v2] := by cases args; simp_all
  obtain ⟨rfl, rfl⟩ := trodVars_none hV
  have k2 := h2
  have lt2 : ∀ x ∈ p2, x.block < W.heap.size := by obtain ⟨m, hm⟩ := k2; exact DataW.trod_lt m _ _ _ hm
  obtain ⟨a0, rfl, rfl, rfl, w0⟩ := open_int Try.underlying3 (hval 0 3 v0 rfl rfl) h0
  obtain ⟨a1, rfl, rfl, rfl, w1⟩ := open_int Try.underlying3 (hval 1 3 v1 rfl rfl) h1
  obtain ⟨ao2, cap2, m2, l2, rfl, rd2, hl2, len2, bd2⟩ := arg_rows Try.underlying56 (C := 5) (by kernel_rfl) (by decide) flat_2 (hval 2 56 v2 rfl rfl) h2
  clear hA0 hval0
  refine (walk a0 a1 ao2 cap2 m2 l2 W (i64_bounds w0) (i64_bounds w1) rd2 hl2 len2 bd2).mono fun e W' ⟨he, bel⟩ => ?_
  subst he
  exact ⟨_, rfl, _, _, _, [], _, [], hW', trodAll_mk1 (shut_bool Try.underlying4 _), (trodAll_cons_mk (shut_int Try.underlying3 w0) (trodAll_cons_mk (shut_int Try.underlying3 w1) (trodAll_cons_mk (Below.trod laidOut (by kernel_rfl) (of_decide_eq_true (by kernel_rfl)) k2 bel lt2) trodAll_mk0))), rfl, bel.frame _, fun h => by cases h⟩

theorem over : Rows.woodDoesRow.holds Try.pinned (OpenSpec.ofChange Rows.woodDoesSpec) :=
  OpenClaim.holds_of_wide 6 Try.f6 rfl rfl rfl rfl rfl rfl rfl ⟨rfl, rfl, rfl, rfl, rfl⟩ rfl rfl rfl rfl rfl (by kernel_rfl) Try.func6 (by kernel_rfl)
    (of_decide_eq_true (by kernel_rfl)) (by unfold Func.isWrapper; first | (rw [if_pos (by decide +kernel)]; kernel_rfl) | (rw [if_neg (by decide +kernel)]; exact ⟨rfl, rfl⟩))
    (fun os started H enc _ => lifted os started H enc)

theorem proved : Rows.WoodDoesSaid := over
#print axioms proved
end Go.Proofs.Ytjifdalflepcoab.woodDoes
