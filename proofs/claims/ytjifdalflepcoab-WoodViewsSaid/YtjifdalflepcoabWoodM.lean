/-
  A wood in a statement: its memory; numbers of roots.
-/
import Derived.Test.YtjifdalflepcoabWoodL
import Derived.Test.YtjifdalflepcoabOver
import Derived.Test.YtjifdalflepcoabViewQ
namespace Go.Proofs.Ytjifdalflepcoab
open Go.RowKit
set_option linter.unusedVariables false
set_option linter.unusedSimpArgs false

/-- A number of 64 bits, read as one without a sign. -/
def unS (x : Int) : Nat := (x % 18446744073709551616).toNat

theorem unS_wrap (x : Int) : IntKind.u64.wrap x = (unS x : Int) := by
  unfold unS
  rw [Int.toNat_of_nonneg (Int.emod_nonneg _ (by decide))]
  rfl

/-- The root of a number. -/
def rootN (x : Int) : Nat := unS x % 12

theorem rootN_lt (x : Int) : rootN x < 12 := Nat.mod_lt _ (by decide)
theorem rootN_tmod (x : Int) : ((unS x : Int)).tmod 12 = (rootN x : Int) := by
  rw [Int.tmod_eq_emod_of_nonneg (by omega)]; rfl
theorem rootN_mod (x : Int) : ((unS x : Int)) % 12 = (rootN x : Int) := rfl
theorem rootN_wrap (x : Int) : IntKind.i64.wrap (rootN x : Int) = (rootN x : Int) := IntWalk.i64_in _ (by have := rootN_lt x; omega)

theorem meas_lt {m k : Nat} {x y : Value} (hx : x = .int .i64 ((k + 1 : Nat) : Int)) (hy : y = .int .i64 (k : Int)) (h : k < m) : m - (intOf x).toNat < m - (intOf y).toNat := by
  subst hx; subst hy; simp [intOf]; omega

/-- The wood of a statement: all its blocks are new. -/
structure WM (w0 w : World) (p : Nat) (h : WH) (O : Wo) : Prop where
  H : WoodAt w h O
  e : h.p = p
  K : Keeps (fun _ => False) w0 w
  own : ∀ k, h.Own k → w0.heap.size ≤ k

section
variable {w0 w w' : World} {p : Nat} {h : WH} {O O' : Wo}

theorem WM.to (M : WM w0 w p h O) (t : WoodTo w h w' O') : ∃ h', WM w0 w' p h' O' := by
  obtain ⟨h', H', e', k', o'⟩ := t
  refine ⟨h', H', e'.trans M.e, M.K.then k' (fun b hb => .inr (M.own b hb)), fun b hb => ?_⟩
  rcases o' b hb with h1 | h1
  · exact M.own b h1
  · have := M.K.size; omega

theorem WM.same (M : WM w0 w p h O) (k : Keeps (fun _ => False) w w') : WM w0 w' p h O := ⟨M.H.keep k (fun _ _ h => h), M.e, M.K.trans k, M.own⟩

/-- Another block stays. -/
theorem WM.blk (M : WM w0 w p h O) (t : WoodTo w h w' O') {b : Nat} {c : List Value} {T : TypeId} (hb : Blk w b c T) (h1 : T ≠ 65 ∧ T ≠ 120 ∧ T ≠ 2 ∧ T ≠ 140 ∧ T ≠ 4 ∧ T ≠ 129 ∧ T ≠ 170) : Blk w' b c T := by
  obtain ⟨h', H', e', k', o'⟩ := t
  refine k'.blk hb (fun ho => ?_)
  obtain ⟨c', T', hc, hT⟩ := M.H.own_type ho
  have hne : T ≠ T' := by rcases hT with rfl | rfl | rfl | rfl | rfl | rfl | rfl <;> simp [h1]
  exact hb.ne hc hne rfl
end

end Go.Proofs.Ytjifdalflepcoab
