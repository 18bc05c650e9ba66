/-
  The arguments of a law, opened: a slice that comes in reads as cells. No program in sight.
-/
import Derived.Test.YtjifdalflepcoabMem
import Derived.ProofKit
import Derived.OpenShut
import Derived.Deep.Slices
import Derived.Deep.Fields
import Derived.ChangeSame
import Derived.Lib.SmallJoins
import Derived.Carry
namespace Go.Proofs.Ytjifdalflepcoab
open Go.RowKit Go.ChangeShapes Go.WideShapes Go.Deep Go.Joins
set_option linter.unusedVariables false
set_option linter.unusedSimpArgs false

/-- Cells at an address, as Rd has them. -/
theorem Rd.of_cells {w : World} {a : Addr} {xs : List Value} (h : ∀ j u, xs[j]? = some u → w.cell? (a.add j) = some u) : Rd w (some a) xs := by
  intro hx
  have hl : 0 < xs.length := by cases xs with | nil => exact (hx rfl).elim | cons _ _ => simp
  obtain ⟨b, off, spot⟩ := a
  have h0 := h 0 xs[0] (by simp [hl])
  have hspot : spot = none := by simpa [Addr.add] using World.cell?_spot h0
  subst hspot
  refine ⟨b, off, rfl, World.block_lt_of_cell? _ _ h0, fun j hj => ?_⟩
  have := h j xs[j] (by simp [hj])
  rw [addr_add] at this
  rw [this]; simp [hj]

theorem i64_bounds {n : Int} (h : (Lit.int .i64 n).wf = true) : -9223372036854775808 ≤ n ∧ n ≤ 9223372036854775807 := by
  simp [Lit.wf, IntKind.min, IntKind.max, IntKind.bits, IntKind.signed] at h; omega

section
variable {H : Type} {enc : TypeId × Value → H} {P : Program} {w : World} {base : Nat} {spare : Nat → Bool} {held : Bool}

/-- One cell that holds an int64 (or an int). -/
def I64 (c : Value) : Prop := ∃ n : Int, c = .int .i64 n ∧ -9223372036854775808 ≤ n ∧ n ≤ 9223372036854775807

/-- All that reads as type e is such cells. -/
def Flat (enc : TypeId × Value → H) (P : Program) (w : World) (base : Nat) (spare : Nat → Bool) (held : Bool) (e : TypeId) : Prop :=
  ∀ fuel cs x, DataW.trod enc P w base spare held fuel e cs = some x → cs.length = P.cellsOf e ∧ ∀ c ∈ cs, I64 c

theorem flat_int {e : TypeId} (he : P.underlying e = some (.int .i64)) (hC : P.cellsOf e = 1) : Flat enc P w base spare held e := by
  intro fuel cs x h
  obtain ⟨n, rfl, _, hn⟩ := DataW.trod_int he h
  refine ⟨by simp [hC], ?_⟩
  intro c hc
  simp at hc; subst hc
  exact ⟨n, rfl, i64_bounds hn⟩

def covers (P : Program) (e : TypeId) (fs : Array Field) : Bool :=
  (List.range (P.cellsOf e)).all fun j => fs.toList.any fun f => decide (f.offset ≤ j) && decide (j < f.offset + P.cellsOf f.type)

theorem flat_struct {e : TypeId} {fs : Array Field} (he : P.underlying e = some (.struct fs)) (hcov : covers P e fs = true)
    (hf : ∀ (i : Nat) (f : Field), fs[i]? = some f → Flat enc P w base spare held f.type) : Flat enc P w base spare held e := by
  intro fuel cs x h
  obtain ⟨ys, n, _, hy, hlen, hyl, hg⟩ := DataW.trod_struct he h
  refine ⟨hlen, ?_⟩
  intro c hc
  obtain ⟨j, hj, rfl⟩ := List.getElem_of_mem hc
  have hcj := List.all_eq_true.1 hcov j (List.mem_range.2 (by omega))
  obtain ⟨f, hfm, hfj⟩ := List.any_eq_true.1 hcj
  simp only [Bool.and_eq_true, decide_eq_true_eq] at hfj
  obtain ⟨i, hi, hif⟩ := List.getElem_of_mem hfm
  have hfi : fs[i]? = some f := by
    rw [← Array.getElem?_toList, List.getElem?_eq_getElem hi, hif]
  have h1 := hg i f hfi
  have hys : ys[i]? = some (ys[i]'(by rw [hyl]; simpa using hi)) := List.getElem?_eq_getElem _
  rw [hys] at h1
  have h2 := (hf i f hfi n _ _ h1).2
  refine h2 _ ?_
  rw [List.mem_iff_getElem?]
  refine ⟨j - f.offset, ?_⟩
  rw [List.getElem?_take, if_pos (by omega), List.getElem?_drop, show f.offset + (j - f.offset) = j by omega]
  simp [hj]

theorem flat_array {t e : TypeId} {k : Nat} (ht : P.underlying t = some (.array k e)) (hC : P.cellsOf t = k * P.cellsOf e) (he : Flat enc P w base spare held e) : Flat enc P w base spare held t := by
  intro fuel cs x h
  obtain ⟨ys, n, _, hy, hlen, hyl, hg⟩ := DataW.trod_array ht h
  refine ⟨hlen, ?_⟩
  intro c hc
  obtain ⟨j, hj, rfl⟩ := List.getElem_of_mem hc
  rw [hlen, hC] at hj
  have hpos : 0 < P.cellsOf e := by
    apply Nat.pos_of_ne_zero; intro h0; rw [h0] at hj; simp at hj
  have hi : j / P.cellsOf e < k := Nat.div_lt_of_lt_mul (by rwa [Nat.mul_comm] at hj)
  have h1 := hg _ hi
  have hys : ys[j / P.cellsOf e]? = some (ys[j / P.cellsOf e]'(by omega)) := List.getElem?_eq_getElem _
  rw [hys] at h1
  have h2 := (he n _ _ h1).2
  refine h2 _ ?_
  rw [List.mem_iff_getElem?]
  refine ⟨j % P.cellsOf e, ?_⟩
  rw [List.getElem?_take, if_pos (Nat.mod_lt _ hpos), List.getElem?_drop, Nat.mul_comm, Nat.div_add_mod]
  simp

/-- A slice of such that comes in. -/
theorem arg_flat {r : Reach} {b0 : Nat} {t e : TypeId} {C : Nat} {v : Value} {d : DataW H} {p : List MemPlace} (ht : P.underlying t = some (.slice e)) (hC : P.cellsOf e = C) (hpos : 0 < C) (he : Flat enc P w base spare held e)
    (hv : Value.okWide P w r b0 t v) (h : DataW.Trod enc P w base spare held t v d p) :
    ∃ (ao : Option Addr) (cap n : Nat) (xs : List Value), v = .slice ao n cap ∧ xs.length = n * C ∧ Rd w ao xs ∧ n ≤ maxLen ∧ ∀ c ∈ xs, I64 c := by
  obtain ⟨a0, len0, cap0, rfl⟩ := okWide_slice ht hv
  obtain ⟨fuel, hf⟩ := h
  rcases open_slice ht hf with ⟨hcs, _⟩ | ⟨a, l, c, m, n, D, Pl, hcs, _, hl, hm, hmm, _, hi⟩
  · simp [Value.cells] at hcs
    obtain ⟨rfl, rfl, rfl⟩ := hcs
    exact ⟨none, 0, 0, [], rfl, by simp, Rd.nil _ _, Nat.zero_le _, by simp⟩
  · simp [Value.cells] at hcs
    obtain ⟨rfl, rfl, rfl⟩ := hcs
    have hle : len0 ≤ m := by rw [hmm]; split <;> omega
    have key : ∀ j, j < len0 * C → ∃ u, w.cell? (a.add j) = some u ∧ I64 u := by
      intro j hj
      have hi' : j / C < len0 := Nat.div_lt_of_lt_mul (by rwa [Nat.mul_comm] at hj)
      obtain ⟨cs', h1, h2⟩ := hi (j / C) (by omega)
      obtain ⟨hlen, hall⟩ := he _ _ _ h2
      obtain ⟨_, hcl, hat⟩ := World.cells?_some h1
      have hr : j % C < cs'.length := by rw [hlen, hC]; exact Nat.mod_lt _ hpos
      have := hat (j % C) (by rw [hC]; exact Nat.mod_lt _ hpos)
      rw [Go.Deep.add_add, hC, Nat.mul_comm, Nat.div_add_mod, List.getElem?_eq_getElem hr] at this
      exact ⟨_, this, hall _ (List.getElem_mem hr)⟩
    refine ⟨some a, cap0, len0, (List.range (len0 * C)).map fun j => (w.cell? (a.add j)).getD undef, rfl, by simp, ?_, Nat.le_trans hl hm, ?_⟩
    · refine Rd.of_cells ?_
      intro j u hu
      simp only [List.getElem?_map, Option.map_eq_some_iff] at hu
      obtain ⟨j', hj', rfl⟩ := hu
      have hjl := (List.getElem?_eq_some_iff.1 hj').1
      have : j = j' := by
        rw [List.getElem?_eq_getElem hjl] at hj'
        simpa using hj'
      subst this
      obtain ⟨u, hu, _⟩ := key j (by simpa using hjl)
      rw [hu]; rfl
    · intro c hc
      simp only [List.mem_map, List.mem_range] at hc
      obtain ⟨j, hj, rfl⟩ := hc
      obtain ⟨u, hu, h64⟩ := key j hj
      rw [hu]; exact h64

/-- Cells that are int64 are a list of numbers. -/
theorem i64_list : ∀ {xs : List Value}, (∀ c ∈ xs, I64 c) → ∃ l : List Int, xs = l.map (Value.int .i64) ∧ ∀ x ∈ l, -9223372036854775808 ≤ x ∧ x ≤ 9223372036854775807
  | [], _ => ⟨[], rfl, by simp⟩
  | c :: xs, h => by
    obtain ⟨n, rfl, hn⟩ := h c (by simp)
    obtain ⟨l, rfl, hl⟩ := i64_list (xs := xs) (fun c hc => h c (List.mem_cons_of_mem _ hc))
    exact ⟨n :: l, rfl, by intro x hx; rcases List.mem_cons.1 hx with rfl | hx; exact hn; exact hl x hx⟩

/-- A slice of ints that comes in. -/
theorem arg_ints {r : Reach} {b0 : Nat} {t e : TypeId} {v : Value} {d : DataW H} {p : List MemPlace} (ht : P.underlying t = some (.slice e)) (he : P.underlying e = some (.int .i64)) (hC : P.cellsOf e = 1)
    (hv : Value.okWide P w r b0 t v) (h : DataW.Trod enc P w base spare held t v d p) :
    ∃ (ao : Option Addr) (cap : Nat) (l : List Int), v = .slice ao l.length cap ∧ Rd w ao (l.map (Value.int .i64)) ∧ l.length ≤ maxLen ∧ ∀ x ∈ l, -9223372036854775808 ≤ x ∧ x ≤ 9223372036854775807 := by
  obtain ⟨ao, cap, n, xs, rfl, hl, hr, hm, h64⟩ := arg_flat ht hC (by omega) (flat_int he hC) hv h
  obtain ⟨l, rfl, hb⟩ := i64_list h64
  simp at hl; subst hl
  exact ⟨ao, cap, l, rfl, hr, hm, hb⟩

/-- A struct of two ints by value. -/
theorem arg_val2 {r : Reach} {b0 : Nat} {t : TypeId} {f0 f1 : Field} {v : Value} {d : DataW H} {p : List MemPlace} (hs : P.underlying t = some (.struct #[f0, f1])) (hone : oneCellFields P #[f0, f1] = true) (hC : P.cellsOf t = 2)
    (h0 : P.underlying f0.type = some (.int .i64)) (h1 : P.underlying f1.type = some (.int .i64))
    (hv : Value.okWide P w r b0 t v) (h : DataW.Trod enc P w base spare held t v d p) :
    ∃ a : Int × Int, v = .agg #[.int .i64 a.1, .int .i64 a.2] ∧ (-9223372036854775808 ≤ a.1 ∧ a.1 ≤ 9223372036854775807) ∧ -9223372036854775808 ≤ a.2 ∧ a.2 ≤ 9223372036854775807 := by
  obtain ⟨c0, c1, y0, y1, m, rfl, _, _, hy0, hy1⟩ := open_agg2 hs hone hC hv h
  obtain ⟨a, ea, _, wa⟩ := DataW.trod_int h0 hy0
  obtain ⟨b, eb, _, wb⟩ := DataW.trod_int h1 hy1
  simp at ea eb
  subst ea; subst eb
  exact ⟨(a, b), rfl, i64_bounds wa, i64_bounds wb⟩

end
end Go.Proofs.Ytjifdalflepcoab
