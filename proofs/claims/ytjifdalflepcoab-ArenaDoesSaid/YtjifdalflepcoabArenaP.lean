/-
  An arena, in plain words. No program in sight.
-/
import Derived.Test.YtjifdalflepcoabWordP
namespace Go.Proofs.Ytjifdalflepcoab
set_option linter.unusedVariables false
set_option linter.unusedSimpArgs false

/-- A number of 64 bits. -/
def R64 (x : Int) : Prop := -9223372036854775808 ≤ x ∧ x ≤ 9223372036854775807

/-- Words, where the old space begins, how many words of the nursery are in use, where the old space in use ends. -/
structure Ar where
  ws : List Int
  nur : Nat
  yng : Nat
  grn : Nat

structure Ar.ok (A : Ar) : Prop where
  h1 : A.yng ≤ A.nur
  h2 : A.nur ≤ A.grn
  h3 : A.grn ≤ A.ws.length
  h4 : A.ws.length ≤ 1280
  hw : ∀ x ∈ A.ws, R64 x

def Ar.young (A : Ar) (i : Int) : Bool := decide (0 ≤ i) && decide (i < A.yng)
def Ar.old (A : Ar) (i : Int) : Bool := decide ((A.nur : Int) ≤ i) && decide (i < A.grn)
def Ar.inUse (A : Ar) (i : Int) : Bool := A.young i || A.old i
def Ar.load (A : Ar) (i : Int) : Int := if A.inUse i then A.ws.getD i.toNat 0 else 0
def Ar.store (A : Ar) (i x : Int) : Ar := if A.inUse i then { A with ws := A.ws.set i.toNat x } else A

/-- So many words of the nursery. -/
def Ar.takeY (A : Ar) (n : Int) : Int × Ar := if 0 ≤ n ∧ n ≤ (A.nur : Int) - A.yng then (A.yng, { A with yng := A.yng + n.toNat }) else (-1, A)
/-- Likewise of the old space. -/
def Ar.takeO (A : Ar) (n : Int) : Int × Ar := if 0 ≤ n ∧ n ≤ (A.ws.length : Int) - A.grn then (A.grn, { A with grn := A.grn + n.toNat }) else (-1, A)

/-- Words laid into a list from a place on. -/
def lay (l : List Int) (i : Nat) (m : List Int) : List Int := l.take i ++ m ++ l.drop (i + m.length)

theorem lay_length {l m : List Int} {i : Nat} (h : i + m.length ≤ l.length) : (lay l i m).length = l.length := by
  unfold lay; simp only [List.length_append, List.length_take, List.length_drop]; omega

theorem lay_get {l m : List Int} {i j : Nat} (h : i + m.length ≤ l.length) : (lay l i m)[j]? = if i ≤ j ∧ j < i + m.length then m[j - i]? else l[j]? := by
  unfold lay
  by_cases h1 : j < i
  · rw [List.append_assoc, List.getElem?_append_left (by simp; omega), List.getElem?_take, if_pos h1, if_neg (by omega)]
  · by_cases h2 : j < i + m.length
    · rw [List.append_assoc, List.getElem?_append_right (by simp; omega), List.length_take, List.getElem?_append_left (by omega), if_pos ⟨by omega, h2⟩]
      congr 1; omega
    · rw [List.getElem?_append_right (by simp; omega), if_neg (by omega), List.getElem?_drop, List.length_append, List.length_take]
      congr 1; omega

theorem lay_getD {l m : List Int} {i j : Nat} (h : i + m.length ≤ l.length) : (lay l i m).getD j 0 = if i ≤ j ∧ j < i + m.length then m.getD (j - i) 0 else l.getD j 0 := by
  simp only [List.getD_eq_getElem?_getD, lay_get h]
  split <;> rfl

theorem lay_mem {l m : List Int} {i : Nat} {x : Int} (h : x ∈ lay l i m) : x ∈ l ∨ x ∈ m := by
  unfold lay at h
  simp only [List.mem_append] at h
  rcases h with (h | h) | h
  · exact .inl (List.mem_of_mem_take h)
  · exact .inr h
  · exact .inl (List.mem_of_mem_drop h)

/-- A thing's words, all its fields nil. -/
def thingW (k f : Int) : List Int := (16 * f + k) :: List.replicate f.toNat 2

/-- Make in the nursery. -/
def Ar.make (A : Ar) (k f : Int) : Int × Ar :=
  if fitsW k f = true ∧ 1 + f ≤ (A.nur : Int) - A.yng then (A.yng, { A with yng := A.yng + (1 + f).toNat, ws := lay A.ws A.yng (thingW k f) }) else (-1, A)

theorem Ar.make_no {A : Ar} {k f : Int} (h : ¬ (fitsW k f = true ∧ 1 + f ≤ (A.nur : Int) - A.yng)) : A.make k f = (-1, A) := if_neg h
theorem Ar.make_yes {A : Ar} {k f : Int} (h : fitsW k f = true ∧ 1 + f ≤ (A.nur : Int) - A.yng) : A.make k f = ((A.yng : Int), { A with yng := A.yng + (1 + f).toNat, ws := lay A.ws A.yng (thingW k f) }) := if_pos h

/-- The parts of the thing at a place. -/
def Ar.thing (A : Ar) (i : Int) : Int × Int × Int := partsW (A.load i)

/-- May the thing at a place be copied? -/
def Ar.whole (A : Ar) (i n : Int) : Bool := (A.young i && A.young (i + n)) || (A.old i && A.old (i + n))

def Ar.copy (A : Ar) (i : Int) : Int × Ar :=
  let n := (A.thing i).2.1
  if (A.thing i).2.2 = 0 ∧ A.whole i n = true ∧ 1 + n ≤ (A.ws.length : Int) - A.grn then
    (A.grn, { A with grn := A.grn + (1 + n).toNat, ws := lay A.ws A.grn ((A.ws.drop i.toNat).take (1 + n).toNat) })
  else (-1, A)

theorem Ar.copy_no {A : Ar} {i : Int} (h : ¬ ((A.thing i).2.2 = 0 ∧ A.whole i (A.thing i).2.1 = true ∧ 1 + (A.thing i).2.1 ≤ (A.ws.length : Int) - A.grn)) : A.copy i = (-1, A) := if_neg h
theorem Ar.copy_yes {A : Ar} {i : Int} (h : (A.thing i).2.2 = 0 ∧ A.whole i (A.thing i).2.1 = true ∧ 1 + (A.thing i).2.1 ≤ (A.ws.length : Int) - A.grn) :
    A.copy i = ((A.grn : Int), { A with grn := A.grn + (1 + (A.thing i).2.1).toNat, ws := lay A.ws A.grn ((A.ws.drop i.toNat).take (1 + (A.thing i).2.1).toNat) }) := if_pos h

def Ar.clear (A : Ar) : Ar := { A with yng := 0 }
def Ar.cut (A : Ar) (n : Nat) : Ar := { A with grn := A.nur + n }

theorem Ar.ok.young_lt {A : Ar} (h : A.ok) {i : Int} (hy : A.young i = true) : 0 ≤ i ∧ i < A.ws.length := by
  have := h.h1; have := h.h2; have := h.h3
  simp [Ar.young] at hy; omega

theorem Ar.ok.old_lt {A : Ar} (h : A.ok) {i : Int} (hy : A.old i = true) : 0 ≤ i ∧ i < A.ws.length := by
  have := h.h3
  simp [Ar.old] at hy; omega

theorem Ar.ok.use_lt {A : Ar} (h : A.ok) {i : Int} (hy : A.inUse i = true) : 0 ≤ i ∧ i < A.ws.length := by
  unfold Ar.inUse at hy
  rw [Bool.or_eq_true] at hy
  rcases hy with hy | hy
  · exact h.young_lt hy
  · exact h.old_lt hy

theorem Ar.ok.load {A : Ar} (h : A.ok) (i : Int) : R64 (A.load i) := by
  unfold Ar.load
  split
  · rename_i hu
    have := h.use_lt hu
    have hi : i.toNat < A.ws.length := by omega
    rw [List.getD_eq_getElem?_getD, List.getElem?_eq_getElem hi]
    exact h.hw _ (List.getElem_mem hi)
  · unfold R64; omega

theorem Ar.ok.store {A : Ar} (h : A.ok) (i x : Int) (hx : R64 x) : (A.store i x).ok := by
  unfold Ar.store
  split
  · refine ⟨h.h1, h.h2, by simpa using h.h3, by simpa using h.h4, fun y hy => ?_⟩
    rcases List.mem_or_eq_of_mem_set hy with h1 | rfl
    · exact h.hw y h1
    · exact hx
  · exact h

theorem Ar.thing_use {A : Ar} {i : Int} (h : (A.thing i).2.2 = 0) : A.inUse i = true := by
  cases hu : A.inUse i
  · have : A.load i = 0 := by unfold Ar.load; rw [hu]; simp
    unfold Ar.thing at h
    rw [this] at h
    exact absurd h (by decide)
  · rfl

theorem Ar.thing_fields (A : Ar) (i : Int) : 0 ≤ (A.thing i).2.1 ∧ (A.thing i).2.1 ≤ 12 := by
  unfold Ar.thing partsW
  split
  · rename_i h; have := fitsW_spec h; exact ⟨this.2.2.1, this.2.2.2⟩
  · decide

theorem thingW_length {k f : Int} (h : 0 ≤ f) : (thingW k f).length = (1 + f).toNat := by
  unfold thingW; simp; omega

theorem Ar.ok.make {A : Ar} (h : A.ok) (k f : Int) : (A.make k f).2.ok := by
  unfold Ar.make
  split
  · rename_i hc
    have hf := fitsW_spec hc.1
    have hl := thingW_length (k := k) hf.2.2.1
    have := h.h1; have := h.h2; have := h.h3; have := h.h4
    have hlay : (lay A.ws A.yng (thingW k f)).length = A.ws.length := lay_length (by omega)
    refine ⟨?_, h.h2, ?_, ?_, fun x hx => ?_⟩
    · show A.yng + (1 + f).toNat ≤ A.nur; omega
    · show A.grn ≤ (lay _ _ _).length; rw [hlay]; exact h.h3
    · show (lay _ _ _).length ≤ 1280; rw [hlay]; exact h.h4
    · rcases lay_mem hx with h1 | h1
      · exact h.hw x h1
      · unfold thingW at h1
        simp only [List.mem_cons, List.mem_replicate] at h1
        unfold R64
        rcases h1 with h1 | h1 <;> omega
  · exact h

theorem Ar.whole_spec {A : Ar} (h : A.ok) {i n : Int} (hn : 0 ≤ n) (hw : A.whole i n = true) : 0 ≤ i ∧ i + n < A.ws.length := by
  unfold Ar.whole at hw
  simp only [Bool.or_eq_true, Bool.and_eq_true] at hw
  rcases hw with ⟨h1, h2⟩ | ⟨h1, h2⟩
  · exact ⟨(h.young_lt h1).1, (h.young_lt h2).2⟩
  · exact ⟨(h.old_lt h1).1, (h.old_lt h2).2⟩

theorem Ar.ok.copy {A : Ar} (h : A.ok) (i : Int) : (A.copy i).2.ok := by
  unfold Ar.copy
  dsimp only
  split
  · rename_i hc
    have hf := A.thing_fields i
    have hs := Ar.whole_spec h hf.1 hc.2.1
    have := h.h1; have := h.h2; have := h.h3; have := h.h4
    have hl : ((A.ws.drop i.toNat).take (1 + (A.thing i).2.1).toNat).length = (1 + (A.thing i).2.1).toNat := by simp; omega
    have hlay : (lay A.ws A.grn ((A.ws.drop i.toNat).take (1 + (A.thing i).2.1).toNat)).length = A.ws.length := lay_length (by omega)
    refine ⟨h.h1, ?_, ?_, ?_, fun x hx => ?_⟩
    · show A.nur ≤ A.grn + _; omega
    · show A.grn + _ ≤ (lay _ _ _).length; rw [hlay]; omega
    · show (lay _ _ _).length ≤ 1280; rw [hlay]; exact h.h4
    · rcases lay_mem hx with h1 | h1
      · exact h.hw x h1
      · exact h.hw x (List.mem_of_mem_drop (List.mem_of_mem_take h1))
  · exact h

theorem Ar.ok.clear {A : Ar} (h : A.ok) : A.clear.ok := ⟨Nat.zero_le _, h.h2, h.h3, h.h4, h.hw⟩
theorem Ar.ok.cut {A : Ar} (h : A.ok) {n : Nat} (hn : A.nur + n ≤ A.ws.length) : (A.cut n).ok := ⟨h.h1, Nat.le_add_right _ _, hn, h.h4, h.hw⟩

/-- A new one. -/
def Ar.fits (n o : Int) : Bool := decide (16 ≤ n) && decide (n ≤ 256) && decide (0 ≤ o) && decide (o ≤ 1024)
def Ar.new (n o : Int) : Ar := ⟨List.replicate (n + o).toNat 0, n.toNat, 0, n.toNat⟩
theorem Ar.new_ok {n o : Int} (h : Ar.fits n o = true) : (Ar.new n o).ok := by
  simp [Ar.fits] at h
  refine ⟨Nat.zero_le _, Nat.le_refl _, ?_, ?_, fun x hx => ?_⟩
  · simp [Ar.new]; omega
  · simp [Ar.new]; omega
  · simp [Ar.new] at hx; unfold R64; omega

/-- Where things begin, from a place up to another. -/
def Ar.list (A : Ar) : Nat → Int → Int → List Int
  | 0, _, _ => []
  | n + 1, at_, to => if at_ < to then (if (A.thing at_).2.2 = 0 then at_ :: A.list n (at_ + 1 + (A.thing at_).2.1) to else []) else []

theorem Ar.list_len (A : Ar) : ∀ (n : Nat) (i j : Int), (A.list n i j).length ≤ n
  | 0, _, _ => Nat.le_refl _
  | n + 1, i, j => by
    unfold Ar.list
    split
    · split
      · simp; exact A.list_len n _ _
      · exact Nat.zero_le _
    · exact Nat.zero_le _

theorem Ar.list_step {A : Ar} {n : Nat} {i j : Int} (h : i < j) (hc : (A.thing i).2.2 = 0) : A.list (n + 1) i j = i :: A.list n (i + 1 + (A.thing i).2.1) j := by
  rw [Ar.list, if_pos h, if_pos hc]
theorem Ar.list_end {A : Ar} {n : Nat} {i j : Int} (h : ¬ (i < j ∧ (A.thing i).2.2 = 0)) : A.list n i j = [] := by
  cases n with
  | zero => rfl
  | succ n =>
    rw [Ar.list]
    by_cases h1 : i < j
    · rw [if_pos h1, if_neg (fun h2 => h ⟨h1, h2⟩)]
    · rw [if_neg h1]

/-- Where things begin, of the nursery, of the old space. -/
def Ar.things (A : Ar) : List Int × List Int := (A.list 1300 0 A.yng, A.list 1300 A.nur A.grn)

end Go.Proofs.Ytjifdalflepcoab
