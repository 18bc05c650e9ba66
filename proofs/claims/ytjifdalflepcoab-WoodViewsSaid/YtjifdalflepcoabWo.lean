/-
  A wood, in plain words. No program in sight.
-/
import Derived.Test.YtjifdalflepcoabArenaP
import Derived.Test.YtjifdalflepcoabCardsP
import Derived.Test.YtjifdalflepcoabGraph2
namespace Go.Proofs.Ytjifdalflepcoab
set_option linter.unusedVariables false
set_option linter.unusedSimpArgs false

/-- Words, cards of the old space, roots, what is registered, what waits. -/
structure Wo where
  ar : Ar
  cd : List Bool
  rt : List Int
  rg : List (Int × Int)
  wt : List (Int × Int)

def R64e (e : Int × Int) : Prop := R64 e.1 ∧ R64 e.2

structure Wo.ok (O : Wo) : Prop where
  ha : O.ar.ok
  h12 : O.rt.length = 12
  hR : ∀ x ∈ O.rt, R64 x
  hg : ∀ e ∈ O.rg, R64e e
  hw : ∀ e ∈ O.wt, R64e e
  hq : O.rg.length + O.wt.length ≤ 24
  hc : O.cd.length ≤ 1000

def Wo.new (n o : Int) : Wo := ⟨Ar.new n o, List.replicate (cardsN o) false, List.replicate 12 2, [], []⟩

/-- The thing of a word: its place, kind, how many fields, a code. -/
def Ar.thingAt (A : Ar) (x : Int) : Int × Int × Int × Int := if x % 4 = 1 ∧ (A.thing (x / 4)).2.2 = 0 then (x / 4, (A.thing (x / 4)).1, (A.thing (x / 4)).2.1, 0) else (0, 0, 0, 2)

/-- A field; a code. -/
def Ar.get (A : Ar) (x i : Int) : Int × Int :=
  if (A.thingAt x).2.2.2 ≠ 0 ∨ (A.thingAt x).2.1 = 5 then (0, 2) else if i < 0 ∨ (A.thingAt x).2.2.1 ≤ i then (0, 1) else (A.load (x / 4 + 1 + i), 0)

def Wo.set (O : Wo) (x i y : Int) : Int × Wo :=
  if (O.ar.get x i).2 ≠ 0 then ((O.ar.get x i).2, O)
  else (0, { O with ar := O.ar.store (x / 4 + 1 + i) y, cd := if y % 4 = 1 ∧ (O.ar.store (x / 4 + 1 + i) y).young (y / 4) = true ∧ (O.ar.store (x / 4 + 1 + i) y).old (x / 4) = true then markL O.ar.nur O.cd (x / 4) else O.cd })

theorem Wo.set_no' {O : Wo} {x i y : Int} (hc : ¬ (O.ar.get x i).2 = 0) : O.set x i y = ((O.ar.get x i).2, O) := if_pos hc
theorem Wo.set_yes' {O : Wo} {x i y : Int} (hc : (O.ar.get x i).2 = 0) : O.set x i y = (0, { O with ar := O.ar.store (x / 4 + 1 + i) y, cd := if y % 4 = 1 ∧ (O.ar.store (x / 4 + 1 + i) y).young (y / 4) = true ∧ (O.ar.store (x / 4 + 1 + i) y).old (x / 4) = true then markL O.ar.nur O.cd (x / 4) else O.cd }) :=
  if_neg (fun h => h hc)

/-- A word as it is shown: a thing by its place. -/
def valO (x : Int) : Vl := if x % 4 = 1 then (3, x / 4) else ((decW x).1, (decW x).2.1)

/-- What waits at a guardian, by its word. -/
def waitO (wt : List (Int × Int)) (g : Int) : List Int := (wt.filter fun e => e.1 == g).map (·.2)

def Ar.fields (A : Ar) (at_ : Int) : List Int := (List.range (A.thing at_).2.1.toNat).map fun (j : Nat) => A.load (at_ + 1 + (j : Int))

/-- What things lead to. -/
def Wo.gr (O : Wo) : Gr := fun i => ((O.ar.thing i).1, (O.ar.fields i).map valO ++ if (O.ar.thing i).1 = 5 then (waitO O.wt (4 * i + 1)).map valO else [])

def Wo.view (O : Wo) : List Vl × List Nd := viewM O.gr (O.rt.map valO)

/-- Where words lead to. -/
def Wo.univ (O : Wo) : List Int := ((0 :: O.ar.ws) ++ O.rt ++ O.wt.map (·.2)).map (· / 4)

theorem Ar.load_mem {A : Ar} (h : A.ok) (i : Int) : A.load i = 0 ∨ A.load i ∈ A.ws := by
  unfold Ar.load
  split
  · rename_i hu
    have := h.use_lt hu
    right
    rw [List.getD_eq_getElem?_getD, List.getElem?_eq_getElem (by omega)]
    exact List.getElem_mem _
  · exact .inl rfl

theorem Wo.univ_load {O : Wo} (h : O.ok) (i : Int) : O.ar.load i / 4 ∈ O.univ := by
  unfold Wo.univ
  rcases Ar.load_mem h.ha i with e | e
  · rw [e]; exact List.mem_map.2 ⟨0, by simp, rfl⟩
  · exact List.mem_map.2 ⟨_, by simp [e], rfl⟩

theorem Wo.univ_root {O : Wo} {x : Int} (h : x ∈ O.rt) : x / 4 ∈ O.univ := List.mem_map.2 ⟨x, by simp [h], rfl⟩

theorem Wo.univ_wait {O : Wo} {x g : Int} (h : x ∈ waitO O.wt g) : x / 4 ∈ O.univ := by
  unfold waitO at h
  obtain ⟨e, he, rfl⟩ := List.mem_map.1 h
  exact List.mem_map.2 ⟨e.2, by simp only [List.mem_append, List.mem_map]; exact .inr ⟨e, (List.mem_filter.1 he).1, rfl⟩, rfl⟩

theorem valO_three {x : Int} (h : (valO x).1 = 3) : x % 4 = 1 ∧ (valO x).2 = x / 4 := by
  unfold valO at *
  by_cases h1 : x % 4 = 1
  · rw [if_pos h1]; exact ⟨h1, rfl⟩
  · rw [if_neg h1] at h
    dsimp only at h
    unfold decW at h
    exfalso
    repeat' split at h
    all_goals (dsimp only at h; omega)

theorem Wo.inU {O : Wo} (h : O.ok) : InU O.gr O.univ := by
  refine ⟨fun i _ v hv h3 => ?_⟩
  unfold Wo.gr at hv
  dsimp only at hv
  rcases List.mem_append.1 hv with h1 | h1
  · obtain ⟨x, hx, rfl⟩ := List.mem_map.1 h1
    rw [(valO_three h3).2]
    unfold Ar.fields at hx
    obtain ⟨j, _, rfl⟩ := List.mem_map.1 hx
    exact Wo.univ_load h _
  · split at h1
    · obtain ⟨x, hx, rfl⟩ := List.mem_map.1 h1
      rw [(valO_three h3).2]
      exact Wo.univ_wait hx
    · cases h1

theorem Wo.univ_le {O : Wo} (h : O.ok) : O.univ.length ≤ 1400 := by
  have h1 := h.ha.h4; have h2 := h.h12; have h3 := h.hq
  unfold Wo.univ
  simp
  omega

theorem Ar.store_len (A : Ar) (i x : Int) : (A.store i x).ws.length = A.ws.length := by unfold Ar.store; split <;> simp
theorem Ar.store_nur (A : Ar) (i x : Int) : (A.store i x).nur = A.nur := by unfold Ar.store; split <;> rfl
theorem Ar.store_yng (A : Ar) (i x : Int) : (A.store i x).yng = A.yng := by unfold Ar.store; split <;> rfl
theorem Ar.store_grn (A : Ar) (i x : Int) : (A.store i x).grn = A.grn := by unfold Ar.store; split <;> rfl

end Go.Proofs.Ytjifdalflepcoab
