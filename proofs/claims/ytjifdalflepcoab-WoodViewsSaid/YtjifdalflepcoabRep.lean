/-
  A wood and a world that are the same. No program in sight.
-/
import Derived.Test.YtjifdalflepcoabWo
import Derived.Test.YtjifdalflepcoabWdOk2
namespace Go.Proofs.Ytjifdalflepcoab
set_option linter.unusedVariables false
set_option linter.unusedSimpArgs false

/-- The word of a value, if things stand at φ. -/
def encV (φ : Int → Int) (v : Vl) : Int := if v.1 = 3 then 4 * φ v.2 + 1 else if v.1 = 1 then 4 * v.2 else if v.1 = 2 then 3 else 2

def encE (φ : Int → Int) (e : Int × Int) : Int × Int := (4 * φ e.1 + 1, 4 * φ e.2 + 1)

theorem encV_ref (φ : Int → Int) {v : Vl} (h : v.1 = 3) : encV φ v = 4 * φ v.2 + 1 := if_pos h

theorem encV_mod {W : Wd} {φ : Int → Int} {v : Vl} (h : W.okV v) : encV φ v % 4 = 1 ↔ v.1 = 3 := by
  rcases h with h | h | h | h
  · simp [encV, h.1]
  · simp [encV, h.1]
  · simp [encV, h.1]
  · simp only [encV, h.1, if_true, iff_true]; omega

theorem encV_plain {φ ψ : Int → Int} {v : Vl} (h : v.1 ≠ 3) : encV φ v = encV ψ v := by simp [encV, h]

theorem valO_encV {W : Wd} {φ : Int → Int} {v : Vl} (h : W.okV v) : valO (encV φ v) = reV φ v := by
  rcases h with h | h | h | h
  · have : v = (0, 0) := by cases v; simp_all
    subst this; rfl
  · have e : encV φ v = 4 * v.2 := by simp [encV, h.1]
    rw [e]
    have h1 : (4 * v.2) % 4 = 0 := by omega
    have h2 : (4 * v.2) / 4 = v.2 := by omega
    have := decW_int (x := 4 * v.2) h1 (by rw [h2]; exact h.2)
    unfold valO reV
    rw [if_neg (by omega), this, if_neg (by rw [h.1]; decide), h2]
    cases v; simp_all
  · have : v = (2, 0) := by cases v; simp_all
    subst this; rfl
  · have e : encV φ v = 4 * φ v.2 + 1 := encV_ref φ h.1
    rw [e]
    unfold valO reV
    rw [if_pos (by omega), if_pos h.1]
    congr 1; omega

/-- Things from a place up to another, without anything between. -/
def Tile (A : Ar) : List Int → Int → Int → Prop
  | [], a, b => a = b
  | p :: l, a, b => p = a ∧ (A.thing p).2.2 = 0 ∧ Tile A l (p + 1 + (A.thing p).2.1) b

theorem Tile.le {A : Ar} : ∀ {l : List Int} {a b : Int}, Tile A l a b → a ≤ b
  | [], a, b, h => by have : a = b := h; omega
  | p :: l, a, b, h => by
    have := Tile.le h.2.2
    have := A.thing_fields p
    have := h.1
    omega

theorem Tile.mem {A : Ar} : ∀ {l : List Int} {a b : Int}, Tile A l a b → ∀ p ∈ l, a ≤ p ∧ p + 1 + (A.thing p).2.1 ≤ b ∧ (A.thing p).2.2 = 0
  | q :: l, a, b, h, p, hp => by
    rcases List.mem_cons.1 hp with rfl | hp
    · have := Tile.le h.2.2
      have := h.1
      exact ⟨by omega, by omega, h.2.1⟩
    · have h1 := Tile.mem h.2.2 p hp
      have := A.thing_fields q
      have := h.1
      exact ⟨by omega, h1.2.1, h1.2.2⟩

theorem Tile.apart {A : Ar} : ∀ {l : List Int} {a b : Int}, Tile A l a b → l.Pairwise fun p q => p + 1 + (A.thing p).2.1 ≤ q
  | [], _, _, _ => List.Pairwise.nil
  | p :: l, a, b, h => List.Pairwise.cons (fun q hq => (Tile.mem h.2.2 q hq).1) (Tile.apart h.2.2)

theorem Tile.congr {A B : Ar} : ∀ {l : List Int} {a b : Int}, (∀ p ∈ l, B.thing p = A.thing p) → Tile A l a b → Tile B l a b
  | [], _, _, _, h => h
  | p :: l, a, b, hs, h => by
    refine ⟨h.1, ?_, ?_⟩
    · rw [hs p (by simp)]; exact h.2.1
    · rw [hs p (by simp)]; exact Tile.congr (fun q hq => hs q (by simp [hq])) h.2.2

theorem Tile.app {A : Ar} {m : List Int} {c : Int} : ∀ {l : List Int} {a b : Int}, Tile A l a b → Tile A m b c → Tile A (l ++ m) a c
  | [], a, b, h, k => by have : a = b := h; subst this; exact k
  | p :: l, a, b, h, k => ⟨h.1, h.2.1, Tile.app h.2.2 k⟩

theorem Tile.list {A : Ar} : ∀ {l : List Int} {a b : Int} {n : Nat}, Tile A l a b → (b - a).toNat ≤ n → A.list n a b = l
  | [], a, b, n, h, hn => by
    have : a = b := h
    subst this
    exact Ar.list_end (fun h => by omega)
  | p :: l, a, b, n, h, hn => by
    have hle := Tile.le h.2.2
    have hf := A.thing_fields p
    have he := h.1
    subst he
    obtain ⟨n, rfl⟩ : ∃ m, n = m + 1 := ⟨n - 1, by omega⟩
    rw [Ar.list_step (by omega) h.2.1, Tile.list h.2.2 (by omega)]

/-- How many words: of a tile. -/
theorem Tile.sum {A : Ar} : ∀ {l : List Int} {a b : Int}, Tile A l a b → b = a + (l.map fun p => 1 + (A.thing p).2.1).sum
  | [], a, b, h => by have : a = b := h; subst this; simp
  | p :: l, a, b, h => by
    have := Tile.sum h.2.2
    have := h.1
    simp only [List.map_cons, List.sum_cons]
    omega

theorem Ar.load_store {A : Ar} (h : A.ok) (p q x : Int) : (A.store p x).load q = if q = p ∧ A.inUse p = true then x else A.load q := by
  have hu : ∀ r, (A.store p x).inUse r = A.inUse r := fun r => by
    unfold Ar.inUse Ar.young Ar.old
    rw [A.store_yng, A.store_nur, A.store_grn]
  unfold Ar.load
  rw [hu]
  by_cases hp : A.inUse p = true
  · have hl := h.use_lt hp
    have e : A.store p x = { A with ws := A.ws.set p.toNat x } := by unfold Ar.store; rw [if_pos hp]
    by_cases hq : A.inUse q = true
    · have hlq := h.use_lt hq
      rw [if_pos hq, if_pos hq, e]
      show (A.ws.set p.toNat x).getD q.toNat 0 = _
      simp only [List.getD_eq_getElem?_getD, List.getElem?_set]
      by_cases e2 : q = p
      · subst e2; rw [if_pos rfl, if_pos (by omega), if_pos ⟨rfl, hp⟩]; rfl
      · rw [if_neg (by omega), if_neg (fun h => e2 h.1)]
    · rw [if_neg hq, if_neg hq, if_neg (fun hh => by rw [hh.1] at hq; exact hq hh.2)]
  · have e : A.store p x = A := by unfold Ar.store; rw [if_neg hp]
    rw [e, if_neg (fun hh : q = p ∧ A.inUse p = true => hp hh.2)]

end Go.Proofs.Ytjifdalflepcoab
