/-
  What things lead to, as it is shown: nodes numbered as they are met. No program in sight.
-/
import Derived.Test.YtjifdalflepcoabBase
namespace Go.Proofs.Ytjifdalflepcoab
set_option linter.unusedVariables false
set_option linter.unusedSimpArgs false

/-- A value: its kind (0 nil, 1 a number, 2 gone, 3 a thing), and its number. -/
abbrev Vl := Int × Int
/-- A node: its kind and fields. -/
abbrev Nd := Int × List Vl
/-- Of a thing its kind and fields. -/
abbrev Gr := Int → Nd
/-- What was met, in order, and the nodes. -/
abbrev VS := List Int × List Nd

/-- The thing of a number. -/
def refV (n : Nat) : Vl := (3, (n : Int))

/-- Fields, one behind the other. -/
def fldM (f : Vl → VS → Vl × VS) : List Vl → VS → List Vl × VS
  | [], s => ([], s)
  | v :: l, s => ((f v s).1 :: (fldM f l (f v s).2).1, (fldM f l (f v s).2).2)

/-- A value as it is shown. -/
def valM (G : Gr) : Nat → Vl → VS → Vl × VS
  | 0, v, s => if v.1 = 3 then (refV (s.1.idxOf v.2), s) else (v, s)
  | n + 1, v, s =>
    if v.1 = 3 then
      if v.2 ∈ s.1 then (refV (s.1.idxOf v.2), s)
      else
        let r := fldM (valM G n) (G v.2).2 (s.1 ++ [v.2], s.2 ++ [((G v.2).1, [])])
        (refV s.1.length, (r.2.1, r.2.2.set s.1.length ((G v.2).1, r.1)))
    else (v, s)

theorem valM_plain (G : Gr) (n : Nat) {v : Vl} (s : VS) (h : v.1 ≠ 3) : valM G n v s = (v, s) := by
  cases n <;> simp [valM, h]

theorem valM_met (G : Gr) (n : Nat) {v : Vl} {s : VS} (h : v.1 = 3) (hm : v.2 ∈ s.1) : valM G n v s = (refV (s.1.idxOf v.2), s) := by
  cases n <;> simp [valM, h, hm]

theorem valM_new (G : Gr) (n : Nat) {v : Vl} {s : VS} (h : v.1 = 3) (hm : ¬ v.2 ∈ s.1) : valM G (n + 1) v s =
    (refV s.1.length, ((fldM (valM G n) (G v.2).2 (s.1 ++ [v.2], s.2 ++ [((G v.2).1, [])])).2.1,
      (fldM (valM G n) (G v.2).2 (s.1 ++ [v.2], s.2 ++ [((G v.2).1, [])])).2.2.set s.1.length ((G v.2).1, (fldM (valM G n) (G v.2).2 (s.1 ++ [v.2], s.2 ++ [((G v.2).1, [])])).1))) := by
  simp [valM, h, hm]

theorem fldM_app (f : Vl → VS → Vl × VS) : ∀ (a b : List Vl) (s : VS), fldM f (a ++ b) s = ((fldM f a s).1 ++ (fldM f b (fldM f a s).2).1, (fldM f b (fldM f a s).2).2)
  | [], b, s => rfl
  | v :: a, b, s => by simp [fldM, fldM_app f a b]

theorem fldM_len (f : Vl → VS → Vl × VS) : ∀ (a : List Vl) (s : VS), (fldM f a s).1.length = a.length
  | [], _ => rfl
  | v :: a, s => by simp [fldM, fldM_len f a]

/-- How deep may it go: all things. -/
def deep : Nat := 5000

/-- What roots lead to. -/
def viewM (G : Gr) (roots : List Vl) : List Vl × List Nd := ((fldM (valM G deep) roots ([], [])).1, (fldM (valM G deep) roots ([], [])).2.2)

/-- The same things by other names. -/
def reV (φ : Int → Int) (v : Vl) : Vl := if v.1 = 3 then (3, φ v.2) else v

theorem reV_kind (φ : Int → Int) (v : Vl) : (reV φ v).1 = v.1 := by unfold reV; split <;> simp_all

/-- G, by other names φ, is H, of the things that P tells. -/
structure Iso (G H : Gr) (P : Int → Prop) (φ : Int → Int) : Prop where
  inj : ∀ i j, P i → P j → φ i = φ j → i = j
  same : ∀ i, P i → H (φ i) = ((G i).1, (G i).2.map (reV φ))
  shut : ∀ i, P i → ∀ v ∈ (G i).2, v.1 = 3 → P v.2

theorem idxOf_map {φ : Int → Int} {P : Int → Prop} (inj : ∀ i j, P i → P j → φ i = φ j → i = j) {x : Int} (hx : P x) : ∀ (l : List Int), (∀ i ∈ l, P i) → (l.map φ).idxOf (φ x) = l.idxOf x ∧ (φ x ∈ l.map φ ↔ x ∈ l)
  | [], _ => by simp
  | a :: l, h => by
    obtain ⟨h1, h2⟩ := idxOf_map inj hx l (fun i hi => h i (by simp [hi]))
    have ha := h a (by simp)
    by_cases e : a = x
    · subst e; simp
    · have e' : φ a ≠ φ x := fun e' => e (inj _ _ ha hx e')
      refine ⟨?_, ?_⟩
      · have b1 : (φ a == φ x) = false := by simpa using e'
        have b2 : (a == x) = false := by simpa using e
        rw [List.map_cons, List.idxOf_cons, List.idxOf_cons, h1, b1, b2]
      · rw [List.map_cons, List.mem_cons, List.mem_cons, h2]
        simp [Ne.symm e, Ne.symm e']

theorem valM_iso {G H : Gr} {P : Int → Prop} {φ : Int → Int} (I : Iso G H P φ) : ∀ (n : Nat) (v : Vl) (s : VS), (v.1 = 3 → P v.2) → (∀ i ∈ s.1, P i) →
    valM H n (reV φ v) (s.1.map φ, s.2) = ((valM G n v s).1, ((valM G n v s).2.1.map φ, (valM G n v s).2.2)) ∧ ∀ i ∈ (valM G n v s).2.1, P i := by
  intro n
  induction n with
  | zero =>
    intro v s hv hs
    by_cases h3 : v.1 = 3
    · have := idxOf_map I.inj (hv h3) s.1 hs
      simp only [valM, h3, reV, if_true, this.1]
      exact ⟨trivial, hs⟩
    · have e : reV φ v = v := by unfold reV; rw [if_neg h3]
      rw [valM_plain G _ _ h3, e, valM_plain H _ _ h3]
      exact ⟨rfl, hs⟩
  | succ n ih =>
    intro v s hv hs
    by_cases h3 : v.1 = 3
    · have hx := hv h3
      have hi := idxOf_map I.inj hx s.1 hs
      by_cases hm : v.2 ∈ s.1
      · rw [valM_met G _ h3 hm, valM_met H _ (by rw [reV_kind]; exact h3) (by simp only [reV, h3, if_true]; exact hi.2.2 hm)]
        simp only [reV, h3, if_true, hi.1]
        exact ⟨trivial, hs⟩
      · have fl : ∀ (l : List Vl) (s : VS), (∀ u ∈ l, u.1 = 3 → P u.2) → (∀ i ∈ s.1, P i) →
            fldM (valM H n) (l.map (reV φ)) (s.1.map φ, s.2) = ((fldM (valM G n) l s).1, ((fldM (valM G n) l s).2.1.map φ, (fldM (valM G n) l s).2.2)) ∧ ∀ i ∈ (fldM (valM G n) l s).2.1, P i := by
          intro l
          induction l with
          | nil => intro s _ hs; exact ⟨rfl, hs⟩
          | cons u l ihl =>
            intro s hl hs
            obtain ⟨h1, h2⟩ := ih u s (hl u (by simp)) hs
            obtain ⟨h4, h5⟩ := ihl (valM G n u s).2 (fun u hu => hl u (by simp [hu])) h2
            simp only [List.map_cons, fldM, h1]
            rw [h4]
            exact ⟨rfl, h5⟩
        have hs' : ∀ i ∈ s.1 ++ [v.2], P i := by
          intro i hi'
          rcases List.mem_append.1 hi' with h | h
          · exact hs i h
          · rw [List.mem_singleton.1 h]; exact hx
        obtain ⟨h1, h2⟩ := fl (G v.2).2 (s.1 ++ [v.2], s.2 ++ [((G v.2).1, [])]) (fun u hu => I.shut _ hx u hu) hs'
        have hmr : ¬ (reV φ v).2 ∈ s.1.map φ := by simp only [reV, h3, if_true]; exact fun h => hm (hi.2.1 h)
        have hr2 : (reV φ v).2 = φ v.2 := by simp [reV, h3]
        rw [valM_new G n h3 hm, valM_new H n (s := (s.1.map φ, s.2)) (by rw [reV_kind]; exact h3) hmr, hr2, I.same _ hx]
        simp only [List.map_append, List.map_cons, List.map_nil] at h1
        dsimp only
        rw [h1]
        simp only [List.length_map]
        exact ⟨trivial, h2⟩
    · rw [valM_plain G _ _ h3, valM_plain H _ _ (by rw [reV_kind]; exact h3)]
      have : reV φ v = v := by unfold reV; rw [if_neg h3]
      rw [this]
      exact ⟨rfl, hs⟩

theorem fldM_iso {G H : Gr} {P : Int → Prop} {φ : Int → Int} (I : Iso G H P φ) (n : Nat) : ∀ (l : List Vl) (s : VS), (∀ u ∈ l, u.1 = 3 → P u.2) → (∀ i ∈ s.1, P i) →
    fldM (valM H n) (l.map (reV φ)) (s.1.map φ, s.2) = ((fldM (valM G n) l s).1, ((fldM (valM G n) l s).2.1.map φ, (fldM (valM G n) l s).2.2)) ∧ ∀ i ∈ (fldM (valM G n) l s).2.1, P i
  | [], s, _, hs => ⟨rfl, hs⟩
  | u :: l, s, hl, hs => by
    obtain ⟨h1, h2⟩ := valM_iso I n u s (hl u (by simp)) hs
    obtain ⟨h4, h5⟩ := fldM_iso I n l (valM G n u s).2 (fun u hu => hl u (by simp [hu])) h2
    simp only [List.map_cons, fldM, h1]
    rw [h4]
    exact ⟨rfl, h5⟩

/-- The same things by other names are shown as the same. -/
theorem viewM_iso {G H : Gr} {P : Int → Prop} {φ : Int → Int} (I : Iso G H P φ) {roots : List Vl} (hr : ∀ u ∈ roots, u.1 = 3 → P u.2) : viewM H (roots.map (reV φ)) = viewM G roots := by
  have := (fldM_iso I deep roots ([], []) hr (by simp)).1
  unfold viewM
  simp only [List.map_nil] at this
  rw [this]

/-- Things that are seen alike. -/
theorem viewM_congr {G H : Gr} {P : Int → Prop} (same : ∀ i, P i → H i = G i) (shut : ∀ i, P i → ∀ v ∈ (G i).2, v.1 = 3 → P v.2) {roots : List Vl} (hr : ∀ u ∈ roots, u.1 = 3 → P u.2) : viewM H roots = viewM G roots := by
  have hid : ∀ l : List Vl, l.map (reV id) = l := by
    intro l
    have : reV id = id := by funext v; unfold reV; split <;> simp_all [Prod.ext_iff]
    rw [this]; simp
  have I : Iso G H P id := ⟨fun _ _ _ _ h => h, fun i hi => by simp only [id]; rw [same i hi, hid], shut⟩
  have := viewM_iso I hr
  rw [hid] at this
  exact this

/-- How many of U were not met yet. -/
def unM (U met : List Int) : Nat := (U.filter fun x => !met.contains x).length

end Go.Proofs.Ytjifdalflepcoab
