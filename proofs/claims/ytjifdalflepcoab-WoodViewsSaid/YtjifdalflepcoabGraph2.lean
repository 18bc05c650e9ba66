/-
  How deep it goes. No program in sight.
-/
import Derived.Test.YtjifdalflepcoabGraph
namespace Go.Proofs.Ytjifdalflepcoab
set_option linter.unusedVariables false
set_option linter.unusedSimpArgs false

theorem filter_le_of {p q : Int → Bool} (h : ∀ x, p x = true → q x = true) : ∀ U : List Int, (U.filter p).length ≤ (U.filter q).length
  | [] => Nat.le_refl _
  | a :: U => by
    have ih := filter_le_of h U
    simp only [List.filter_cons]
    split
    · rename_i h1; rw [if_pos (h a h1)]; simpa using ih
    · split
      · simp; omega
      · exact ih

theorem filter_lt_of {p q : Int → Bool} {x : Int} (h : ∀ x, p x = true → q x = true) (h1 : p x = false) (h2 : q x = true) : ∀ U : List Int, x ∈ U → (U.filter p).length < (U.filter q).length
  | [], hx => by cases hx
  | a :: U, hx => by
    have hle := filter_le_of h U
    simp only [List.filter_cons]
    rcases List.mem_cons.1 hx with rfl | hx
    · rw [if_neg (by rw [h1]; decide), if_pos h2]; simp; omega
    · have ih := filter_lt_of h h1 h2 U hx
      split
      · rename_i h3; rw [if_pos (h a h3)]; simpa using ih
      · split
        · simp; omega
        · exact ih

theorem unM_app (U a b : List Int) : unM U (a ++ b) ≤ unM U a :=
  filter_le_of (fun x hx => by simp at hx ⊢; exact hx.1) U

theorem unM_push {U met : List Int} {x : Int} (hx : x ∈ U) (hm : ¬ x ∈ met) : unM U (met ++ [x]) < unM U met :=
  filter_lt_of (fun y hy => by simp at hy ⊢; exact hy.1) (x := x) (by simp) (by simpa using hm) U hx

theorem unM_zero {U met : List Int} (h : unM U met = 0) {x : Int} (hx : x ∈ U) : x ∈ met := by
  by_cases hm : x ∈ met
  · exact hm
  · have := unM_push hx hm; omega

theorem unM_nil (U : List Int) : unM U [] ≤ U.length := List.length_filter_le _ _

/-- What is met stays met. -/
theorem fldM_pre {f : Vl → VS → Vl × VS} (hf : ∀ v s, ∃ m, (f v s).2.1 = s.1 ++ m) : ∀ (l : List Vl) (s : VS), ∃ m, (fldM f l s).2.1 = s.1 ++ m
  | [], s => ⟨[], by simp [fldM]⟩
  | v :: l, s => by
    obtain ⟨m, h⟩ := hf v s
    obtain ⟨m', h'⟩ := fldM_pre hf l (f v s).2
    exact ⟨m ++ m', by simp only [fldM]; rw [h', h]; simp⟩

theorem valM_pre (G : Gr) : ∀ (n : Nat) (v : Vl) (s : VS), ∃ m, (valM G n v s).2.1 = s.1 ++ m := by
  intro n
  induction n with
  | zero => intro v s; refine ⟨[], ?_⟩; simp only [valM]; split <;> simp
  | succ n ih =>
    intro v s
    by_cases h3 : v.1 = 3
    · by_cases hm : v.2 ∈ s.1
      · exact ⟨[], by rw [valM_met G _ h3 hm]; simp⟩
      · obtain ⟨m, h⟩ := fldM_pre ih (G v.2).2 (s.1 ++ [v.2], s.2 ++ [((G v.2).1, [])])
        exact ⟨[v.2] ++ m, by rw [valM_new G n h3 hm]; dsimp only; rw [h]; simp⟩
    · exact ⟨[], by rw [valM_plain G _ _ h3]; simp⟩

/-- All refs lead to U. -/
structure InU (G : Gr) (U : List Int) : Prop where
  shut : ∀ i ∈ U, ∀ v ∈ (G i).2, v.1 = 3 → v.2 ∈ U

theorem fldM_congr {f g : Vl → VS → Vl × VS} {U : List Int} {n : Nat} (hf : ∀ v s, ∃ m, (f v s).2.1 = s.1 ++ m) (h : ∀ v s, (v.1 = 3 → v.2 ∈ U) → unM U s.1 ≤ n → g v s = f v s) :
    ∀ (l : List Vl) (s : VS), (∀ v ∈ l, v.1 = 3 → v.2 ∈ U) → unM U s.1 ≤ n → fldM g l s = fldM f l s
  | [], s, _, _ => rfl
  | v :: l, s, hl, hn => by
    have h1 := h v s (hl v (by simp)) hn
    obtain ⟨m, hm⟩ := hf v s
    have := unM_app U s.1 m
    simp only [fldM, h1]
    rw [fldM_congr hf h l _ (fun u hu => hl u (by simp [hu])) (by rw [hm]; omega)]

theorem valM_fuel {G : Gr} {U : List Int} (I : InU G U) : ∀ (n : Nat) (v : Vl) (s : VS), (v.1 = 3 → v.2 ∈ U) → unM U s.1 ≤ n → valM G (n + 1) v s = valM G n v s := by
  intro n
  induction n with
  | zero =>
    intro v s hv hn
    by_cases h3 : v.1 = 3
    · have hm := unM_zero (Nat.le_zero.1 hn) (hv h3)
      rw [valM_met G _ h3 hm, valM_met G _ h3 hm]
    · rw [valM_plain G _ _ h3, valM_plain G _ _ h3]
  | succ n ih =>
    intro v s hv hn
    by_cases h3 : v.1 = 3
    · by_cases hm : v.2 ∈ s.1
      · rw [valM_met G _ h3 hm, valM_met G _ h3 hm]
      · have hu := unM_push (hv h3) hm
        have := fldM_congr (valM_pre G n) (g := valM G (n + 1)) (U := U) (n := n) ih (G v.2).2 (s.1 ++ [v.2], s.2 ++ [((G v.2).1, [])]) (I.shut _ (hv h3)) (Nat.le_of_lt_succ (Nat.lt_of_lt_of_le hu hn))
        rw [valM_new G (n + 1) h3 hm, valM_new G n h3 hm, this]
    · rw [valM_plain G _ _ h3, valM_plain G _ _ h3]

theorem valM_deep {G : Gr} {U : List Int} (I : InU G U) {n : Nat} {v : Vl} {s : VS} (hv : v.1 = 3 → v.2 ∈ U) (hn : unM U s.1 ≤ n) (k : Nat) : valM G (n + k) v s = valM G n v s := by
  induction k with
  | zero => rfl
  | succ k ih => rw [← Nat.add_assoc, valM_fuel I _ v s hv (by omega), ih]

theorem fldM_deep {G : Gr} {U : List Int} (I : InU G U) {n m : Nat} {l : List Vl} {s : VS} (hl : ∀ v ∈ l, v.1 = 3 → v.2 ∈ U) (hn : unM U s.1 ≤ n) (hm : n ≤ m) : fldM (valM G m) l s = fldM (valM G n) l s := by
  obtain ⟨k, rfl⟩ := Nat.exists_eq_add_of_le hm
  exact fldM_congr (valM_pre G n) (fun v s hv hn => valM_deep I hv hn k) l s hl hn

/-- As many nodes as were met. -/
theorem fldM_nodes {f : Vl → VS → Vl × VS} (hf : ∀ v s, s.2.length = s.1.length → (f v s).2.2.length = (f v s).2.1.length) : ∀ (l : List Vl) (s : VS), s.2.length = s.1.length → (fldM f l s).2.2.length = (fldM f l s).2.1.length
  | [], s, h => h
  | v :: l, s, h => fldM_nodes hf l _ (hf v s h)

theorem valM_nodes (G : Gr) : ∀ (n : Nat) (v : Vl) (s : VS), s.2.length = s.1.length → (valM G n v s).2.2.length = (valM G n v s).2.1.length := by
  intro n
  induction n with
  | zero => intro v s h; simp only [valM]; split <;> exact h
  | succ n ih =>
    intro v s h
    by_cases h3 : v.1 = 3
    · by_cases hm : v.2 ∈ s.1
      · rw [valM_met G _ h3 hm]; exact h
      · rw [valM_new G n h3 hm]
        simp only [List.length_set]
        exact fldM_nodes ih _ _ (by simp [h])
    · rw [valM_plain G _ _ h3]; exact h

/-- No more are met than there are. -/
theorem fldM_count {f : Vl → VS → Vl × VS} {U : List Int} (hf : ∀ v s, (v.1 = 3 → v.2 ∈ U) → (f v s).2.1.length + unM U (f v s).2.1 ≤ s.1.length + unM U s.1) :
    ∀ (l : List Vl) (s : VS), (∀ v ∈ l, v.1 = 3 → v.2 ∈ U) → (fldM f l s).2.1.length + unM U (fldM f l s).2.1 ≤ s.1.length + unM U s.1
  | [], s, _ => Nat.le_refl _
  | v :: l, s, hl => Nat.le_trans (fldM_count hf l _ (fun u hu => hl u (by simp [hu]))) (hf v s (hl v (by simp)))

theorem valM_count {G : Gr} {U : List Int} (I : InU G U) : ∀ (n : Nat) (v : Vl) (s : VS), (v.1 = 3 → v.2 ∈ U) → (valM G n v s).2.1.length + unM U (valM G n v s).2.1 ≤ s.1.length + unM U s.1 := by
  intro n
  induction n with
  | zero => intro v s _; simp only [valM]; split <;> exact Nat.le_refl _
  | succ n ih =>
    intro v s hv
    by_cases h3 : v.1 = 3
    · by_cases hm : v.2 ∈ s.1
      · rw [valM_met G _ h3 hm]; exact Nat.le_refl _
      · rw [valM_new G n h3 hm]
        have := fldM_count (f := valM G n) ih (G v.2).2 (s.1 ++ [v.2], s.2 ++ [((G v.2).1, [])]) (I.shut _ (hv h3))
        have hp := unM_push (hv h3) hm
        simp only [List.length_append, List.length_cons, List.length_nil] at this
        dsimp only
        omega
    · rw [valM_plain G _ _ h3]; exact Nat.le_refl _

/-- Nodes that were there stay. -/
theorem fldM_keepN {f : Vl → VS → Vl × VS} (hl : ∀ v s, s.2.length = s.1.length → (f v s).2.2.length = (f v s).2.1.length) (hp : ∀ v s, ∃ m, (f v s).2.1 = s.1 ++ m)
    (hf : ∀ v s, s.2.length = s.1.length → ∀ i, i < s.1.length → (f v s).2.2[i]? = s.2[i]?) : ∀ (l : List Vl) (s : VS), s.2.length = s.1.length → ∀ i, i < s.1.length → (fldM f l s).2.2[i]? = s.2[i]?
  | [], s, _, i, _ => rfl
  | v :: l, s, h, i, hi => by
    obtain ⟨m, hm⟩ := hp v s
    have := fldM_keepN hl hp hf l (f v s).2 (hl v s h) i (by rw [hm]; simp; omega)
    simp only [fldM]
    rw [this, hf v s h i hi]

theorem valM_keepN (G : Gr) : ∀ (n : Nat) (v : Vl) (s : VS), s.2.length = s.1.length → ∀ i, i < s.1.length → (valM G n v s).2.2[i]? = s.2[i]? := by
  intro n
  induction n with
  | zero => intro v s _ i _; simp only [valM]; split <;> rfl
  | succ n ih =>
    intro v s h i hi
    by_cases h3 : v.1 = 3
    · by_cases hm : v.2 ∈ s.1
      · rw [valM_met G _ h3 hm]
      · rw [valM_new G n h3 hm]
        dsimp only
        rw [List.getElem?_set_ne (by omega)]
        have := fldM_keepN (valM_nodes G n) (valM_pre G n) ih (G v.2).2 (s.1 ++ [v.2], s.2 ++ [((G v.2).1, [])]) (by simp [h]) i (by simp; omega)
        rw [this]
        dsimp only
        rw [List.getElem?_append_left (by omega)]
    · rw [valM_plain G _ _ h3]

end Go.Proofs.Ytjifdalflepcoab
