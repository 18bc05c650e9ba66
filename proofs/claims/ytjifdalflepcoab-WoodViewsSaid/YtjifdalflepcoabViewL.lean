/-
  What a view tells: the things that were met, by their numbers. No program in sight.
-/
import Derived.Test.YtjifdalflepcoabGraph2
namespace Go.Proofs.Ytjifdalflepcoab
set_option linter.unusedVariables false
set_option linter.unusedSimpArgs false

/-- A value, by the number that its thing has among what was met. -/
def numV (M : List Int) (v : Vl) : Vl := reV (fun x => ((M.idxOf x : Nat) : Int)) v

def numN (M : List Int) (n : Nd) : Nd := (n.1, n.2.map (numV M))

theorem numV_app {M m : List Int} {v : Vl} (h : v.1 = 3 → v.2 ∈ M) : numV (M ++ m) v = numV M v := by
  unfold numV reV
  by_cases h3 : v.1 = 3
  · rw [if_pos h3, if_pos h3]
    dsimp only
    rw [List.idxOf_append, if_pos (h h3)]
  · rw [if_neg h3, if_neg h3]

theorem numV_map_app {M m : List Int} {l : List Vl} (h : ∀ v ∈ l, v.1 = 3 → v.2 ∈ M) : l.map (numV (M ++ m)) = l.map (numV M) :=
  List.map_congr_left fun v hv => numV_app (h v hv)

/-- Behind a step: the new ones are told, all that they lead to was met. -/
structure Told (G : Gr) (L : List Vl) (s s' : VS) : Prop where
  pre : ∃ m, s'.1 = s.1 ++ m
  len : s'.2.length = s'.1.length
  nodup : s.1.Nodup → s'.1.Nodup
  met : ∀ v ∈ L, v.1 = 3 → v.2 ∈ s'.1
  shut : ∀ (k : Nat) (x : Int), s.1.length ≤ k → s'.1[k]? = some x → ∀ v ∈ (G x).2, v.1 = 3 → v.2 ∈ s'.1
  node : ∀ (k : Nat) (x : Int), s.1.length ≤ k → s'.1[k]? = some x → s'.2[k]? = some (numN s'.1 (G x))
  keep : ∀ k, k < s.1.length → s'.2[k]? = s.2[k]?
  led : ∀ (k : Nat) (x : Int), s.1.length ≤ k → s'.1[k]? = some x → ((3, x) : Vl) ∈ L ∨ ∃ (j : Nat) (y : Int), s.1.length ≤ j ∧ j < k ∧ s'.1[j]? = some y ∧ ((3, x) : Vl) ∈ (G y).2

theorem Told.refl (G : Gr) {L : List Vl} {s : VS} (hl : s.2.length = s.1.length) (hm : ∀ v ∈ L, v.1 = 3 → v.2 ∈ s.1) : Told G L s s :=
  have no : ∀ (k : Nat) (x : Int), s.1.length ≤ k → s.1[k]? = some x → False := fun k x h1 h2 => by
    rw [List.getElem?_eq_none h1] at h2; cases h2
  ⟨⟨[], by simp⟩, hl, fun h => h, hm, fun k x h1 h2 => (no k x h1 h2).elim, fun k x h1 h2 => (no k x h1 h2).elim, fun _ _ => rfl, fun k x h1 h2 => (no k x h1 h2).elim⟩

theorem getElem?_pre {α : Type} {a m : List α} {k : Nat} (h : k < a.length) : (a ++ m)[k]? = a[k]? := List.getElem?_append_left h

theorem Told.then {G : Gr} {L L' : List Vl} {s t u : VS} (A : Told G L s t) (B : Told G L' t u) : Told G (L ++ L') s u := by
  obtain ⟨m, hm⟩ := A.pre
  obtain ⟨m', hm'⟩ := B.pre
  have hsub : ∀ x ∈ t.1, x ∈ u.1 := fun x hx => by rw [hm']; simp [hx]
  have ht : s.1.length ≤ t.1.length := by rw [hm]; simp
  refine ⟨⟨m ++ m', by rw [hm', hm]; simp⟩, B.len, fun h => B.nodup (A.nodup h), fun v hv h3 => ?_, fun k x hk hx v hv h3 => ?_, fun k x hk hx => ?_, fun k hk => ?_, fun k x hk hx => ?_⟩
  · rcases List.mem_append.1 hv with h | h
    · exact hsub _ (A.met v h h3)
    · exact B.met v h h3
  · by_cases hlt : k < t.1.length
    · rw [hm', getElem?_pre hlt] at hx
      exact hsub _ (A.shut k x hk hx v hv h3)
    · exact B.shut k x (by omega) hx v hv h3
  · by_cases hlt : k < t.1.length
    · have hx' : t.1[k]? = some x := by rw [hm', getElem?_pre hlt] at hx; exact hx
      rw [B.keep k hlt, A.node k x hk hx']
      unfold numN
      rw [hm', numV_map_app (A.shut k x hk hx')]
    · exact B.node k x (by omega) hx
  · rw [B.keep k (by omega), A.keep k hk]
  · by_cases hlt : k < t.1.length
    · have hx' : t.1[k]? = some x := by rw [hm', getElem?_pre hlt] at hx; exact hx
      rcases A.led k x hk hx' with h | ⟨j, y, h1, h0, h2, h3⟩
      · exact .inl (by simp [h])
      · exact .inr ⟨j, y, h1, h0, by rw [hm', getElem?_pre (by omega)]; exact h2, h3⟩
    · rcases B.led k x (by omega) hx with h | ⟨j, y, h1, h0, h2, h3⟩
      · exact .inl (by simp [h])
      · exact .inr ⟨j, y, by omega, h0, h2, h3⟩

theorem fldM_told {G : Gr} {U : List Int} {n : Nat} {f : Vl → VS → Vl × VS}
    (h : ∀ v s, (v.1 = 3 → v.2 ∈ U) → unM U s.1 ≤ n → s.2.length = s.1.length → Told G [v] s (f v s).2 ∧ (f v s).1 = numV (f v s).2.1 v) :
    ∀ (l : List Vl) (s : VS), (∀ v ∈ l, v.1 = 3 → v.2 ∈ U) → unM U s.1 ≤ n → s.2.length = s.1.length → Told G l s (fldM f l s).2 ∧ (fldM f l s).1 = l.map (numV (fldM f l s).2.1)
  | [], s, _, _, hl => ⟨Told.refl G hl (fun v hv => by cases hv), rfl⟩
  | v :: l, s, hL, hn, hl => by
    obtain ⟨A, e⟩ := h v s (hL v (by simp)) hn hl
    obtain ⟨m, hm⟩ := A.pre
    have := unM_app U s.1 m
    obtain ⟨B, e2⟩ := fldM_told h l (f v s).2 (fun u hu => hL u (by simp [hu])) (by rw [hm]; omega) A.len
    refine ⟨A.then B, ?_⟩
    simp only [fldM, List.map_cons]
    obtain ⟨m', hm'⟩ := B.pre
    have h1 : numV (fldM f l (f v s).2).2.1 v = numV (f v s).2.1 v := by rw [hm']; exact numV_app (A.met v (by simp))
    rw [h1, ← e, ← e2]

theorem valM_told {G : Gr} {U : List Int} (I : InU G U) : ∀ (n : Nat) (v : Vl) (s : VS), (v.1 = 3 → v.2 ∈ U) → unM U s.1 ≤ n → s.2.length = s.1.length →
    Told G [v] s (valM G n v s).2 ∧ (valM G n v s).1 = numV (valM G n v s).2.1 v := by
  intro n
  induction n with
  | zero =>
    intro v s hv hn hl
    by_cases h3 : v.1 = 3
    · have hm := unM_zero (Nat.le_zero.1 hn) (hv h3)
      rw [valM_met G _ h3 hm]
      refine ⟨Told.refl G hl (fun u hu h => by rw [List.mem_singleton.1 hu]; exact hm), ?_⟩
      simp [numV, reV, h3, refV]
    · rw [valM_plain G _ _ h3]
      exact ⟨Told.refl G hl (fun u hu h => absurd (by rw [← List.mem_singleton.1 hu]; exact h) h3), by simp [numV, reV, h3]⟩
  | succ n ih =>
    intro v s hv hn hl
    by_cases h3 : v.1 = 3
    · by_cases hm : v.2 ∈ s.1
      · rw [valM_met G _ h3 hm]
        refine ⟨Told.refl G hl (fun u hu h => by rw [List.mem_singleton.1 hu]; exact hm), ?_⟩
        simp [numV, reV, h3, refV]
      · have hu := unM_push (hv h3) hm
        obtain ⟨A, e⟩ := fldM_told ih (G v.2).2 (s.1 ++ [v.2], s.2 ++ [((G v.2).1, [])]) (I.shut _ (hv h3)) (Nat.le_of_lt_succ (Nat.lt_of_lt_of_le hu hn)) (by simp [hl])
        obtain ⟨m, hmm⟩ := A.pre
        dsimp only at hmm
        rw [valM_new G n h3 hm]
        have hat : (fldM (valM G n) (G v.2).2 (s.1 ++ [v.2], s.2 ++ [((G v.2).1, [])])).2.1[s.1.length]? = some v.2 := by rw [hmm]; simp
        have hlt : s.1.length < (fldM (valM G n) (G v.2).2 (s.1 ++ [v.2], s.2 ++ [((G v.2).1, [])])).2.1.length := by rw [hmm]; simp
        refine ⟨⟨⟨v.2 :: m, by dsimp only; rw [hmm]; simp⟩, by dsimp only; rw [List.length_set]; exact A.len, fun h => A.nodup (by
            rw [List.nodup_append]
            exact ⟨h, by simp, fun a ha b hb e => hm (by rw [← List.mem_singleton.1 hb, ← e]; exact ha)⟩), fun u hu h => ?_, fun k x hk hx u hu h => ?_, fun k x hk hx => ?_, fun k hk => ?_, fun k x hk hx => ?_⟩, ?_⟩
        · rw [List.mem_singleton.1 hu]; dsimp only; rw [hmm]; simp
        · by_cases he : k = s.1.length
          · subst he
            dsimp only at hx ⊢
            rw [hat] at hx; cases hx
            exact A.met u hu h
          · exact A.shut k x (by simp; omega) hx u hu h
        · dsimp only at hx ⊢
          by_cases he : k = s.1.length
          · subst he
            rw [hat] at hx; cases hx
            rw [List.getElem?_set_self (by rw [A.len]; exact hlt)]
            unfold numN
            rw [← e]
          · rw [List.getElem?_set_ne (by omega)]
            exact A.node k x (by simp; omega) hx
        · dsimp only
          rw [List.getElem?_set_ne (by omega), A.keep k (by simp; omega)]
          dsimp only
          rw [List.getElem?_append_left (by omega)]
        · dsimp only at hx ⊢
          by_cases he : k = s.1.length
          · subst he
            rw [hat] at hx; cases hx
            left
            rw [List.mem_singleton, ← h3]
          · right
            rcases A.led k x (by simp; omega) hx with h | ⟨j, y, h1, h0, h2, h4⟩
            · exact ⟨s.1.length, v.2, Nat.le_refl _, by omega, hat, h⟩
            · exact ⟨j, y, by simp at h1; omega, h0, h2, h4⟩
        · dsimp only
          unfold numV reV
          rw [if_pos h3, hmm]
          dsimp only
          rw [List.idxOf_append, if_pos (by simp), List.idxOf_append, if_neg hm]
          simp [refV]
    · rw [valM_plain G _ _ h3]
      exact ⟨Told.refl G hl (fun u hu h => absurd (by rw [← List.mem_singleton.1 hu]; exact h) h3), by simp [numV, reV, h3]⟩

/-- What roots lead to, in the order in which it is met. -/
def metM (G : Gr) (roots : List Vl) : List Int := (fldM (valM G deep) roots ([], [])).2.1

/-- A view is what is seen. -/
theorem viewM_told {G : Gr} {U : List Int} (I : InU G U) (hU : U.length ≤ deep) {roots : List Vl} (hr : ∀ v ∈ roots, v.1 = 3 → v.2 ∈ U) :
    viewM G roots = (roots.map (numV (metM G roots)), (metM G roots).map fun x => numN (metM G roots) (G x)) ∧ (metM G roots).Nodup ∧ (∀ v ∈ roots, v.1 = 3 → v.2 ∈ metM G roots) ∧
    (∀ x ∈ metM G roots, ∀ v ∈ (G x).2, v.1 = 3 → v.2 ∈ metM G roots) ∧ ∀ (k : Nat) (x : Int), (metM G roots)[k]? = some x → ((3, x) : Vl) ∈ roots ∨ ∃ (j : Nat) (y : Int), j < k ∧ (metM G roots)[j]? = some y ∧ ((3, x) : Vl) ∈ (G y).2 := by
  obtain ⟨A, e⟩ := fldM_told (valM_told I deep) roots ([], []) hr (Nat.le_trans (unM_nil U) hU) rfl
  unfold viewM
  have hM : metM G roots = (fldM (valM G deep) roots ([], [])).2.1 := rfl
  rw [← hM] at e
  refine ⟨Prod.ext e ?_, A.nodup (by simp), A.met, fun x hx v hv h3 => ?_, fun k x hx => ?_⟩
  · refine List.ext_getElem? fun k => ?_
    dsimp only
    rw [List.getElem?_map, hM]
    cases hk : (fldM (valM G deep) roots ([], [])).2.1[k]? with
    | none =>
      rw [List.getElem?_eq_none_iff] at hk
      rw [List.getElem?_eq_none (by rw [A.len]; exact hk)]; rfl
    | some x => rw [A.node k x (by simp) hk]; rfl
  · obtain ⟨k, hk, rfl⟩ := List.mem_iff_getElem.1 hx
    exact A.shut k _ (by simp) (List.getElem?_eq_getElem hk) v hv h3
  · rcases A.led k x (by simp) hx with h | ⟨j, y, h1, h0, h2, h3⟩
    · exact .inl h
    · exact .inr ⟨j, y, h0, h2, h3⟩

theorem viewM_len {G : Gr} {roots : List Vl} : (viewM G roots).1.length = roots.length := by unfold viewM; exact fldM_len _ _ _

end Go.Proofs.Ytjifdalflepcoab
