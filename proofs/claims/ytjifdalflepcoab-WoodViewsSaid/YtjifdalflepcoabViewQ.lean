/-
  What the view of a world tells: of nodes, and of what leads to them. No program in sight.
-/
import Derived.Test.YtjifdalflepcoabRep3
namespace Go.Proofs.Ytjifdalflepcoab
set_option linter.unusedVariables false
set_option linter.unusedSimpArgs false

section
variable {W : Wd}

/-- All that is live. -/
def Wd.all (W : Wd) : List Int := W.idx false ++ W.idx true

theorem Wd.mem_all {i : Int} : i ∈ W.all ↔ W.live i := by
  unfold Wd.all
  rw [List.mem_append, Wd.mem_idx, Wd.mem_idx]
  constructor
  · rintro (h | h) <;> exact h.1
  · intro h; cases ho : (W.th i).old
    · exact .inl ⟨h, rfl⟩
    · exact .inr ⟨h, rfl⟩

theorem Wd.gr_refs (h : W.ok) {i : Int} (hi : W.live i) {v : Vl} (hv : v ∈ (W.gr i).2) (h3 : v.1 = 3) : W.live v.2 := by
  unfold Wd.gr at hv
  dsimp only at hv
  rcases List.mem_append.1 hv with h1 | h1
  · exact Wd.okV_ref (h.tv i hi v h1) h3
  · split at h1
    · obtain ⟨x, hx, rfl⟩ := List.mem_map.1 h1
      unfold waitAt at hx
      obtain ⟨e, he, rfl⟩ := List.mem_map.1 hx
      exact (h.wv e (List.mem_filter.1 he).1).2.2
    · cases h1

theorem Wd.inU (h : W.ok) : InU W.gr W.all := ⟨fun i hi v hv h3 => Wd.mem_all.2 (Wd.gr_refs h (Wd.mem_all.1 hi) hv h3)⟩

theorem idx_len (W : Wd) (b : Bool) : (W.idx b).length ≤ W.T.length := by
  unfold Wd.idx
  exact Nat.le_trans (List.length_filter_le _ _) (by simp)

/-- No more live things than words. -/
theorem Wd.all_len (h : W.ok) : W.all.length ≤ 1300 := by
  have key : ∀ b, ((W.idx b).length : Int) ≤ ((W.idx b).map fun i => (W.th i).words).sum := fun b => by
    generalize W.idx b = l
    induction l with
    | nil => simp
    | cons a l ih =>
      have hw : (W.th a).words = 1 + ((W.th a).fs.length : Int) := rfl
      simp only [List.length_cons, List.map_cons, List.sum_cons]; omega
  have h1 := key false; have h2 := key true
  rw [Wd.sum_idx] at h1 h2
  have e1 : (sumW W.T fun t => !t.dead && (t.old == false)) = W.young := by unfold Wd.young; congr 1; funext t; cases t.old <;> rfl
  have e2 : (sumW W.T fun t => !t.dead && (t.old == true)) = W.olds := by unfold Wd.olds; congr 1; funext t; cases t.old <;> rfl
  rw [e1] at h1; rw [e2] at h2
  have := h.uy; have := h.uo; have := h.m2; have := h.g2
  unfold Wd.all
  rw [List.length_append]
  omega

def Wd.met (W : Wd) : List Int := metM W.gr W.roots

structure Seen (W : Wd) : Prop where
  eq : W.view = (W.roots.map (numV W.met), W.met.map fun x => numN W.met (W.gr x))
  nd : W.met.Nodup
  rt : ∀ v ∈ W.roots, v.1 = 3 → v.2 ∈ W.met
  fd : ∀ x ∈ W.met, ∀ v ∈ (W.gr x).2, v.1 = 3 → v.2 ∈ W.met
  led : ∀ (k : Nat) (x : Int), W.met[k]? = some x → ((3, x) : Vl) ∈ W.roots ∨ ∃ (j : Nat) (y : Int), j < k ∧ W.met[j]? = some y ∧ ((3, x) : Vl) ∈ (W.gr y).2
  lv : ∀ x ∈ W.met, W.live x

theorem Wd.seen (h0 : W.ok) : Seen W := by
  have h := h0
  have hr : ∀ v ∈ W.roots, v.1 = 3 → v.2 ∈ W.all := fun v hv h3 => Wd.mem_all.2 (Wd.okV_ref (h.rv v hv) h3)
  obtain ⟨h1, h2, h3, h4, h5⟩ := viewM_told (Wd.inU h) (by have := Wd.all_len h; unfold deep; omega) hr
  refine ⟨h1, h2, h3, h4, h5, ?_⟩
  have key : ∀ (k : Nat) (x : Int), W.met[k]? = some x → W.live x := by
    intro k
    induction k using Nat.strongRecOn with
    | _ k ih =>
      intro x hx
      rcases h5 k x hx with h | ⟨j, y, hj, hy, hm⟩
      · exact Wd.okV_ref (h0.rv _ h) rfl
      · exact Wd.gr_refs h0 (ih j hj y hy) hm rfl
  intro x hx
  obtain ⟨k, hk, rfl⟩ := List.mem_iff_getElem.1 hx
  exact key k _ (List.getElem?_eq_getElem hk)

theorem Seen.num (S : Seen W) {v : Vl} (h : v.1 = 3 → v.2 ∈ W.met) (h3 : (numV W.met v).1 = 3) : 0 ≤ (numV W.met v).2 ∧ (numV W.met v).2 < W.met.length := by
  unfold numV at *
  rw [reV_kind] at h3
  unfold reV
  rw [if_pos h3]
  dsimp only
  have := List.idxOf_lt_length_of_mem (h h3)
  omega

/-- A view's values lead to its nodes. -/
theorem Seen.refs (S : Seen W) : (∀ v ∈ W.view.1, v.1 = 3 → 0 ≤ v.2 ∧ v.2 < W.view.2.length) ∧ ∀ n ∈ W.view.2, ∀ v ∈ n.2, v.1 = 3 → 0 ≤ v.2 ∧ v.2 < W.view.2.length := by
  rw [S.eq]
  dsimp only
  rw [List.length_map]
  constructor
  · intro v hv h3
    obtain ⟨u, hu, rfl⟩ := List.mem_map.1 hv
    exact S.num (S.rt u hu) h3
  · intro n hn v hv h3
    obtain ⟨x, hx, rfl⟩ := List.mem_map.1 hn
    unfold numN at hv
    obtain ⟨u, hu, rfl⟩ := List.mem_map.1 hv
    exact S.num (S.fd x hx u hu) h3

theorem idxOf_nodup : ∀ {l : List Int} (h : l.Nodup) {k : Nat} {x : Int} (hk : l[k]? = some x), l.idxOf x = k
  | a :: l, h, 0, x, hk => by simp at hk; subst hk; simp
  | a :: l, h, k + 1, x, hk => by
    rw [List.nodup_cons] at h
    rw [List.getElem?_cons_succ] at hk
    have hx := List.mem_of_getElem? hk
    have hne : (a == x) = false := by
      rw [beq_eq_false_iff_ne]
      rintro rfl
      exact h.1 hx
    rw [List.idxOf_cons, hne, idxOf_nodup h.2 hk]
    rfl

/-- Each node is led to, by a root, or by a node ahead of it. -/
theorem Seen.ledV (S : Seen W) (k : Nat) (hk : k < W.view.2.length) : ((3, (k : Int)) : Vl) ∈ W.view.1 ∨ ∃ (j : Nat) (n : Nd), j < k ∧ W.view.2[j]? = some n ∧ ((3, (k : Int)) : Vl) ∈ n.2 := by
  rw [S.eq] at hk ⊢
  dsimp only at hk ⊢
  rw [List.length_map] at hk
  have hx := List.getElem?_eq_getElem hk
  have e : numV W.met (3, W.met[k]) = (3, (k : Int)) := by
    unfold numV reV
    rw [if_pos rfl]
    dsimp only
    rw [idxOf_nodup S.nd hx]
  rcases S.led k _ hx with h | ⟨j, y, hj, hy, hm⟩
  · exact .inl (List.mem_map.2 ⟨_, h, e⟩)
  · refine .inr ⟨j, numN W.met (W.gr y), hj, by rw [List.getElem?_map, hy]; rfl, ?_⟩
    unfold numN
    exact List.mem_map.2 ⟨_, hm, e⟩

theorem Seen.fits (S : Seen W) (h : W.ok) (hw : W.wait = []) : ∀ n ∈ W.view.2, fitsW n.1 n.2.length = true := by
  rw [S.eq]
  intro n hn
  obtain ⟨x, hx, rfl⟩ := List.mem_map.1 hn
  have hl := S.lv x hx
  unfold numN Wd.gr waitAt
  rw [hw]
  simp only [List.length_map, List.filter_nil, List.map_nil, ite_self, List.append_nil]
  exact h.tk x hl

theorem Seen.lens (S : Seen W) (h : W.ok) : W.view.1.length = 12 ∧ W.view.2.length ≤ 1300 ∧ ∀ n ∈ W.view.2, n.2.length ≤ 100 := by
  rw [S.eq]
  refine ⟨by simpa using h.hr, ?_, fun n hn => ?_⟩
  · dsimp only
    rw [List.length_map]
    have hsub : ∀ x ∈ W.met, x ∈ W.all := fun x hx => Wd.mem_all.2 (S.lv x hx)
    have h1 := sum_sub (f := fun _ => 1) (fun _ => by decide) S.nd hsub
    have e : ∀ l : List Int, (l.map fun _ => (1 : Int)).sum = l.length := fun l => by
      induction l with
      | nil => rfl
      | cons a l ih => simp only [List.map_cons, List.sum_cons, ih, List.length_cons]; omega
    rw [e, e] at h1
    have := Wd.all_len h
    omega
  · obtain ⟨x, hx, rfl⟩ := List.mem_map.1 hn
    have hl := S.lv x hx
    have h1 := (fitsW_spec (h.tk x hl)).2.2.2
    have h2 := h.hq
    have h3 : (waitAt W.wait x).length ≤ W.wait.length := by unfold waitAt; rw [List.length_map]; exact List.length_filter_le _ _
    unfold numN Wd.gr
    simp only [List.length_map, List.length_append]
    split
    · rw [List.length_map]; omega
    · simp; omega

/-- A root that leads nowhere is told as it is. -/
theorem Seen.root (S : Seen W) (k : Nat) (hk : k < W.roots.length) : W.view.1.getD k (0, 0) = numV W.met (W.roots.getD k (0, 0)) := by
  rw [S.eq]
  dsimp only
  simp only [List.getD_eq_getElem?_getD, List.getElem?_map]
  rw [List.getElem?_eq_getElem hk]; rfl

end
end Go.Proofs.Ytjifdalflepcoab
