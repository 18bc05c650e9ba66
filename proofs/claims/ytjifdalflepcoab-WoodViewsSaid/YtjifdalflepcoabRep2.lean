/-
  A wood and a world that are the same: what is seen is the same. No program in sight.
-/
import Derived.Test.YtjifdalflepcoabRep
import Derived.Test.YtjifdalflepcoabViewL
namespace Go.Proofs.Ytjifdalflepcoab
set_option linter.unusedVariables false
set_option linter.unusedSimpArgs false

/-- Things of W stand in O at φ, and lead to the same. -/
structure Rep (O : Wo) (W : Wd) (φ : Int → Int) : Prop where
  ho : O.ok
  hw : W.ok
  ty : Tile O.ar O.ar.things.1 0 O.ar.yng
  tz : Tile O.ar O.ar.things.2 O.ar.nur O.ar.grn
  inj : ∀ i j, W.live i → W.live j → φ i = φ j → i = j
  onto : ∀ p, p ∈ O.ar.things.1 ∨ p ∈ O.ar.things.2 → ∃ i, W.live i ∧ φ i = p
  iny : ∀ i, W.live i → (W.th i).old = false → φ i ∈ O.ar.things.1
  ino : ∀ i, W.live i → (W.th i).old = true → φ i ∈ O.ar.things.2
  th : ∀ i, W.live i → O.ar.thing (φ i) = ((W.th i).k, ((W.th i).fs.length : Int), 0)
  fl : ∀ i, W.live i → ∀ (j : Nat) (v : Vl), (W.th i).fs[j]? = some v → O.ar.load (φ i + 1 + j) = encV φ v
  rt : O.rt = W.roots.map (encV φ)
  rg : O.rg = W.regs.map (encE φ)
  wt : O.wt = W.wait.map (encE φ)
  nur : (O.ar.nur : Int) = W.most
  len : (O.ar.ws.length : Int) = W.most + W.grow
  cl : O.cd.length = cardsN W.grow
  card : ∀ i, W.live i → (W.th i).old = true → ∀ v ∈ (W.th i).fs, v.1 = 3 → (W.th v.2).old = false → dirtyL O.ar.nur O.cd (φ i) = true

section
variable {O : Wo} {W : Wd} {φ : Int → Int}

theorem young_iff {A : Ar} {i : Int} : A.young i = true ↔ 0 ≤ i ∧ i < A.yng := by simp [Ar.young]
theorem old_iff {A : Ar} {i : Int} : A.old i = true ↔ (A.nur : Int) ≤ i ∧ i < A.grn := by simp [Ar.old]

theorem Tile.in_young {A : Ar} {l : List Int} (h : Tile A l 0 A.yng) {p : Int} (hp : p ∈ l) {j : Int} (h0 : 0 ≤ j) (h1 : j ≤ (A.thing p).2.1) : A.young (p + j) = true := by
  have := Tile.mem h p hp
  rw [young_iff]; omega

theorem Tile.in_old {A : Ar} {l : List Int} (h : Tile A l A.nur A.grn) {p : Int} (hp : p ∈ l) {j : Int} (h0 : 0 ≤ j) (h1 : j ≤ (A.thing p).2.1) : A.old (p + j) = true := by
  have := Tile.mem h p hp
  rw [old_iff]; omega

theorem Rep.young (R : Rep O W φ) {i : Int} (hi : W.live i) (ho : (W.th i).old = false) {j : Int} (h0 : 0 ≤ j) (h1 : j ≤ (W.th i).fs.length) : O.ar.young (φ i + j) = true :=
  R.ty.in_young (R.iny i hi ho) h0 (by rw [R.th i hi]; exact h1)

theorem Rep.old (R : Rep O W φ) {i : Int} (hi : W.live i) (ho : (W.th i).old = true) {j : Int} (h0 : 0 ≤ j) (h1 : j ≤ (W.th i).fs.length) : O.ar.old (φ i + j) = true :=
  R.tz.in_old (R.ino i hi ho) h0 (by rw [R.th i hi]; exact h1)

theorem not_both {A : Ar} (h : A.ok) {i : Int} (hy : A.young i = true) : A.old i = false := by
  have := h.h1
  rw [young_iff] at hy
  cases ho : A.old i
  · rfl
  · rw [old_iff] at ho; omega

theorem Rep.young_iff (R : Rep O W φ) {i : Int} (hi : W.live i) : O.ar.young (φ i) = true ↔ (W.th i).old = false := by
  constructor
  · intro h
    cases ho : (W.th i).old
    · rfl
    · have := R.old hi ho (j := 0) (by omega) (by omega)
      rw [Int.add_zero, not_both R.ho.ha h] at this; cases this
  · intro h
    have := R.young hi h (j := 0) (by omega) (by omega)
    rwa [Int.add_zero] at this

theorem Rep.old_iff (R : Rep O W φ) {i : Int} (hi : W.live i) : O.ar.old (φ i) = true ↔ (W.th i).old = true := by
  constructor
  · intro h
    cases ho : (W.th i).old
    · have := (R.young_iff hi).2 ho
      rw [not_both R.ho.ha this] at h; cases h
    · rfl
  · intro h
    have := R.old hi h (j := 0) (by omega) (by omega)
    rwa [Int.add_zero] at this

theorem Rep.use (R : Rep O W φ) {i : Int} (hi : W.live i) {j : Int} (h0 : 0 ≤ j) (h1 : j ≤ (W.th i).fs.length) : O.ar.inUse (φ i + j) = true := by
  unfold Ar.inUse
  rw [Bool.or_eq_true]
  cases ho : (W.th i).old
  · exact .inl (R.young hi ho h0 h1)
  · exact .inr (R.old hi ho h0 h1)

theorem Rep.place (R : Rep O W φ) {i : Int} (hi : W.live i) : 0 ≤ φ i ∧ φ i < 1280 ∧ φ i < O.ar.ws.length := by
  have := R.use hi (j := 0) (by omega) (by omega)
  rw [Int.add_zero] at this
  have := R.ho.ha.use_lt this
  have := R.ho.ha.h4
  omega

/-- Two in a list that goes upward. -/
theorem pairwise_two {l : List Int} {f : Int → Int} (h : l.Pairwise fun p q => p + 1 + f p ≤ q) {p q : Int} (hp : p ∈ l) (hq : q ∈ l) : p = q ∨ p + 1 + f p ≤ q ∨ q + 1 + f q ≤ p := by
  induction h with
  | nil => cases hp
  | cons h1 _ ih =>
    rcases List.mem_cons.1 hp with rfl | hp'
    · rcases List.mem_cons.1 hq with rfl | hq'
      · exact .inl rfl
      · exact .inr (.inl (h1 q hq'))
    · rcases List.mem_cons.1 hq with rfl | hq'
      · exact .inr (.inr (h1 p hp'))
      · exact ih hp' hq'

/-- Things stand apart. -/
theorem Rep.apart (R : Rep O W φ) {i j : Int} (hi : W.live i) (hj : W.live j) (h : i ≠ j) : φ i + 1 + (W.th i).fs.length ≤ φ j ∨ φ j + 1 + (W.th j).fs.length ≤ φ i := by
  have hne : φ i ≠ φ j := fun e => h (R.inj i j hi hj e)
  have h1 := R.ho.ha.h1
  have ti := R.th i hi; have tj := R.th j hj
  cases oi : (W.th i).old <;> cases oj : (W.th j).old
  · have := pairwise_two (f := fun p => (O.ar.thing p).2.1) R.ty.apart (R.iny i hi oi) (R.iny j hj oj)
    rw [ti, tj] at this
    dsimp only at this
    omega
  · have a := R.ty.mem _ (R.iny i hi oi); have b := R.tz.mem _ (R.ino j hj oj)
    rw [ti] at a
    dsimp only at a
    omega
  · have a := R.tz.mem _ (R.ino i hi oi); have b := R.ty.mem _ (R.iny j hj oj)
    rw [tj] at b
    dsimp only at b
    omega
  · have := pairwise_two (f := fun p => (O.ar.thing p).2.1) R.tz.apart (R.ino i hi oi) (R.ino j hj oj)
    rw [ti, tj] at this
    dsimp only at this
    omega

theorem Tile.nodup {A : Ar} {l : List Int} {a b : Int} (h : Tile A l a b) : l.Nodup := by
  refine List.Pairwise.imp ?_ h.apart
  intro p q hpq e
  have := A.thing_fields p
  omega

/-! What is seen. -/

theorem map_waits (h : ∀ i j, W.live i → W.live j → φ i = φ j → i = j) : ∀ (l : List (Int × Int)), (∀ e ∈ l, W.okE e) → ∀ i, W.live i → waitO (l.map (encE φ)) (4 * φ i + 1) = (waitAt l i).map fun x => 4 * φ x + 1
  | [], _, _, _ => rfl
  | e :: l, hl, i, hi => by
    have ih := map_waits h l (fun e he => hl e (by simp [he])) i hi
    have he := hl e (by simp)
    unfold waitO waitAt at *
    simp only [List.map_cons, List.filter_cons]
    by_cases c : e.1 = i
    · have c' : (encE φ e).1 = 4 * φ i + 1 := by simp [encE, c]
      rw [if_pos (by simpa using c'), if_pos (by simpa using c)]
      simp only [List.map_cons, ih]
      simp [encE]
    · have c' : ¬ (encE φ e).1 = 4 * φ i + 1 := by
        intro h'
        simp only [encE] at h'
        exact c (h _ _ he.1 hi (by omega))
      rw [if_neg (by simpa using c'), if_neg (by simpa using c)]
      exact ih

theorem Rep.fields (R : Rep O W φ) {i : Int} (hi : W.live i) : O.ar.fields (φ i) = (W.th i).fs.map (encV φ) := by
  unfold Ar.fields
  rw [R.th i hi]
  apply List.ext_getElem
  · simp
  · intro k h1 h2
    simp only [List.length_map, List.length_range] at h1 h2
    simp only [List.getElem_map, List.getElem_range]
    exact R.fl i hi k _ (List.getElem?_eq_getElem (by simpa using h2))

theorem Rep.iso (R : Rep O W φ) : Iso W.gr O.gr W.live φ := by
  refine ⟨R.inj, fun i hi => ?_, fun i hi v hv h3 => ?_⟩
  · unfold Wo.gr Wd.gr
    dsimp only
    rw [R.th i hi, R.fields hi]
    dsimp only
    refine Prod.ext rfl ?_
    dsimp only
    rw [List.map_append, List.map_map]
    congr 1
    · refine List.map_congr_left fun v hv => ?_
      exact valO_encV (R.hw.tv i hi v hv)
    · by_cases hk : (W.th i).k = 5
      · rw [if_pos hk, if_pos hk, R.wt, map_waits R.inj W.wait R.hw.wv i hi, List.map_map, List.map_map]
        refine List.map_congr_left fun x hx => ?_
        simp only [Function.comp]
        unfold valO reV
        rw [if_pos (by omega), if_pos rfl]
        show ((3 : Int), (4 * φ x + 1) / 4) = (3, φ x)
        rw [show (4 * φ x + 1) / 4 = φ x by omega]
      · rw [if_neg hk, if_neg hk]; rfl
  · unfold Wd.gr at hv
    dsimp only at hv
    rcases List.mem_append.1 hv with h1 | h1
    · exact Wd.okV_ref (R.hw.tv i hi v h1) h3
    · split at h1
      · obtain ⟨x, hx, rfl⟩ := List.mem_map.1 h1
        unfold waitAt at hx
        obtain ⟨e, he, rfl⟩ := List.mem_map.1 hx
        exact (R.hw.wv e (List.mem_filter.1 he).1).2.2
      · cases h1

theorem Rep.view (R : Rep O W φ) : O.view = W.view := by
  unfold Wo.view Wd.view
  rw [R.rt, List.map_map]
  have : W.roots.map (valO ∘ encV φ) = W.roots.map (reV φ) := List.map_congr_left fun v hv => valO_encV (R.hw.rv v hv)
  rw [this]
  exact viewM_iso R.iso (fun u hu h3 => Wd.okV_ref (R.hw.rv u hu) h3)

/-! How many words. -/

/-- The live things that are old, or young. -/
def Wd.idx (W : Wd) (old : Bool) : List Int := ((List.range W.T.length).map (Int.ofNat ·)).filter fun i => !(W.th i).dead && ((W.th i).old == old)

theorem Wd.mem_idx {W : Wd} {b : Bool} {i : Int} : i ∈ W.idx b ↔ W.live i ∧ (W.th i).old = b := by
  unfold Wd.idx Wd.live
  simp only [List.mem_filter, List.mem_map, List.mem_range, Bool.and_eq_true, Bool.not_eq_true', beq_iff_eq]
  constructor
  · rintro ⟨⟨n, hn, rfl⟩, h1, h2⟩
    exact ⟨⟨Int.natCast_nonneg n, Int.ofNat_lt.2 hn, h1⟩, h2⟩
  · rintro ⟨⟨h0, h1, h2⟩, h3⟩
    have h4 : i.toNat < W.T.length := by omega
    have h5 : ((i.toNat : Nat) : Int) = i := by omega
    exact ⟨⟨i.toNat, h4, h5⟩, h2, h3⟩

theorem nodup_range_int (n : Nat) : ((List.range n).map (Int.ofNat ·)).Nodup := by
  rw [List.Nodup, List.pairwise_map]
  refine List.Pairwise.imp ?_ (List.nodup_range (n := n))
  intro a b h e
  exact h (Int.ofNat.inj e)

theorem Wd.idx_nodup (W : Wd) (b : Bool) : (W.idx b).Nodup := (nodup_range_int _).filter _

theorem sum_perm {l m : List Int} (h : l.Perm m) : l.sum = m.sum := by
  induction h with
  | nil => rfl
  | cons x _ ih => simp [ih]
  | swap x y l => simp; omega
  | trans _ _ ih1 ih2 => exact ih1.trans ih2

theorem sum_nonneg {l : List Int} (h : ∀ x ∈ l, 0 ≤ x) : 0 ≤ l.sum := by
  induction l with
  | nil => simp
  | cons a l ih => simp only [List.sum_cons]; have := h a (by simp); have := ih (fun x hx => h x (by simp [hx])); omega

/-- A part of a list without doubles has no more. -/
theorem sum_sub {f : Int → Int} (h0 : ∀ i, 0 ≤ f i) : ∀ {l m : List Int}, l.Nodup → (∀ i ∈ l, i ∈ m) → (l.map f).sum ≤ (m.map f).sum
  | [], m, _, _ => by simpa using sum_nonneg (l := m.map f) (fun x hx => by obtain ⟨i, _, rfl⟩ := List.mem_map.1 hx; exact h0 i)
  | a :: l, m, hn, hs => by
    have ha := hs a (by simp)
    have hp : m.Perm (a :: m.erase a) := List.perm_cons_erase ha
    rw [sum_perm (hp.map f)]
    simp only [List.map_cons, List.sum_cons]
    rw [List.nodup_cons] at hn
    have := sum_sub h0 (l := l) (m := m.erase a) hn.2 (fun i hi => (List.mem_erase_of_ne (fun e => hn.1 (by rw [← e]; exact hi))).2 (hs i (by simp [hi])))
    omega

theorem sum_filter {p : Int → Bool} {f : Int → Int} : ∀ (l : List Int), ((l.filter p).map f).sum = (l.map fun i => if p i then f i else 0).sum
  | [] => rfl
  | a :: l => by
    simp only [List.filter_cons, List.map_cons, List.sum_cons]
    cases h : p a
    · simp [sum_filter l]
    · simp [sum_filter l]

theorem sumW_range (W : Wd) (p : Th → Bool) : sumW W.T p = (((List.range W.T.length).map (Int.ofNat ·)).map fun i => if p (W.th i) then (W.th i).words else 0).sum := by
  unfold sumW
  congr 1
  apply List.ext_getElem
  · simp
  · intro k h1 h2
    simp only [List.length_map] at h1
    simp only [List.getElem_map, List.getElem_range]
    have e : W.th (Int.ofNat k) = W.T[k] := by
      unfold Wd.th
      rw [List.getD_eq_getElem?_getD, show (Int.ofNat k).toNat = k from rfl, List.getElem?_eq_getElem h1]; rfl
    rw [e]

theorem Wd.sum_idx (W : Wd) (b : Bool) : ((W.idx b).map fun i => (W.th i).words).sum = sumW W.T fun t => !t.dead && (t.old == b) := by
  rw [sumW_range]
  unfold Wd.idx
  rw [sum_filter]

theorem map_nodup {φ : Int → Int} {l : List Int} (h : l.Nodup) (inj : ∀ i ∈ l, ∀ j ∈ l, φ i = φ j → i = j) : (l.map φ).Nodup := by
  rw [List.Nodup, List.pairwise_map]
  refine List.Pairwise.imp_of_mem ?_ h
  intro a b ha hb hne e
  exact hne (inj a ha b hb e)

theorem Rep.perm_y (R : Rep O W φ) : O.ar.things.1.Perm ((W.idx false).map φ) := by
  rw [List.perm_ext_iff_of_nodup R.ty.nodup (map_nodup (W.idx_nodup _) (fun i hi j hj e => R.inj i j (Wd.mem_idx.1 hi).1 (Wd.mem_idx.1 hj).1 e))]
  intro p
  constructor
  · intro hp
    obtain ⟨i, hi, rfl⟩ := R.onto p (.inl hp)
    have := R.ty.in_young hp (j := 0) (by omega) (R.ho.ha |> fun _ => (O.ar.thing_fields (φ i)).1)
    rw [Int.add_zero] at this
    exact List.mem_map.2 ⟨i, Wd.mem_idx.2 ⟨hi, (R.young_iff hi).1 this⟩, rfl⟩
  · intro hp
    obtain ⟨i, hi, rfl⟩ := List.mem_map.1 hp
    exact R.iny i (Wd.mem_idx.1 hi).1 (Wd.mem_idx.1 hi).2

theorem Rep.perm_o (R : Rep O W φ) : O.ar.things.2.Perm ((W.idx true).map φ) := by
  rw [List.perm_ext_iff_of_nodup R.tz.nodup (map_nodup (W.idx_nodup _) (fun i hi j hj e => R.inj i j (Wd.mem_idx.1 hi).1 (Wd.mem_idx.1 hj).1 e))]
  intro p
  constructor
  · intro hp
    obtain ⟨i, hi, rfl⟩ := R.onto p (.inr hp)
    have := R.tz.in_old hp (j := 0) (by omega) (O.ar.thing_fields (φ i)).1
    rw [Int.add_zero] at this
    exact List.mem_map.2 ⟨i, Wd.mem_idx.2 ⟨hi, (R.old_iff hi).1 this⟩, rfl⟩
  · intro hp
    obtain ⟨i, hi, rfl⟩ := List.mem_map.1 hp
    exact R.ino i (Wd.mem_idx.1 hi).1 (Wd.mem_idx.1 hi).2

theorem Rep.sy (R : Rep O W φ) : (O.ar.yng : Int) = W.young := by
  have h1 := R.ty.sum
  rw [sum_perm (R.perm_y.map _), List.map_map] at h1
  have e : (W.idx false).map ((fun p => 1 + (O.ar.thing p).2.1) ∘ φ) = (W.idx false).map fun i => (W.th i).words :=
    List.map_congr_left fun i hi => by simp only [Function.comp]; rw [R.th i (Wd.mem_idx.1 hi).1]; rfl
  rw [e, Wd.sum_idx] at h1
  unfold Wd.young
  rw [h1]
  have : (fun t : Th => !t.dead && (t.old == false)) = fun t : Th => !t.dead && !t.old := by funext t; cases t.old <;> rfl
  rw [this]; omega

theorem Rep.so (R : Rep O W φ) : (O.ar.grn : Int) - O.ar.nur = W.olds := by
  have h1 := R.tz.sum
  rw [sum_perm (R.perm_o.map _), List.map_map] at h1
  have e : (W.idx true).map ((fun p => 1 + (O.ar.thing p).2.1) ∘ φ) = (W.idx true).map fun i => (W.th i).words :=
    List.map_congr_left fun i hi => by simp only [Function.comp]; rw [R.th i (Wd.mem_idx.1 hi).1]; rfl
  rw [e, Wd.sum_idx] at h1
  unfold Wd.olds
  rw [h1]
  have : (fun t : Th => !t.dead && (t.old == true)) = fun t : Th => !t.dead && t.old := by funext t; cases t.old <;> rfl
  rw [this]; omega

end
end Go.Proofs.Ytjifdalflepcoab
