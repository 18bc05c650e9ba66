/-
  A wood and a world that are the same stay the same: new things, fields, roots, what stands beside. No program in sight.
-/
import Derived.Test.YtjifdalflepcoabRep2
namespace Go.Proofs.Ytjifdalflepcoab
set_option linter.unusedVariables false
set_option linter.unusedSimpArgs false

section
variable {O : Wo} {W : Wd} {φ ψ : Int → Int}

theorem Tile.things {A : Ar} (h : A.ok) {Y Z : List Int} (hy : Tile A Y 0 A.yng) (hz : Tile A Z A.nur A.grn) : A.things = (Y, Z) := by
  have := h.h1; have := h.h2; have := h.h3; have := h.h4
  unfold Ar.things
  rw [hy.list (by omega), hz.list (by omega)]

theorem encV_congr {v : Vl} (h : v.1 = 3 → ψ v.2 = φ v.2) : encV ψ v = encV φ v := by
  unfold encV
  by_cases h3 : v.1 = 3
  · rw [if_pos h3, if_pos h3, h h3]
  · rw [if_neg h3, if_neg h3]

theorem encV_R64 (R : Rep O W φ) {v : Vl} (hv : W.okV v) : R64 (encV φ v) := by
  unfold R64
  rcases hv with h | h | h | h
  · have e : encV φ v = 2 := by simp [encV, h.1]
    rw [e]; decide
  · have e : encV φ v = 4 * v.2 := by simp [encV, h.1]
    have := h.2
    unfold big at this
    rw [e]; omega
  · have e : encV φ v = 3 := by simp [encV, h.1]
    rw [e]; decide
  · rw [encV_ref φ h.1]
    have := R.place h.2
    omega

theorem Rep.new {n o : Int} (h : Ar.fits n o = true) : Rep (Wo.new n o) (Wd.new n o) id := by
  have h' := h
  simp [Ar.fits] at h'
  have no : ∀ i, ¬ (Wd.new n o).live i := fun i hi => by have := hi.2.1; have := hi.1; simp [Wd.new] at *; omega
  have hok : (Wo.new n o).ok := by
    refine ⟨Ar.new_ok h, by simp [Wo.new], fun x hx => ?_, fun e he => by simp [Wo.new] at he, fun e he => by simp [Wo.new] at he, by simp [Wo.new], ?_⟩
    · simp [Wo.new] at hx; subst hx; unfold R64; omega
    · simp [Wo.new, cardsN]; omega
  have t1 : Tile (Wo.new n o).ar [] 0 (Wo.new n o).ar.yng := by simp [Wo.new, Ar.new, Tile]
  have t2 : Tile (Wo.new n o).ar [] (Wo.new n o).ar.nur (Wo.new n o).ar.grn := by simp [Wo.new, Ar.new, Tile]
  have ht := Tile.things hok.ha t1 t2
  refine ⟨hok, Wd.new_ok (by omega) (by omega) (by omega) (by omega), by rw [ht]; exact t1, by rw [ht]; exact t2, fun i j hi => (no i hi).elim, fun p hp => ?_, fun i hi => (no i hi).elim, fun i hi => (no i hi).elim, fun i hi => (no i hi).elim, fun i hi => (no i hi).elim, ?_, rfl, rfl, ?_, ?_, ?_, fun i hi => (no i hi).elim⟩
  · rw [ht] at hp; simp at hp
  · simp [Wo.new, Wd.new, encV]
  · simp [Wo.new, Ar.new, Wd.new]; omega
  · simp [Wo.new, Ar.new, Wd.new]; omega
  · simp [Wo.new, Wd.new]

theorem Rep.setR (R : Rep O W φ) {v : Vl} (hv : W.okV v) (r : Int) : Rep { O with rt := O.rt.set r.toNat (encV φ v) } (W.setR r v) φ := by
  refine ⟨⟨R.ho.ha, by simpa using R.ho.h12, fun x hx => ?_, R.ho.hg, R.ho.hw, R.ho.hq, R.ho.hc⟩, R.hw.setR hv r, R.ty, R.tz, R.inj, R.onto, R.iny, R.ino, R.th, R.fl, ?_, R.rg, R.wt, R.nur, R.len, R.cl, R.card⟩
  · rcases List.mem_or_eq_of_mem_set hx with h1 | rfl
    · exact R.ho.hR x h1
    · exact encV_R64 R hv
  · show O.rt.set r.toNat (encV φ v) = (W.roots.set r.toNat v).map (encV φ)
    rw [R.rt, List.map_set]

/-- A new thing's place. -/
def extF (n y : Int) (φ : Int → Int) (i : Int) : Int := if i = n then y else φ i

theorem thing_of_load {A B : Ar} {p : Int} (h : B.load p = A.load p) : B.thing p = A.thing p := by unfold Ar.thing; rw [h]

/-- A new thing stands behind the young ones. -/
theorem Rep.put (R : Rep O W φ) {A' : Ar} {k r : Int} {l : List Vl} (hA : A'.ok) (h1 : A'.nur = O.ar.nur) (h2 : A'.grn = O.ar.grn) (h3 : A'.ws.length = O.ar.ws.length) (h4 : (A'.yng : Int) = O.ar.yng + (1 + l.length))
    (hq : ∀ q, O.ar.inUse q = true → A'.load q = O.ar.load q) (ht : A'.thing O.ar.yng = (k, (l.length : Int), 0)) (hl : ∀ (j : Nat) (v : Vl), l[j]? = some v → A'.load (O.ar.yng + 1 + j) = encV φ v)
    (hok : ∀ v ∈ l, W.okV v) (hf : fitsW k l.length = true) :
    Rep { O with ar := A', rt := O.rt.set r.toNat (4 * O.ar.yng + 1) } (W.put r k l) (extF W.T.length O.ar.yng φ) := by
  have hroom : 1 + (l.length : Int) ≤ W.most - W.young := by
    have := hA.h1; have := R.sy; have := R.nur; omega
  have old : ∀ {i}, W.live i → ¬ i = (W.T.length : Int) := fun hi e => by have := hi.2.1; omega
  have fe : ∀ {i}, W.live i → (extF W.T.length O.ar.yng φ) i = φ i := fun hi => if_neg (old hi)
  have fn : (extF W.T.length O.ar.yng φ) (W.T.length : Int) = O.ar.yng := if_pos rfl
  have ee : ∀ {v}, W.okV v → encV (extF W.T.length O.ar.yng φ) v = encV φ v := fun hv => encV_congr (fun h3 => fe (Wd.okV_ref hv h3))
  have thp : ∀ p, O.ar.inUse p = true → A'.thing p = O.ar.thing p := fun p hp => thing_of_load (hq p hp)
  have tho : ∀ {i}, W.live i → (W.put r k l).th i = W.th i := fun hi => Wd.th_put hi.1 hi.2.1
  have useY : ∀ p ∈ O.ar.things.1, O.ar.inUse p = true := fun p hp => by
    have := R.ty.in_young hp (j := 0) (by omega) (O.ar.thing_fields p).1
    rw [Int.add_zero] at this; unfold Ar.inUse; rw [this]; rfl
  have useO : ∀ p ∈ O.ar.things.2, O.ar.inUse p = true := fun p hp => by
    have := R.tz.in_old hp (j := 0) (by omega) (O.ar.thing_fields p).1
    rw [Int.add_zero] at this; unfold Ar.inUse; rw [this]; simp
  have t1 : Tile A' (O.ar.things.1 ++ [(O.ar.yng : Int)]) 0 A'.yng := by
    refine Tile.app (Tile.congr (fun p hp => thp p (useY p hp)) R.ty) ⟨rfl, by rw [ht], ?_⟩
    rw [ht]
    show (O.ar.yng : Int) + 1 + l.length = A'.yng
    omega
  have t2 : Tile A' O.ar.things.2 A'.nur A'.grn := by rw [h1, h2]; exact Tile.congr (fun p hp => thp p (useO p hp)) R.tz
  have hth := Tile.things hA t1 t2
  have nl : (W.put r k l).live W.T.length := by
    refine ⟨by omega, by simp [Wd.put]; omega, ?_⟩
    rw [Wd.th_put_new]
  have lt : ∀ {i}, W.live i → φ i ≠ O.ar.yng := fun {i} hi e => by
    have := R.use hi (j := 0) (by omega) (by omega)
    rw [Int.add_zero] at this
    unfold Ar.inUse at this
    have h1' := R.ho.ha.h1; have h5 := hA.h1; rw [h1] at h5
    rw [Bool.or_eq_true, Go.Proofs.Ytjifdalflepcoab.young_iff, Go.Proofs.Ytjifdalflepcoab.old_iff] at this
    omega
  refine ⟨⟨hA, by simpa using R.ho.h12, fun x hx => ?_, R.ho.hg, R.ho.hw, R.ho.hq, R.ho.hc⟩, R.hw.put hf hok hroom, by rw [hth]; exact t1, by rw [hth]; exact t2, fun i j hi hj e => ?_, fun p hp => ?_, fun i hi ho => ?_, fun i hi ho => ?_, fun i hi => ?_, fun i hi j v hv => ?_, ?_, ?_, ?_, ?_, ?_, R.cl, fun i hi ho v hv h3' hy => ?_⟩
  · rcases List.mem_or_eq_of_mem_set hx with h5 | rfl
    · exact R.ho.hR x h5
    · have := R.ho.ha.h1; have := R.ho.ha.h2; have := R.ho.ha.h3; have := R.ho.ha.h4
      unfold R64; omega
  · rcases Wd.put_live hi with hi | rfl <;> rcases Wd.put_live hj with hj | rfl
    · rw [fe hi, fe hj] at e; exact R.inj i j hi hj e
    · rw [fe hi, fn] at e; exact (lt hi e).elim
    · rw [fe hj, fn] at e; exact (lt hj e.symm).elim
    · rfl
  · rw [hth] at hp
    dsimp only at hp
    rw [List.mem_append, List.mem_singleton] at hp
    rcases hp with (h5 | rfl) | h5
    · obtain ⟨i, hi, rfl⟩ := R.onto p (.inl h5); exact ⟨i, Wd.live_put hi, fe hi⟩
    · exact ⟨_, nl, fn⟩
    · obtain ⟨i, hi, rfl⟩ := R.onto p (.inr h5); exact ⟨i, Wd.live_put hi, fe hi⟩
  · rw [hth]
    rcases Wd.put_live hi with hi | rfl
    · rw [tho hi] at ho; rw [fe hi]; exact List.mem_append_left _ (R.iny i hi ho)
    · rw [fn]; simp
  · rw [hth]
    rcases Wd.put_live hi with hi | rfl
    · rw [tho hi] at ho; rw [fe hi]; exact R.ino i hi ho
    · rw [Wd.th_put_new] at ho; cases ho
  · rcases Wd.put_live hi with hi | rfl
    · have := R.use hi (j := 0) (by omega) (by omega)
      rw [Int.add_zero] at this
      rw [fe hi, tho hi]; exact (thp _ this).trans (R.th i hi)
    · rw [fn, Wd.th_put_new]; exact ht
  · rcases Wd.put_live hi with hi | rfl
    · rw [tho hi] at hv
      have hj : j < (W.th i).fs.length := (List.getElem?_eq_some_iff.1 hv).1
      have := R.use hi (j := 1 + j) (by omega) (by omega)
      rw [← Int.add_assoc] at this
      rw [fe hi, ee (R.hw.tv i hi v (List.mem_of_getElem? hv))]
      exact (hq _ this).trans (R.fl i hi j v hv)
    · rw [Wd.th_put_new] at hv
      rw [fn, ee (hok v (List.mem_of_getElem? hv))]
      exact hl j v hv
  · show O.rt.set r.toNat (4 * O.ar.yng + 1) = (W.roots.set r.toNat (refV W.T.length)).map _
    rw [List.map_set, R.rt]
    congr 1
    · exact List.map_congr_left fun v hv => (ee (R.hw.rv v hv)).symm
    · show _ = encV _ (3, (W.T.length : Int))
      rw [encV_ref _ rfl]; dsimp only; rw [fn]
  · show O.rg = W.regs.map _
    rw [R.rg]
    exact List.map_congr_left fun e he => by have := R.hw.gv e he; unfold encE; rw [fe this.1, fe this.2.2]
  · show O.wt = W.wait.map _
    rw [R.wt]
    exact List.map_congr_left fun e he => by have := R.hw.wv e he; unfold encE; rw [fe this.1, fe this.2.2]
  · show (A'.nur : Int) = W.most; rw [h1]; exact R.nur
  · show (A'.ws.length : Int) = W.most + W.grow; rw [h3]; exact R.len
  · show dirtyL A'.nur O.cd _ = true
    rcases Wd.put_live hi with hi | rfl
    · rw [tho hi] at ho hv
      have hl3 := Wd.okV_ref (R.hw.tv i hi v hv) h3'
      rw [tho hl3] at hy
      rw [fe hi, h1]
      exact R.card i hi ho v hv h3' hy
    · rw [Wd.th_put_new] at ho; cases ho

theorem lay_head {l m : List Int} {i : Nat} {x : Int} (h : i + (x :: m).length ≤ l.length) : (lay l i (x :: m)).getD i 0 = x := by
  rw [lay_getD h, if_pos ⟨Nat.le_refl _, by simp⟩]; simp

/-- What a new thing changes. -/
theorem Ar.make_loads {A : Ar} (hA : A.ok) {k f : Int} (h : fitsW k f = true ∧ 1 + f ≤ (A.nur : Int) - A.yng) :
    (∀ q, A.inUse q = true → (A.make k f).2.load q = A.load q) ∧ (A.make k f).2.load A.yng = 16 * f + k ∧ (∀ j : Int, 0 ≤ j → j < f → (A.make k f).2.load (A.yng + 1 + j) = 2) ∧ ((A.make k f).2.yng : Int) = A.yng + (1 + f) ∧
    (A.make k f).2.nur = A.nur ∧ (A.make k f).2.grn = A.grn ∧ (A.make k f).2.ws.length = A.ws.length := by
  have hf := fitsW_spec h.1
  have hl := thingW_length (k := k) hf.2.2.1
  have a1 := hA.h1; have a2 := hA.h2; have a3 := hA.h3
  have hle : A.yng + (thingW k f).length ≤ A.ws.length := by rw [hl]; omega
  rw [Ar.make_yes h]
  have hload : ∀ q : Int, 0 ≤ q → q < A.yng + (1 + f) → Ar.load { A with yng := A.yng + (1 + f).toNat, ws := lay A.ws A.yng (thingW k f) } q = (lay A.ws A.yng (thingW k f)).getD q.toNat 0 := by
    intro q h0 h1
    unfold Ar.load
    rw [if_pos]
    unfold Ar.inUse
    rw [Bool.or_eq_true]
    left
    rw [young_iff]
    refine ⟨h0, ?_⟩
    show q < ((A.yng + (1 + f).toNat : Nat) : Int)
    omega
  refine ⟨fun q hq => ?_, ?_, fun j h0 h1 => ?_, ?_, rfl, rfl, ?_⟩
  · have hu : Ar.inUse { A with yng := A.yng + (1 + f).toNat, ws := lay A.ws A.yng (thingW k f) } q = true := by
      unfold Ar.inUse at *
      rw [Bool.or_eq_true] at *
      rw [young_iff, old_iff] at *
      dsimp only
      omega
    unfold Ar.load
    rw [hu, hq]
    simp only [if_true]
    rw [lay_getD hle, if_neg]
    rw [hl]
    unfold Ar.inUse at hq
    rw [Bool.or_eq_true, young_iff, old_iff] at hq
    omega
  · rw [hload _ (by omega) (by omega)]
    unfold thingW at *
    rw [Int.toNat_natCast]
    exact lay_head hle
  · rw [hload _ (by omega) (by omega), lay_getD hle, if_pos (by rw [hl]; omega)]
    unfold thingW
    rw [show ((A.yng : Int) + 1 + j).toNat - A.yng = j.toNat + 1 by omega, List.getD_cons_succ]
    simp only [List.getD_eq_getElem?_getD]
    rw [List.getElem?_replicate, if_pos (by omega)]; rfl
  · dsimp only; omega
  · dsimp only; exact lay_length hle

theorem partsW_of {k f : Int} (h : fitsW k f = true) : partsW (16 * f + k) = (k, f, 0) := by
  have hf := fitsW_spec h
  unfold partsW
  rw [show (16 * f + k) % 16 = k by omega, show (16 * f + k) / 16 = f by omega, if_pos h]

/-- A thing of nothing. -/
theorem Rep.fresh (R : Rep O W φ) {k f r : Int} (h : fitsW k f = true ∧ 1 + f ≤ (O.ar.nur : Int) - O.ar.yng) :
    Rep { O with ar := (O.ar.make k f).2, rt := O.rt.set r.toNat (4 * O.ar.yng + 1) } (W.put r k (List.replicate f.toNat (0, 0))) (extF W.T.length O.ar.yng φ) := by
  have hf := fitsW_spec h.1
  have hl : (((List.replicate f.toNat ((0, 0) : Vl)).length : Nat) : Int) = f := by simp; omega
  obtain ⟨m1, m2, m3, m4, m5, m6, m7⟩ := Ar.make_loads R.ho.ha h
  refine R.put (R.ho.ha.make k f) m5 m6 m7 (by rw [hl]; exact m4) m1 ?_ (fun j v hv => ?_) (fun v hv => ?_) (by rw [hl]; exact h.1)
  · unfold Ar.thing
    rw [m2, partsW_of h.1, hl]
  · rw [List.getElem?_replicate] at hv
    split at hv
    · rename_i hj; cases hv
      rw [m3 j (by omega) (by omega)]; rfl
    · cases hv
  · rw [(List.mem_replicate.1 hv).2]; exact .inl ⟨rfl, rfl⟩

/-! Fields. -/

theorem dirtyL_iff {base : Int} {l : List Bool} {p : Int} : dirtyL base l p = true ↔ base ≤ p ∧ (p - base) / 8 < l.length ∧ l.getD ((p - base) / 8).toNat false = true := by
  unfold dirtyL
  rw [Bool.and_eq_true, decide_eq_true_eq]
  unfold cardOf
  by_cases c : base ≤ p ∧ (p - base) / 8 < l.length
  · rw [if_pos c]
    constructor
    · rintro ⟨_, h⟩; exact ⟨c.1, c.2, h⟩
    · rintro ⟨_, _, h⟩; exact ⟨by omega, h⟩
  · rw [if_neg c]
    constructor
    · rintro ⟨h, _⟩; omega
    · rintro ⟨h1, h2, _⟩; exact absurd ⟨h1, h2⟩ c

theorem dirtyL_mark {base : Int} {l : List Bool} {p : Int} (q : Int) (h : dirtyL base l p = true) : dirtyL base (markL base l q) p = true := by
  rw [dirtyL_iff] at *
  rw [markL_length]
  refine ⟨h.1, h.2.1, ?_⟩
  unfold markL
  split
  · rw [List.getD_eq_getElem?_getD, List.getElem?_set]
    split
    · split
      · rfl
      · rename_i h1 h2; omega
    · rw [← List.getD_eq_getElem?_getD]; exact h.2.2
  · exact h.2.2

theorem dirtyL_self {base : Int} {l : List Bool} {p : Int} (h1 : base ≤ p) (h2 : (p - base) / 8 < l.length) : dirtyL base (markL base l p) p = true := by
  have hc : cardOf base l.length p = (p - base) / 8 := by unfold cardOf; rw [if_pos ⟨h1, h2⟩]
  rw [dirtyL_iff, markL_length]
  refine ⟨h1, h2, ?_⟩
  unfold markL
  rw [hc, if_pos (by omega), List.getD_eq_getElem?_getD, List.getElem?_set, if_pos rfl, if_pos (by omega)]; rfl

theorem Rep.thingAt (R : Rep O W φ) {v : Vl} (hv : W.okV v) : O.ar.thingAt (encV φ v) = if v.1 = 3 then (φ v.2, (W.th v.2).k, ((W.th v.2).fs.length : Int), 0) else (0, 0, 0, 2) := by
  unfold Ar.thingAt
  by_cases h3 : v.1 = 3
  · rw [if_pos h3]
    have e := encV_ref φ h3
    have e4 : encV φ v / 4 = φ v.2 := by rw [e]; omega
    rw [e4, R.th _ (Wd.okV_ref hv h3), if_pos ⟨(encV_mod hv).2 h3, rfl⟩]
  · rw [if_neg h3, if_neg (fun h => h3 ((encV_mod hv).1 h.1))]

theorem Rep.get (R : Rep O W φ) {v : Vl} (hv : W.okV v) (i : Int) : O.ar.get (encV φ v) i =
    if v.1 ≠ 3 ∨ (W.th v.2).k = 5 then (0, 2) else if i < 0 ∨ ((W.th v.2).fs.length : Int) ≤ i then (0, 1) else (encV φ ((W.th v.2).fs.getD i.toNat (0, 0)), 0) := by
  unfold Ar.get
  rw [R.thingAt hv]
  by_cases h3 : v.1 = 3
  · rw [if_pos h3]
    dsimp only
    by_cases hk : (W.th v.2).k = 5
    · rw [if_pos (.inr hk), if_pos (.inr hk)]
    · have c0 : ¬ ((0 : Int) ≠ 0 ∨ (W.th v.2).k = 5) := fun h => by rcases h with h | h; exact h rfl; exact hk h
      have c1 : ¬ (v.1 ≠ 3 ∨ (W.th v.2).k = 5) := fun h => by rcases h with h | h; exact h h3; exact hk h
      rw [if_neg c0, if_neg c1]
      by_cases hi : i < 0 ∨ ((W.th v.2).fs.length : Int) ≤ i
      · rw [if_pos hi, if_pos hi]
      · rw [if_neg hi, if_neg hi]
        have hlt : i.toNat < (W.th v.2).fs.length := by omega
        have := R.fl v.2 (Wd.okV_ref hv h3) i.toNat _ (List.getElem?_eq_getElem hlt)
        rw [show ((i.toNat : Nat) : Int) = i by omega] at this
        have e4 : encV φ v / 4 = φ v.2 := by rw [encV_ref φ h3]; omega
        rw [e4, this, List.getD_eq_getElem?_getD, List.getElem?_eq_getElem hlt]; rfl
  · rw [if_neg h3, if_pos (.inl (by decide)), if_pos (.inl h3)]

/-- A field is another one. -/
theorem Rep.setF (R : Rep O W φ) {a i : Int} {u : Vl} (ha : W.live a) (h0 : 0 ≤ i) (h1 : i < (W.th a).fs.length) (hu : W.okV u) {cd : List Bool}
    (hc1 : cd.length = O.cd.length) (hc2 : ∀ p, dirtyL O.ar.nur O.cd p = true → dirtyL O.ar.nur cd p = true) (hc3 : u.1 = 3 → (W.th u.2).old = false → (W.th a).old = true → dirtyL O.ar.nur cd (φ a) = true) :
    Rep { O with ar := O.ar.store (φ a + 1 + i) (encV φ u), cd := cd } (W.setF a ((W.th a).fs.set i.toNat u)) φ := by
  have hlv := fun j => Wd.setF_live (fs := (W.th a).fs.set i.toNat u) ha j
  have hth : ∀ {j}, W.live j → (W.setF a ((W.th a).fs.set i.toNat u)).th j = if j = a then { W.th a with fs := (W.th a).fs.set i.toNat u } else W.th j := fun hj => Wd.th_setF hj.1 ha
  have hold : ∀ {j}, W.live j → ((W.setF a ((W.th a).fs.set i.toNat u)).th j).old = (W.th j).old := fun hj => by
    rw [hth hj]; split
    · rename_i e; subst e; rfl
    · rfl
  have huse : O.ar.inUse (φ a + 1 + i) = true := by rw [Int.add_assoc]; exact R.use ha (by omega) (by omega)
  have hload := fun q => Ar.load_store R.ho.ha (φ a + 1 + i) q (encV φ u)
  have hst : ∀ j, W.live j → (O.ar.store (φ a + 1 + i) (encV φ u)).thing (φ j) = O.ar.thing (φ j) := fun j hj => by
    refine thing_of_load ?_
    rw [hload, if_neg]
    rintro ⟨e, _⟩
    by_cases ej : j = a
    · subst ej; omega
    · have := R.apart hj ha ej
      omega
  have hok : (O.ar.store (φ a + 1 + i) (encV φ u)).ok := R.ho.ha.store _ _ (encV_R64 R hu)
  have tp : ∀ p, p ∈ O.ar.things.1 ∨ p ∈ O.ar.things.2 → (O.ar.store (φ a + 1 + i) (encV φ u)).thing p = O.ar.thing p := fun p hp => by
    obtain ⟨j, hj, rfl⟩ := R.onto p hp
    exact hst j hj
  have t1 : Tile (O.ar.store (φ a + 1 + i) (encV φ u)) O.ar.things.1 0 (O.ar.store (φ a + 1 + i) (encV φ u)).yng := by
    rw [Ar.store_yng]; exact Tile.congr (fun p hp => tp p (.inl hp)) R.ty
  have t2 : Tile (O.ar.store (φ a + 1 + i) (encV φ u)) O.ar.things.2 (O.ar.store (φ a + 1 + i) (encV φ u)).nur (O.ar.store (φ a + 1 + i) (encV φ u)).grn := by
    rw [Ar.store_nur, Ar.store_grn]; exact Tile.congr (fun p hp => tp p (.inr hp)) R.tz
  have hthi := Tile.things hok t1 t2
  refine ⟨⟨hok, R.ho.h12, R.ho.hR, R.ho.hg, R.ho.hw, R.ho.hq, by show cd.length ≤ 1000; rw [hc1]; exact R.ho.hc⟩, R.hw.setF ha (by simp) (fun v hv => ?_), by rw [hthi]; exact t1, by rw [hthi]; exact t2,
    fun j k hj hk e => R.inj j k ((hlv j).1 hj) ((hlv k).1 hk) e, fun p hp => ?_, fun j hj ho => ?_, fun j hj ho => ?_, fun j hj => ?_, fun j hj n v hv => ?_, R.rt, R.rg, R.wt, ?_, ?_, by show cd.length = _; rw [hc1]; exact R.cl, fun j hj ho v hv h3 hy => ?_⟩
  · rcases List.mem_or_eq_of_mem_set hv with h5 | rfl
    · exact R.hw.tv a ha v h5
    · exact hu
  · rw [hthi] at hp
    obtain ⟨j, hj, e⟩ := R.onto p hp
    exact ⟨j, (hlv j).2 hj, e⟩
  · rw [hthi]
    have hj' := (hlv j).1 hj
    rw [hold hj'] at ho
    exact R.iny j hj' ho
  · rw [hthi]
    have hj' := (hlv j).1 hj
    rw [hold hj'] at ho
    exact R.ino j hj' ho
  · have hj' := (hlv j).1 hj
    show (O.ar.store _ _).thing (φ j) = _
    rw [hst j hj', R.th j hj', hth hj']
    split
    · rename_i e; subst e; simp
    · rfl
  · have hj' := (hlv j).1 hj
    rw [hth hj'] at hv
    show (O.ar.store _ _).load _ = _
    rw [hload]
    by_cases e : j = a
    · subst e
      rw [if_pos rfl] at hv
      dsimp only at hv
      rw [List.getElem?_set] at hv
      by_cases en : i.toNat = n
      · rw [if_pos en] at hv
        subst en
        rw [if_pos (by omega)] at hv
        cases hv
        rw [if_pos ⟨by omega, huse⟩]
      · rw [if_neg en] at hv
        rw [if_neg (fun h => by omega)]
        exact R.fl j hj' n v hv
    · rw [if_neg e] at hv
      have hn : n < (W.th j).fs.length := (List.getElem?_eq_some_iff.1 hv).1
      have := R.apart hj' ha e
      rw [if_neg (fun h => by omega)]
      exact R.fl j hj' n v hv
  · show ((O.ar.store _ _).nur : Int) = W.most; rw [Ar.store_nur]; exact R.nur
  · show ((O.ar.store _ _).ws.length : Int) = W.most + W.grow; rw [Ar.store_len]; exact R.len
  · show dirtyL (O.ar.store _ _).nur cd (φ j) = true
    rw [Ar.store_nur]
    have hj' := (hlv j).1 hj
    rw [hold hj'] at ho
    have inF : ∀ w ∈ (W.th j).fs, w = v → dirtyL O.ar.nur cd (φ j) = true := fun w hw e => by
      subst e
      have hl3 := Wd.okV_ref (R.hw.tv j hj' w hw) h3
      rw [hold hl3] at hy
      exact hc2 _ (R.card j hj' ho w hw h3 hy)
    rw [hth hj'] at hv
    by_cases e : j = a
    · subst e
      rw [if_pos rfl] at hv
      rcases List.mem_or_eq_of_mem_set hv with h5 | rfl
      · exact inF v h5 rfl
      · rw [hold (Wd.okV_ref hu h3)] at hy
        exact hc3 h3 hy ho
    · rw [if_neg e] at hv
      exact inF v hv rfl

/-- Set, in a wood and a world. -/
theorem Rep.set (R : Rep O W φ) {v u : Vl} (hv : W.okV v) (hu : W.okV u) (i : Int) :
    (O.set (encV φ v) i (encV φ u)).1 = (if v.1 ≠ 3 ∨ (W.th v.2).k = 5 then 2 else if i < 0 ∨ ((W.th v.2).fs.length : Int) ≤ i then 1 else 0) ∧
    ((O.set (encV φ v) i (encV φ u)).1 ≠ 0 → (O.set (encV φ v) i (encV φ u)).2 = O) ∧
    ((O.set (encV φ v) i (encV φ u)).1 = 0 → Rep (O.set (encV φ v) i (encV φ u)).2 (W.setF v.2 ((W.th v.2).fs.set i.toNat u)) φ) := by
  have hg := R.get hv i
  by_cases hc : (O.ar.get (encV φ v) i).2 = 0
  · rw [Wo.set_yes' hc]
    rw [hg] at hc
    by_cases c1 : v.1 ≠ 3 ∨ (W.th v.2).k = 5
    · rw [if_pos c1] at hc; cases hc
    · rw [if_neg c1] at hc ⊢
      by_cases c2 : i < 0 ∨ ((W.th v.2).fs.length : Int) ≤ i
      · rw [if_pos c2] at hc; cases hc
      · rw [if_neg c2]
        refine ⟨rfl, fun h => (h rfl).elim, fun _ => ?_⟩
        have h3 : v.1 = 3 := Decidable.byContradiction fun h => c1 (.inl h)
        have ha := Wd.okV_ref hv h3
        have e4 : encV φ v / 4 = φ v.2 := by rw [encV_ref φ h3]; omega
        dsimp only
        rw [e4]
        have hst : ∀ p q x, (O.ar.store q x).young p = O.ar.young p ∧ (O.ar.store q x).old p = O.ar.old p := fun p q x => by
          unfold Ar.young Ar.old; rw [Ar.store_yng, Ar.store_nur, Ar.store_grn]; exact ⟨rfl, rfl⟩
        refine R.setF ha (by omega) (by omega) hu ?_ (fun p hp => ?_) (fun hu3 huo hao => ?_)
        · split
          · exact markL_length _ _ _
          · rfl
        · split
          · exact dirtyL_mark _ hp
          · exact hp
        · have hul := Wd.okV_ref hu hu3
          have e5 : encV φ u / 4 = φ u.2 := by rw [encV_ref φ hu3]; omega
          rw [if_pos ⟨(encV_mod hu).2 hu3, by rw [(hst _ _ _).1, e5]; exact (R.young_iff hul).2 huo, by rw [(hst _ _ _).2]; exact (R.old_iff ha).2 hao⟩]
          have hp := (R.old_iff ha).2 hao
          rw [Go.Proofs.Ytjifdalflepcoab.old_iff] at hp
          have hl := R.len; have hn := R.nur; have hcl := R.cl; have h3' := R.ho.ha.h3; have hg1 := R.hw.g1
          refine dirtyL_self hp.1 ?_
          rw [hcl]
          unfold cardsN
          omega
  · rw [Wo.set_no' hc]
    rw [hg] at hc ⊢
    by_cases c1 : v.1 ≠ 3 ∨ (W.th v.2).k = 5
    · rw [if_pos c1, if_pos c1]; exact ⟨rfl, fun _ => rfl, fun h => by cases h⟩
    · rw [if_neg c1] at hc ⊢
      rw [if_neg c1]
      by_cases c2 : i < 0 ∨ ((W.th v.2).fs.length : Int) ≤ i
      · rw [if_pos c2, if_pos c2]; exact ⟨rfl, fun _ => rfl, fun h => by cases h⟩
      · rw [if_neg c2] at hc; exact (hc rfl).elim

/-! What stands beside. -/

theorem Rep.reg (R : Rep O W φ) {e : Int × Int} (he : W.okE e) (hr : W.regs.length + W.wait.length < 24) : Rep { O with rg := O.rg ++ [encE φ e] } { W with regs := W.regs ++ [e] } φ := by
  have hle := R.place he.1; have hle2 := R.place he.2.2
  refine ⟨⟨R.ho.ha, R.ho.h12, R.ho.hR, fun x hx => ?_, R.ho.hw, ?_, R.ho.hc⟩, ?_, R.ty, R.tz, R.inj, R.onto, R.iny, R.ino, R.th, R.fl, R.rt, ?_, R.wt, R.nur, R.len, R.cl, R.card⟩
  · rcases List.mem_append.1 hx with h1 | h1
    · exact R.ho.hg x h1
    · rw [List.mem_singleton.1 h1]
      unfold encE R64e R64
      dsimp only
      omega
  · have h1 : O.rg.length = W.regs.length := by rw [R.rg]; simp
    have h2 : O.wt.length = W.wait.length := by rw [R.wt]; simp
    simp; omega
  · have h := R.hw
    refine ⟨h.hr, h.rv, h.tk, h.tv, fun x hx => ?_, h.wv, by simp; omega, h.m1, h.m2, h.g1, h.g2, h.uy, h.uo⟩
    rcases List.mem_append.1 hx with h1 | h1
    · exact h.gv x h1
    · rw [List.mem_singleton.1 h1]; exact he
  · show O.rg ++ [encE φ e] = (W.regs ++ [e]).map (encE φ)
    rw [R.rg]; simp

end
end Go.Proofs.Ytjifdalflepcoab
