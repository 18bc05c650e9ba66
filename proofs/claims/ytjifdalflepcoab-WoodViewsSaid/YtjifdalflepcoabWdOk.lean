/-
  A world stays in order, whatever is done. No program in sight.
-/
import Derived.Test.YtjifdalflepcoabWd
namespace Go.Proofs.Ytjifdalflepcoab
set_option linter.unusedVariables false
set_option linter.unusedSimpArgs false

def Wd.live (W : Wd) (i : Int) : Prop := 0 ≤ i ∧ i < W.T.length ∧ (W.th i).dead = false

/-- A value that may stand in a world. -/
def Wd.okV (W : Wd) (v : Vl) : Prop := (v.1 = 0 ∧ v.2 = 0) ∨ (v.1 = 1 ∧ -big ≤ v.2 ∧ v.2 < big) ∨ (v.1 = 2 ∧ v.2 = 0) ∨ (v.1 = 3 ∧ W.live v.2)

def Wd.okE (W : Wd) (e : Int × Int) : Prop := W.live e.1 ∧ (W.th e.1).k = 5 ∧ W.live e.2

structure Wd.ok (W : Wd) : Prop where
  hr : W.roots.length = 12
  rv : ∀ v ∈ W.roots, W.okV v
  tk : ∀ i, W.live i → fitsW (W.th i).k (W.th i).fs.length = true
  tv : ∀ i, W.live i → ∀ v ∈ (W.th i).fs, W.okV v
  gv : ∀ e ∈ W.regs, W.okE e
  wv : ∀ e ∈ W.wait, W.okE e
  hq : W.regs.length + W.wait.length ≤ 24
  m1 : 16 ≤ W.most
  m2 : W.most ≤ 256
  g1 : 0 ≤ W.grow
  g2 : W.grow ≤ 1024
  uy : W.young ≤ W.most
  uo : W.olds ≤ W.grow

theorem Wd.live_th {W : Wd} {i : Int} (h : W.live i) : ∃ (h' : i.toNat < W.T.length), W.th i = W.T[i.toNat] := by
  have h1 := h.1; have h2 := h.2.1
  have h' : i.toNat < W.T.length := by omega
  exact ⟨h', by unfold Wd.th; rw [List.getD_eq_getElem?_getD, List.getElem?_eq_getElem h']; rfl⟩

theorem Wd.okV_ref {W : Wd} {v : Vl} (h : W.okV v) (h3 : v.1 = 3) : W.live v.2 := by
  rcases h with h | h | h | h
  · have := h.1; omega
  · have := h.1; omega
  · have := h.1; omega
  · exact h.2

theorem Wd.okV_mono {W W' : Wd} (h : ∀ i, W.live i → W'.live i) {v : Vl} (hv : W.okV v) : W'.okV v := by
  rcases hv with h1 | h1 | h1 | h1
  · exact .inl h1
  · exact .inr (.inl h1)
  · exact .inr (.inr (.inl h1))
  · exact .inr (.inr (.inr ⟨h1.1, h _ h1.2⟩))

theorem sumW_nonneg (l : List Th) (p : Th → Bool) : 0 ≤ sumW l p := by
  unfold sumW
  induction l with
  | nil => simp
  | cons t l ih =>
    simp only [List.map_cons, List.sum_cons]
    have : 0 ≤ (if p t then t.words else 0) := by split <;> simp [Th.words]; omega
    omega

theorem sumW_app (a b : List Th) (p : Th → Bool) : sumW (a ++ b) p = sumW a p + sumW b p := by simp [sumW]

theorem sumW_set (l : List Th) (p : Th → Bool) (i : Nat) (t : Th) (h : i < l.length) (hp : p t = p l[i]) (hw : t.words = l[i].words) : sumW (l.set i t) p = sumW l p := by
  unfold sumW
  have : (l.set i t).map (fun t => if p t then t.words else 0) = l.map (fun t => if p t then t.words else 0) := by
    apply List.ext_getElem (by simp)
    intro j h1 h2
    simp only [List.getElem_map, List.getElem_set]
    split
    · rename_i e; subst e; rw [hp, hw]
    · rfl
  rw [this]

theorem Wd.rt_mem {W : Wd} (h : W.ok) {k : Int} (h0 : 0 ≤ k) (h1 : k < 12) : W.rt k ∈ W.roots := by
  have := h.hr
  unfold Wd.rt
  rw [List.getD_eq_getElem?_getD, List.getElem?_eq_getElem (by omega)]
  exact List.getElem_mem _

theorem Wd.rt_ok {W : Wd} (h : W.ok) (k : Int) : W.okV (W.rt k) := by
  unfold Wd.rt
  rw [List.getD_eq_getElem?_getD]
  cases hx : W.roots[k.toNat]? with
  | none => exact .inl ⟨rfl, rfl⟩
  | some v => exact h.rv _ (List.mem_of_getElem? hx)

theorem Wd.ok.setR {W : Wd} (h : W.ok) {v : Vl} (hv : W.okV v) (r : Int) : (W.setR r v).ok := by
  refine ⟨by simpa [Wd.setR] using h.hr, fun u hu => ?_, h.tk, h.tv, h.gv, h.wv, h.hq, h.m1, h.m2, h.g1, h.g2, h.uy, h.uo⟩
  rcases List.mem_or_eq_of_mem_set hu with h1 | rfl
  · exact h.rv u h1
  · exact hv

theorem Wd.th_put {W : Wd} {r k : Int} {l : List Vl} {i : Int} (h0 : 0 ≤ i) (h : i < W.T.length) : (W.put r k l).th i = W.th i := by
  unfold Wd.th Wd.put
  simp only [List.getD_eq_getElem?_getD]
  rw [List.getElem?_append_left (by omega)]

theorem Wd.th_put_new {W : Wd} {r k : Int} {l : List Vl} : (W.put r k l).th W.T.length = ⟨k, l, false, false⟩ := by
  unfold Wd.th Wd.put
  simp only [List.getD_eq_getElem?_getD, Int.toNat_natCast]
  rw [List.getElem?_append_right (Nat.le_refl _)]
  simp

theorem Wd.live_put {W : Wd} {r k : Int} {l : List Vl} {i : Int} (h : W.live i) : (W.put r k l).live i := by
  refine ⟨h.1, ?_, ?_⟩
  · have := h.2.1; simp [Wd.put]; omega
  · rw [Wd.th_put h.1 h.2.1]; exact h.2.2

theorem Wd.put_live {W : Wd} {r k : Int} {l : List Vl} {i : Int} (h : (W.put r k l).live i) : W.live i ∨ i = W.T.length := by
  have h1 := h.2.1
  simp [Wd.put] at h1
  by_cases e : i = W.T.length
  · exact .inr e
  · refine .inl ⟨h.1, by omega, ?_⟩
    have := h.2.2
    rwa [Wd.th_put h.1 (by omega)] at this

theorem Wd.put_young {W : Wd} {r k : Int} {l : List Vl} : (W.put r k l).young = W.young + (1 + l.length) := by
  unfold Wd.young Wd.put
  rw [sumW_app]
  simp [sumW, Th.words]

theorem Wd.put_olds {W : Wd} {r k : Int} {l : List Vl} : (W.put r k l).olds = W.olds := by
  unfold Wd.olds Wd.put
  rw [sumW_app]
  simp [sumW]

theorem Wd.ok.put {W : Wd} (h : W.ok) {r k : Int} {l : List Vl} (hf : fitsW k l.length = true) (hl : ∀ v ∈ l, W.okV v) (hroom : 1 + (l.length : Int) ≤ W.most - W.young) : (W.put r k l).ok := by
  have hm : ∀ {v}, W.okV v → (W.put r k l).okV v := fun hv => Wd.okV_mono (fun i hi => Wd.live_put hi) hv
  have he : ∀ e, W.okE e → (W.put r k l).okE e := fun e he => ⟨Wd.live_put he.1, by rw [Wd.th_put he.1.1 he.1.2.1]; exact he.2.1, Wd.live_put he.2.2⟩
  refine ⟨by simpa [Wd.put] using h.hr, fun u hu => ?_, fun i hi => ?_, fun i hi v hv => ?_, fun e h1 => he e (h.gv e h1), fun e h1 => he e (h.wv e h1), h.hq, h.m1, h.m2, h.g1, h.g2, ?_, ?_⟩
  · rcases List.mem_or_eq_of_mem_set hu with h1 | rfl
    · exact hm (h.rv u h1)
    · refine .inr (.inr (.inr ⟨rfl, ?_, ?_, ?_⟩))
      · simp [refV]
      · simp [Wd.put, refV]; omega
      · show ((W.put r k l).th (W.T.length : Int)).dead = false
        rw [Wd.th_put_new]
  · rcases Wd.put_live hi with h1 | rfl
    · rw [Wd.th_put h1.1 h1.2.1]; exact h.tk i h1
    · rw [Wd.th_put_new]; exact hf
  · rcases Wd.put_live hi with h1 | rfl
    · rw [Wd.th_put h1.1 h1.2.1] at hv; exact hm (h.tv i h1 v hv)
    · rw [Wd.th_put_new] at hv; exact hm (hl v hv)
  · show (W.put r k l).young ≤ W.most
    rw [Wd.put_young]; omega
  · show (W.put r k l).olds ≤ W.grow
    rw [Wd.put_olds]; exact h.uo

theorem Wd.th_setF {W : Wd} {j : Int} {fs : List Vl} {i : Int} (h0 : 0 ≤ i) (hj : W.live j) : (W.setF j fs).th i = if i = j then { W.th j with fs := fs } else W.th i := by
  obtain ⟨h', e⟩ := Wd.live_th hj
  unfold Wd.setF
  simp only [Wd.th, List.getD_eq_getElem?_getD, List.getElem?_set]
  by_cases e2 : i = j
  · subst e2; rw [if_pos rfl, if_pos h', if_pos rfl]; rfl
  · have := hj.1
    rw [if_neg (by omega), if_neg e2]

theorem Wd.setF_live {W : Wd} {j : Int} {fs : List Vl} (hj : W.live j) (i : Int) : (W.setF j fs).live i ↔ W.live i := by
  unfold Wd.live
  constructor
  · rintro ⟨h0, h1, h2⟩
    rw [Wd.th_setF h0 hj] at h2
    refine ⟨h0, by simpa [Wd.setF] using h1, ?_⟩
    by_cases e : i = j
    · subst e; exact hj.2.2
    · rwa [if_neg e] at h2
  · rintro ⟨h0, h1, h2⟩
    refine ⟨h0, by simpa [Wd.setF] using h1, ?_⟩
    rw [Wd.th_setF h0 hj]
    split
    · exact hj.2.2
    · exact h2

theorem Wd.setF_kind {W : Wd} {j : Int} {fs : List Vl} (hj : W.live j) {i : Int} (h0 : 0 ≤ i) : ((W.setF j fs).th i).k = (W.th i).k := by
  rw [Wd.th_setF h0 hj]
  split
  · rename_i e; subst e; rfl
  · rfl

theorem Wd.setF_sum {W : Wd} {j : Int} {fs : List Vl} (hj : W.live j) (hl : fs.length = (W.th j).fs.length) : (W.setF j fs).young = W.young ∧ (W.setF j fs).olds = W.olds := by
  obtain ⟨h', e⟩ := Wd.live_th hj
  constructor
  · exact sumW_set _ _ _ _ h' (by simp [e]) (by simp [Th.words, hl, e])
  · exact sumW_set _ _ _ _ h' (by simp [e]) (by simp [Th.words, hl, e])

theorem Wd.ok.setF {W : Wd} (h : W.ok) {j : Int} {fs : List Vl} (hj : W.live j) (hl : fs.length = (W.th j).fs.length) (hv : ∀ v ∈ fs, W.okV v) : (W.setF j fs).ok := by
  have hm : ∀ {v}, W.okV v → (W.setF j fs).okV v := fun hv => Wd.okV_mono (fun i hi => (Wd.setF_live hj i).2 hi) hv
  have he : ∀ e, W.okE e → (W.setF j fs).okE e := fun e he => ⟨(Wd.setF_live hj _).2 he.1, by rw [Wd.setF_kind hj he.1.1]; exact he.2.1, (Wd.setF_live hj _).2 he.2.2⟩
  have hs := Wd.setF_sum hj hl
  refine ⟨h.hr, fun u hu => hm (h.rv u hu), fun i hi => ?_, fun i hi v hv' => ?_, fun e h1 => he e (h.gv e h1), fun e h1 => he e (h.wv e h1), h.hq, h.m1, h.m2, h.g1, h.g2, ?_, ?_⟩
  · have h1 := (Wd.setF_live hj i).1 hi
    rw [Wd.th_setF hi.1 hj]
    split
    · rename_i e; subst e; show fitsW (W.th i).k (fs.length : Nat) = true; rw [hl]; exact h.tk i h1
    · exact h.tk i h1
  · have h1 := (Wd.setF_live hj i).1 hi
    rw [Wd.th_setF hi.1 hj] at hv'
    split at hv'
    · exact hm (hv v hv')
    · exact hm (h.tv i h1 v hv')
  · show (W.setF j fs).young ≤ W.most; rw [hs.1]; exact h.uy
  · show (W.setF j fs).olds ≤ W.grow; rw [hs.2]; exact h.uo

/-! Cuts. -/

theorem Wd.first_length (W : Wd) (major : Bool) : (W.first major).length = W.T.length := by simp [Wd.first]

theorem Wd.first_at {W : Wd} {major : Bool} {i : Int} : atB (W.first major) i = true ↔ 0 ≤ i ∧ i < W.T.length ∧ (((W.th i).old = true ∧ (W.th i).dead = false ∧ major = false) ∨ ((3, i) : Vl) ∈ W.roots) := by
  constructor
  · intro h
    have hb := atB_lt h
    rw [Wd.first_length] at hb
    refine ⟨hb.1, hb.2, ?_⟩
    unfold atB Wd.first at h
    simp only [Bool.and_eq_true, List.getD_eq_getElem?_getD, List.getElem?_map] at h
    rw [List.getElem?_range (by omega)] at h
    have h2 := h.2
    simp only [Option.map_some, Option.getD_some, show ((i.toNat : Nat) : Int) = i by omega, Bool.or_eq_true, Bool.and_eq_true, Bool.not_eq_true', List.any_eq_true, beq_iff_eq] at h2
    rcases h2 with h2 | ⟨v, h3, h4, h5⟩
    · exact .inl ⟨h2.1.1, h2.1.2, h2.2⟩
    · right
      have : v = (3, i) := by cases v; simp_all
      rwa [this] at h3
  · rintro ⟨h0, h1, h2⟩
    unfold atB Wd.first
    simp only [Bool.and_eq_true, List.getD_eq_getElem?_getD, List.getElem?_map]
    rw [List.getElem?_range (by omega)]
    refine ⟨by simpa using h0, ?_⟩
    simp only [Option.map_some, Option.getD_some, show ((i.toNat : Nat) : Int) = i by omega, Bool.or_eq_true, Bool.and_eq_true, Bool.not_eq_true', List.any_eq_true, beq_iff_eq]
    rcases h2 with h2 | h2
    · exact .inl ⟨⟨h2.1, h2.2.1⟩, h2.2.2⟩
    · exact .inr ⟨_, h2, rfl, rfl⟩

/-- What is alive and what waits, in the midst of a cut. -/
structure Wd.Mid (W : Wd) (major : Bool) (is : List Bool) (q : List (Int × Int)) : Prop where
  len : is.length = W.T.length
  live : ∀ i, atB is i = true → W.live i
  first : ∀ i, atB (W.first major) i = true → atB is i = true
  shut : Closed W.nd q fun i => atB is i = true
  wv : ∀ e ∈ q, W.okE e

theorem Wd.shut_live {W : Wd} (h : W.ok) {q : List (Int × Int)} (hq : ∀ e ∈ q, W.okE e) : Closed W.nd q W.live := by
  intro i j hi hl
  rcases hl with h1 | h1 | h1 | h1
  · exact Wd.okV_ref (h.tv i hi _ h1.2) rfl
  · exact Wd.okV_ref (h.tv i hi _ (List.mem_of_getElem? h1.2)) rfl
  · exact Wd.okV_ref (h.tv i hi _ (List.mem_of_getElem? h1.2.1)) rfl
  · exact (hq _ h1.2).2.2

theorem Wd.first_live {W : Wd} (h : W.ok) {major : Bool} {i : Int} (hi : atB (W.first major) i = true) : W.live i := by
  obtain ⟨h0, h1, h2 | h2⟩ := Wd.first_at.1 hi
  · exact ⟨h0, h1, h2.2.1⟩
  · exact Wd.okV_ref (h.rv _ h2) rfl

theorem Wd.Mid.start {W : Wd} (h : W.ok) (major : Bool) : W.Mid major (W.clo W.wait (W.first major)) W.wait := by
  have hlen : (W.clo W.wait (W.first major)).length = W.T.length := by unfold Wd.clo; rw [cloL_length, Wd.first_length]
  have hl : ∀ i, atB (W.clo W.wait (W.first major)) i = true → W.live i := fun i hi =>
    (cloL_at.1 hi).2.2.least (fun k hk => Wd.first_live h hk) (Wd.shut_live h h.wv)
  refine ⟨hlen, hl, fun i hi => cloL_at.2 ⟨(atB_lt hi).1, (atB_lt hi).2, Alive.base hi⟩, ?_, h.wv⟩
  intro i j hi hj
  have hlv := Wd.shut_live h h.wv i j (hl i hi) (hj.mono (fun k hk => hl k hk) (fun _ h => h))
  refine cloL_at.2 ⟨hlv.1, by rw [Wd.first_length]; exact hlv.2.1, ?_⟩
  exact Alive.closed _ _ _ i j (cloL_at.1 hi).2.2 (hj.mono (fun k hk => (cloL_at.1 hk).2.2) (fun _ h => h))

/-- One more is kept, and waits. -/
theorem Wd.Mid.keep {W : Wd} (h : W.ok) {major : Bool} {is : List Bool} {q : List (Int × Int)} (m : W.Mid major is q) {g x : Int} (hx : W.live x) (hg : W.live g) (hk : (W.th g).k = 5) :
    W.Mid major (W.clo q (is.set x.toNat true)) (q ++ [(g, x)]) ∧ (∀ i, atB is i = true → atB (W.clo q (is.set x.toNat true)) i = true) ∧ atB (W.clo q (is.set x.toNat true)) x = true := by
  have hset : ∀ i, atB (is.set x.toNat true) i = true ↔ i = x ∨ atB is i = true := fun i => atB_set hx.1 (by rw [m.len]; exact hx.2.1)
  have hsl : (is.set x.toNat true).length = W.T.length := by rw [List.length_set, m.len]
  have hq' : ∀ e ∈ q ++ [(g, x)], W.okE e := by
    intro e he
    rcases List.mem_append.1 he with h1 | h1
    · exact m.wv e h1
    · rw [List.mem_singleton.1 h1]; exact ⟨hg, hk, hx⟩
  have hsv : ∀ k, atB (is.set x.toNat true) k = true → W.live k := by
    intro k hk
    rcases (hset k).1 hk with rfl | h1
    · exact hx
    · exact m.live k h1
  have hl : ∀ i, atB (W.clo q (is.set x.toNat true)) i = true → W.live i := fun i hi => (cloL_at.1 hi).2.2.least hsv (Wd.shut_live h m.wv)
  have up : ∀ i, atB (is.set x.toNat true) i = true → atB (W.clo q (is.set x.toNat true)) i = true := fun i hi => cloL_at.2 ⟨(atB_lt hi).1, (atB_lt hi).2, Alive.base hi⟩
  have hxx := up x ((hset x).2 (.inl rfl))
  refine ⟨⟨by unfold Wd.clo; rw [cloL_length, hsl], hl, fun i hi => up i ((hset i).2 (.inr (m.first i hi))), ?_, hq'⟩, fun i hi => up i ((hset i).2 (.inr hi)), hxx⟩
  intro i j hi hj
  by_cases e : j = x
  · subst e; exact hxx
  · have hj' : Leads W.nd q (fun k => atB (W.clo q (is.set x.toNat true)) k = true) i j := by
      rcases hj with h1 | h1 | h1 | ⟨h1, h2⟩
      · exact .inl h1
      · exact .inr (.inl h1)
      · exact .inr (.inr (.inl h1))
      · refine .inr (.inr (.inr ⟨h1, ?_⟩))
        rcases List.mem_append.1 h2 with h3 | h3
        · exact h3
        · simp at h3; exact absurd h3.2 e
    have hlv := Wd.shut_live h m.wv i j (hl i hi) (hj'.mono (fun k hk => hl k hk) (fun _ h => h))
    refine cloL_at.2 ⟨hlv.1, by rw [hsl]; exact hlv.2.1, ?_⟩
    exact Alive.closed _ _ _ i j (cloL_at.1 hi).2.2 (hj'.mono (fun k hk => (cloL_at.1 hk).2.2) (fun _ h => h))

/-- What was gone over: of what is registered; of what was not dead the thing is alive. -/
def itOk (W : Wd) (is : List Bool) (i : It) : Prop := W.okE i.1 ∧ (i.2.1 = false → atB is i.1.2 = true)

theorem unN_moved (a : Int × Int) (b : Bool) (l : List It) : unN ((a, b, true) :: l) = unN l := by rw [unN_cons]; simp
theorem unN_yet {i : It} (h : i.2.2 = false) (l : List It) : unN (i :: l) = 1 + unN l := by rw [unN_cons, h]; simp
theorem unN_none (l : List (Int × Int)) (f : Int × Int → Bool) : unN (l.map fun e => (e, f e, false)) = l.length := by
  induction l with
  | nil => rfl
  | cons a l ih => rw [List.map_cons, unN_yet rfl, ih]; simp; omega

theorem Wd.Mid.scan {W : Wd} (h : W.ok) {major : Bool} : ∀ (l : List It) (is : List Bool) (q : List (Int × Int)), W.Mid major is q → (∀ i ∈ l, W.okE i.1) →
    W.Mid major (scanM atB W.keepW is q l).1 (scanM atB W.keepW is q l).2.1 ∧ (∀ i, atB is i = true → atB (scanM atB W.keepW is q l).1 i = true) ∧
    (scanM atB W.keepW is q l).2.1.length + unN (scanM atB W.keepW is q l).2.2.1 = q.length + unN l
  | [], is, q, m, _ => ⟨m, fun _ h => h, rfl⟩
  | i :: l, is, q, m, hl => by
    have hi := hl i (by simp)
    simp only [scanM]
    split
    · rename_i hc
      simp only [Bool.and_eq_true, Bool.not_eq_true'] at hc
      obtain ⟨m', hm1, _⟩ := m.keep h (g := i.1.1) (x := i.1.2) hi.2.2 hi.1 hi.2.1
      have ih := Wd.Mid.scan h l _ _ m' (fun j hj => hl j (by simp [hj]))
      simp only [Wd.keepW]
      refine ⟨ih.1, fun k hk => ih.2.1 k (hm1 k hk), ?_⟩
      have h3 := ih.2.2
      simp only [Wd.keepW, List.length_append, List.length_cons, List.length_nil] at h3
      rw [unN_moved, unN_yet hc.1.2]
      omega
    · have ih := Wd.Mid.scan h l is q m (fun j hj => hl j (by simp [hj]))
      refine ⟨ih.1, ih.2.1, ?_⟩
      have h3 := ih.2.2
      simp only [unN_cons] at h3 ⊢
      omega

theorem scan_items {W : Wd} {l : List It} (is : List Bool) (q : List (Int × Int)) (hl : ∀ i ∈ l, W.okE i.1) : ∀ i ∈ (scanM atB W.keepW is q l).2.2.1, W.okE i.1 := by
  intro i hi
  have h1 : (i.1, i.2.1) ∈ (scanM atB W.keepW is q l).2.2.1.map (fun i => (i.1, i.2.1)) := List.mem_map.2 ⟨i, hi, rfl⟩
  rw [scanM_fst] at h1
  obtain ⟨j, hj, e⟩ := List.mem_map.1 h1
  have := hl j hj
  have e1 : j.1 = i.1 := congrArg (fun p : (Int × Int) × Bool => p.1) e
  rwa [e1] at this

theorem Wd.Mid.rounds {W : Wd} (h : W.ok) {major : Bool} : ∀ (n : Nat) (l : List It) (is : List Bool) (q : List (Int × Int)), W.Mid major is q → (∀ i ∈ l, W.okE i.1) →
    W.Mid major (roundsM atB W.keepW n is q l).1 (roundsM atB W.keepW n is q l).2.1 ∧ (∀ i, atB is i = true → atB (roundsM atB W.keepW n is q l).1 i = true) ∧
    (roundsM atB W.keepW n is q l).2.1.length + unN (roundsM atB W.keepW n is q l).2.2 = q.length + unN l ∧
    (roundsM atB W.keepW n is q l).2.2.map (fun i => (i.1, i.2.1)) = l.map (fun i => (i.1, i.2.1))
  | 0, l, is, q, m, _ => ⟨m, fun _ h => h, rfl, rfl⟩
  | n + 1, l, is, q, m, hl => by
    have hs := Wd.Mid.scan h l is q m hl
    have hf := scanM_fst atB W.keepW l is q
    simp only [roundsM]
    split
    · have ih := Wd.Mid.rounds h n (scanM atB W.keepW is q l).2.2.1 _ _ hs.1 (scan_items is q hl)
      refine ⟨ih.1, fun k hk => ih.2.1 k (hs.2.1 k hk), by rw [ih.2.2.1, hs.2.2], by rw [ih.2.2.2, hf]⟩
    · exact ⟨hs.1, hs.2.1, hs.2.2, hf⟩

theorem Wd.pass_mid {W : Wd} (h : W.ok) (major : Bool) : W.Mid major (W.pass major).1 (W.pass major).2.1 ∧ (∀ i, atB (W.clo W.wait (W.first major)) i = true → atB (W.pass major).1 i = true) ∧
    (W.pass major).2.1.length + unN (W.pass major).2.2 = W.wait.length + W.regs.length ∧
    (W.pass major).2.2.map (fun i => (i.1, i.2.1)) = W.regs.map fun e => (e, !atB (W.clo W.wait (W.first major)) e.2) := by
  have := Wd.Mid.rounds h (W.regs.length + 1) (itemsM atB (W.clo W.wait (W.first major)) W.regs) _ _ (Wd.Mid.start h major) (by
    intro i hi
    simp only [itemsM, List.mem_map] at hi
    obtain ⟨e, he, rfl⟩ := hi
    exact h.gv e he)
  refine ⟨this.1, this.2.1, ?_, ?_⟩
  · have h3 := this.2.2.1
    have : unN (itemsM atB (W.clo W.wait (W.first major)) W.regs) = W.regs.length := unN_none _ _
    rw [this] at h3
    exact h3
  · have h3 := this.2.2.2
    rw [Wd.pass, passM, h3]
    simp [itemsM]

end Go.Proofs.Ytjifdalflepcoab
