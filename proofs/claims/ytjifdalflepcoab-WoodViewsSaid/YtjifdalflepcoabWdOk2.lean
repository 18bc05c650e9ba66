/-
  A world stays in order, behind a cut and behind a step. No program in sight.
-/
import Derived.Test.YtjifdalflepcoabWdOk
namespace Go.Proofs.Ytjifdalflepcoab
set_option linter.unusedVariables false
set_option linter.unusedSimpArgs false

theorem atB_toNat {is : List Bool} {i : Int} (h0 : 0 ≤ i) : is.getD i.toNat false = atB is i := by unfold atB; simp [h0]

theorem cutT_kind (is : List Bool) (i : Nat) (t : Th) : (cutT is i t).k = t.k := by unfold cutT; split <;> rfl
theorem cutT_live {is : List Bool} {i : Nat} {t : Th} (h : is.getD i false = true) : (cutT is i t).dead = t.dead ∧ (cutT is i t).old = true := by unfold cutT; rw [if_pos h]; exact ⟨rfl, rfl⟩
theorem cutT_dead {is : List Bool} {i : Nat} {t : Th} (h : is.getD i false = false) : (cutT is i t).dead = true := by unfold cutT; rw [if_neg (by rw [h]; decide)]

theorem cutT_len {is : List Bool} {i : Nat} {t : Th} (h : is.getD i false = true) (hf : fitsW t.k t.fs.length = true) : (cutT is i t).fs.length = t.fs.length := by
  unfold cutT
  rw [if_pos h]
  show List.length (if _ then _ else _) = _
  split
  · rename_i hc
    rw [hc.1] at hf
    simp [fitsW] at hf
    simp; omega
  · split
    · rename_i hc
      rw [hc.1] at hf
      simp [fitsW] at hf
      simp; omega
    · rfl

theorem cutTs_th {W : Wd} {is : List Bool} {i : Int} (h0 : 0 ≤ i) (h1 : i < W.T.length) : (cutTs is W.T).getD i.toNat Th.none = cutT is i.toNat (W.th i) := by
  unfold cutTs Wd.th
  simp only [List.getD_eq_getElem?_getD, List.getElem?_mapIdx]
  rw [List.getElem?_eq_getElem (by omega)]
  rfl

theorem Wd.th_after {W : Wd} {major : Bool} {i : Int} (h0 : 0 ≤ i) (h1 : i < W.T.length) : (W.after major).th i = cutT (W.pass major).1 i.toNat (W.th i) := cutTs_th h0 h1

theorem Wd.after_len {W : Wd} {major : Bool} : (W.after major).T.length = W.T.length := by simp [Wd.after, cutTs]

theorem Wd.after_live {W : Wd} (h : W.ok) {major : Bool} {i : Int} : (W.after major).live i ↔ atB (W.pass major).1 i = true := by
  obtain ⟨m, _⟩ := Wd.pass_mid h major
  constructor
  · rintro ⟨h0, h1, h2⟩
    rw [Wd.after_len] at h1
    rw [Wd.th_after h0 h1] at h2
    cases hb : atB (W.pass major).1 i
    · rw [cutT_dead (by rw [atB_toNat h0, hb])] at h2; cases h2
    · rfl
  · intro hb
    have hl := m.live i hb
    refine ⟨hl.1, by rw [Wd.after_len]; exact hl.2.1, ?_⟩
    rw [Wd.th_after hl.1 hl.2.1, (cutT_live (by rw [atB_toNat hl.1]; exact hb)).1]
    exact hl.2.2

/-- The fields of a thing that is alive, behind a cut. -/
theorem cutT_fields {W : Wd} (h : W.ok) {q : List (Int × Int)} {is : List Bool} (hs : Closed W.nd q fun k => atB is k = true) {i : Int} (hi : W.live i) (hb : atB is i = true) :
    ∀ v ∈ (cutT is i.toNat (W.th i)).fs, (v = (2, 0)) ∨ (v ∈ (W.th i).fs ∧ inS is v = true) := by
  intro v hv
  have hf := h.tk i hi
  unfold cutT at hv
  rw [if_pos (by rw [atB_toNat hi.1]; exact hb)] at hv
  have shut : ∀ j, Leads W.nd q (fun k => atB is k = true) i j → atB is j = true := fun j hj => hs i j hb hj
  have inS_of : ∀ v : Vl, (v.1 = 3 → atB is v.2 = true) → inS is v = true := fun v hv => by
    unfold inS
    by_cases e : v.1 = 3
    · simp [e, hv e]
    · simp [e]
  have two : (W.th i).fs.length = 2 → ∃ a b, (W.th i).fs = [a, b] := fun hl => by
    match hx : (W.th i).fs, hl with
    | [a, b], _ => exact ⟨a, b, rfl⟩
  change v ∈ (if _ then _ else _) at hv
  split at hv
  · left; simp at hv; exact hv
  · rename_i hc4
    split at hv
    · rename_i hc3
      rw [hc3.1] at hf
      simp [fitsW] at hf
      obtain ⟨a, b, e⟩ := two (by omega)
      rw [e] at hv
      simp at hv
      rcases hv with rfl | rfl
      · exact .inl rfl
      · refine .inr ⟨by rw [e]; simp, inS_of _ fun e3 => shut _ (.inr (.inl ⟨hc3.1, ?_⟩))⟩
        show (W.th i).fs[1]? = _
        rw [e]; cases v; simp_all
    · rename_i hc3
      right
      refine ⟨hv, inS_of v fun e3 => ?_⟩
      have e4 : v = (3, v.2) := by cases v; simp_all
      have hk := fitsW_spec hf
      by_cases k12 : (W.th i).k = 1 ∨ (W.th i).k = 2
      · exact shut _ (.inl ⟨k12, by rw [← e4]; exact hv⟩)
      by_cases k3 : (W.th i).k = 3
      · have h0 : inS is ((W.th i).fs.getD 0 (0, 0)) = true := by
          cases hx : inS is ((W.th i).fs.getD 0 (0, 0))
          · exact absurd ⟨k3, hx⟩ hc3
          · rfl
        rw [k3] at hf
        simp [fitsW] at hf
        obtain ⟨a, b, e⟩ := two (by omega)
        rw [e] at hv h0
        simp at hv h0
        rcases hv with rfl | rfl
        · simp [inS, e3] at h0; exact h0
        · exact shut _ (.inr (.inl ⟨k3, by show (W.th i).fs[1]? = _; rw [e, ← e4]; rfl⟩))
      by_cases k4 : (W.th i).k = 4
      · have h0 : inS is ((W.th i).fs.getD 0 (0, 0)) = true := by
          cases hx : inS is ((W.th i).fs.getD 0 (0, 0))
          · exact absurd ⟨k4, hx⟩ hc4
          · rfl
        rw [k4] at hf
        simp [fitsW] at hf
        obtain ⟨a, b, e⟩ := two (by omega)
        rw [e] at hv h0
        simp at hv h0
        rcases hv with rfl | rfl
        · simp [inS, e3] at h0; exact h0
        · refine shut _ (.inr (.inr (.inl ⟨k4, by show (W.th i).fs[1]? = _; rw [e, ← e4]; rfl, fun u hu hu3 => ?_⟩)))
          have hu' : (W.th i).fs[0]? = some u := hu
          rw [e] at hu'
          simp at hu'
          subst hu'
          simp [inS, hu3] at h0; exact h0
      · have k5 : (W.th i).k = 5 := by
          have h1 : (W.th i).k ≠ 1 := fun e => k12 (.inl e)
          have h2 : (W.th i).k ≠ 2 := fun e => k12 (.inr e)
          omega
        rw [k5] at hf
        simp [fitsW] at hf
        have : (W.th i).fs = [] := by
          cases hx : (W.th i).fs with
          | nil => rfl
          | cons a l => rw [hx] at hf; simp at hf
        rw [this] at hv; cases hv

theorem sum_after (is : List Bool) : ∀ (l : List Th) (n : Nat) (hl : ∀ j (h : j < l.length), is.getD (n + j) false = true → l[j].dead = false ∧ fitsW l[j].k l[j].fs.length = true),
    sumW (l.mapIdx fun i t => cutT is (n + i) t) (fun t => !t.dead && !t.old) = 0 ∧
    sumW (l.mapIdx fun i t => cutT is (n + i) t) (fun t => !t.dead && t.old) = (l.mapIdx fun i t => if is.getD (n + i) false then t.words else 0).sum
  | [], _, _ => ⟨rfl, rfl⟩
  | t :: l, n, hl => by
    have ih := sum_after is l (n + 1) (fun j h => by
      have := hl (j + 1) (by simp; omega)
      simp only [List.getElem_cons_succ] at this
      rw [show n + 1 + j = n + (j + 1) by omega]; exact this)
    have e : ∀ (f : Nat → Th → Th), (fun i t => f (n + 1 + i) t) = fun i t => f (n + (i + 1)) t := fun f => by funext i t; rw [show n + 1 + i = n + (i + 1) by omega]
    have e2 : ∀ (f : Nat → Th → Int), (fun i t => f (n + 1 + i) t) = fun i t => f (n + (i + 1)) t := fun f => by funext i t; rw [show n + 1 + i = n + (i + 1) by omega]
    rw [e (cutT is), e2 (fun i t => if is.getD i false then t.words else 0)] at ih
    have h0 := hl 0 (by simp)
    simp only [List.getElem_cons_zero, Nat.add_zero] at h0
    simp only [sumW] at ih ⊢
    simp only [List.mapIdx_cons, List.map_cons, List.sum_cons, Nat.add_zero]
    rw [ih.1, ih.2]
    cases hb : is.getD n false
    · have hd := cutT_dead (t := t) hb
      simp [hd]
    · obtain ⟨h1, h2⟩ := h0 hb
      have hl2 := cutT_live (t := t) hb
      have hl3 := cutT_len hb h2
      simp only [hl2.1, hl2.2, h1, Th.words, hl3]
      simp

theorem Wd.after_sums {W : Wd} (h : W.ok) (major : Bool) : (W.after major).young = 0 ∧ (W.after major).olds = sumL (W.pass major).1 W.T := by
  obtain ⟨m, _⟩ := Wd.pass_mid h major
  have := sum_after (W.pass major).1 W.T 0 (fun j hj hb => by
    rw [Nat.zero_add, ← atB_nat] at hb
    have hl := m.live _ hb
    obtain ⟨h', e⟩ := Wd.live_th hl
    simp only [Int.toNat_natCast] at e
    rw [← e]
    exact ⟨hl.2.2, h.tk _ hl⟩)
  simp only [Nat.zero_add] at this
  exact this

theorem Wd.after_th_alive {W : Wd} (h : W.ok) {major : Bool} {i : Int} (hb : atB (W.pass major).1 i = true) : ((W.after major).th i).k = (W.th i).k := by
  obtain ⟨m, _⟩ := Wd.pass_mid h major
  have hl := m.live i hb
  rw [Wd.th_after hl.1 hl.2.1, cutT_kind]

theorem newRegs_mem {is : List Bool} {l : List It} {e : Int × Int} (h : e ∈ newRegs atB nowW is l) : ∃ i ∈ l, i.1 = e ∧ i.2.1 = false ∧ atB is e.1 = true := by
  unfold newRegs at h
  simp only [List.mem_map, List.mem_filter, Bool.and_eq_true, Bool.not_eq_true'] at h
  obtain ⟨i, ⟨hi, h1, h2⟩, rfl⟩ := h
  exact ⟨i, hi, rfl, h1, h2⟩

theorem newWait_mem {is : List Bool} {l : List (Int × Int)} {e : Int × Int} (h : e ∈ newWait atB nowW is l) : e ∈ l ∧ atB is e.1 = true := by
  unfold newWait at h
  simp only [List.mem_map, List.mem_filter] at h
  obtain ⟨i, ⟨hi, h1⟩, rfl⟩ := h
  exact ⟨hi, h1⟩

theorem Wd.ok.after {W : Wd} (h : W.ok) {major : Bool} (hroom : sumL (W.pass major).1 W.T ≤ W.grow) : (W.after major).ok := by
  obtain ⟨m, hfst, hcnt, hits⟩ := Wd.pass_mid h major
  have hs := Wd.after_sums h major
  have lv : ∀ i, atB (W.pass major).1 i = true → (W.after major).live i := fun i hi => (Wd.after_live h).2 hi
  have clo1 : ∀ i, atB (W.first major) i = true → atB (W.pass major).1 i = true := m.first
  have root : ∀ v ∈ W.roots, v.1 = 3 → atB (W.pass major).1 v.2 = true := fun v hv e => by
    have hl := Wd.okV_ref (h.rv v hv) e
    have e2 : v = (3, v.2) := by cases v; simp_all
    exact m.first _ (Wd.first_at.2 ⟨hl.1, hl.2.1, .inr (by rw [← e2]; exact hv)⟩)
  refine ⟨h.hr, fun v hv => ?_, fun i hi => ?_, fun i hi v hv => ?_, fun e he => ?_, fun e he => ?_, ?_, h.m1, h.m2, h.g1, h.g2, ?_, ?_⟩
  · rcases h.rv v hv with h1 | h1 | h1 | h1
    · exact .inl h1
    · exact .inr (.inl h1)
    · exact .inr (.inr (.inl h1))
    · exact .inr (.inr (.inr ⟨h1.1, lv _ (root v hv h1.1)⟩))
  · have hb := (Wd.after_live h).1 hi
    have hl := m.live i hb
    rw [Wd.th_after hl.1 hl.2.1, cutT_kind, cutT_len (by rw [atB_toNat hl.1]; exact hb) (h.tk i hl)]
    exact h.tk i hl
  · have hb := (Wd.after_live h).1 hi
    have hl := m.live i hb
    rw [Wd.th_after hl.1 hl.2.1] at hv
    rcases cutT_fields h m.shut hl hb v hv with rfl | ⟨hv1, hv2⟩
    · exact .inr (.inr (.inl ⟨rfl, rfl⟩))
    · rcases h.tv i hl v hv1 with h1 | h1 | h1 | h1
      · exact .inl h1
      · exact .inr (.inl h1)
      · exact .inr (.inr (.inl h1))
      · refine .inr (.inr (.inr ⟨h1.1, lv _ ?_⟩))
        simp [inS, h1.1] at hv2
        exact hv2
  · obtain ⟨i, hi, rfl, hd, hg⟩ := newRegs_mem he
    have h1 : (i.1, i.2.1) ∈ (W.pass major).2.2.map (fun i => (i.1, i.2.1)) := List.mem_map.2 ⟨i, hi, rfl⟩
    rw [hits] at h1
    obtain ⟨e, he', e2⟩ := List.mem_map.1 h1
    have e3 : e = i.1 := congrArg (fun p : (Int × Int) × Bool => p.1) e2
    have e4 : (!atB (W.clo W.wait (W.first major)) e.2) = i.2.1 := congrArg (fun p : (Int × Int) × Bool => p.2) e2
    have hgv := h.gv e he'
    rw [e3] at hgv e4
    rw [hd] at e4
    refine ⟨lv _ hg, ?_, lv _ (hfst _ (by simpa using e4))⟩
    rw [Wd.after_th_alive h hg]; exact hgv.2.1
  · obtain ⟨h1, h2⟩ := newWait_mem he
    have hwv := m.wv e h1
    refine ⟨lv _ h2, by rw [Wd.after_th_alive h h2]; exact hwv.2.1, lv _ (m.shut _ _ h2 (.inr (.inr (.inr ⟨hwv.2.1, h1⟩))))⟩
  · have hq := h.hq
    have h1 : (W.after major).wait.length ≤ (W.pass major).2.1.length := by
      simp only [Wd.after, newWait, List.length_map]; exact List.length_filter_le _ _
    have h2 : (W.after major).regs.length ≤ unN (W.pass major).2.2 := by
      simp only [Wd.after, newRegs, List.length_map]
      have hmv : ∀ i ∈ (W.pass major).2.2, i.2.1 = false → i.2.2 = false := by
        have key : ∀ (l : List It) (is : List Bool) (q : List (Int × Int)), (∀ i ∈ l, i.2.1 = false → i.2.2 = false) → ∀ i ∈ (scanM atB W.keepW is q l).2.2.1, i.2.1 = false → i.2.2 = false := by
          intro l
          induction l with
          | nil => intro is q _ i hi; simp [scanM] at hi
          | cons a l ih =>
            intro is q hl i hi
            simp only [scanM] at hi
            split at hi
            · rename_i hc
              simp only [Bool.and_eq_true] at hc
              rcases List.mem_cons.1 hi with rfl | hi
              · intro e; rw [hc.1.1] at e; cases e
              · exact ih _ _ (fun j hj => hl j (by simp [hj])) i hi
            · rcases List.mem_cons.1 hi with rfl | hi
              · exact hl _ (by simp)
              · exact ih _ _ (fun j hj => hl j (by simp [hj])) i hi
        have key2 : ∀ (n : Nat) (l : List It) (is : List Bool) (q : List (Int × Int)), (∀ i ∈ l, i.2.1 = false → i.2.2 = false) → ∀ i ∈ (roundsM atB W.keepW n is q l).2.2, i.2.1 = false → i.2.2 = false := by
          intro n
          induction n with
          | zero => intro l is q hl; exact hl
          | succ n ih =>
            intro l is q hl
            simp only [roundsM]
            split
            · exact ih _ _ _ (key l is q hl)
            · exact key l is q hl
        exact key2 _ _ _ _ (fun i hi => by simp only [itemsM, List.mem_map] at hi; obtain ⟨e, _, rfl⟩ := hi; intro _; rfl)
      unfold unN
      rw [← List.countP_eq_length_filter, ← List.countP_eq_length_filter]
      exact List.countP_mono_left fun i hi h => by
        simp only [Bool.and_eq_true, Bool.not_eq_true'] at h
        simp [hmv i hi h.1]
    show (W.after major).regs.length + (W.after major).wait.length ≤ 24
    omega
  · show (W.after major).young ≤ W.most; rw [hs.1]; have := h.m1; omega
  · show (W.after major).olds ≤ W.grow; rw [hs.2]; exact hroom

theorem Wd.ok.cut {W : Wd} (h : W.ok) (major : Bool) : (W.cut major).2.ok := by
  unfold Wd.cut
  split
  · exact h
  · split
    · exact h
    · exact h.after (by omega)

theorem Wd.ok.room {W : Wd} (h : W.ok) (n : Int) (hn : n ≤ 13) : (W.room n).2.ok ∧ ((W.room n).1 = 0 → n ≤ (W.room n).2.most - (W.room n).2.young) := by
  unfold Wd.room
  split
  · refine ⟨h.cut _, fun h0 => ?_⟩
    unfold Wd.cut at h0 ⊢
    split
    · rename_i hc; rw [if_pos hc] at h0; simp at h0
    · rename_i hc
      rw [if_neg hc] at h0
      split
      · rename_i hd; rw [if_pos hd] at h0; simp at h0
      · show n ≤ W.most - (W.after _).young
        rw [(Wd.after_sums h _).1]
        have := h.m1; omega
  · exact ⟨h, fun _ => by show n ≤ W.most - W.young; omega⟩

theorem Wd.ok.newT {W : Wd} (h : W.ok) {r k : Int} {l : List Int} (hf : fitsW k l.length = true) : (W.newT r k l).2.ok := by
  unfold Wd.newT
  have hl := (fitsW_spec hf).2.2.2
  have hr := h.room (1 + l.length) (by omega)
  split
  · rename_i h0
    refine hr.1.put (by simpa using hf) (fun v hv => ?_) (by simpa using hr.2 h0)
    obtain ⟨a, _, rfl⟩ := List.mem_map.1 hv
    exact Wd.rt_ok hr.1 a
  · exact h

theorem Wd.thing_live {W : Wd} (h : W.ok) {k : Int} (hk : ¬ W.thing k < 0) : W.live (W.thing k) := by
  unfold Wd.thing at hk ⊢
  split
  · rename_i h3; exact Wd.okV_ref (Wd.rt_ok h k) h3
  · rename_i h3; rw [if_neg h3] at hk; simp at hk

theorem Wd.guard_live {W : Wd} (h : W.ok) {k : Int} (hk : ¬ W.guard k < 0) : W.live (W.guard k) ∧ (W.th (W.guard k)).k = 5 ∧ W.guard k = W.thing k := by
  unfold Wd.guard at hk ⊢
  split
  · rename_i h3; rw [if_pos h3] at hk; simp at hk
  · rename_i h3
    have h5 : (W.th (W.thing k)).k = 5 := by
      by_cases e : (W.th (W.thing k)).k = 5
      · exact e
      · exact absurd (Or.inr e) h3
    exact ⟨Wd.thing_live h (fun e => h3 (.inl e)), h5, rfl⟩

theorem popW_mem : ∀ {l : List (Int × Int)} {g : Int} {r : Int × List (Int × Int)}, popW l g = some r → (g, r.1) ∈ l ∧ (∀ e ∈ r.2, e ∈ l) ∧ r.2.length + 1 = l.length
  | [], g, r, h => by simp [popW] at h
  | e :: l, g, r, h => by
    unfold popW at h
    split at h
    · rename_i hg
      simp at h; subst h
      refine ⟨?_, fun e he => by simp [he], rfl⟩
      rw [← hg]; simp
    · simp only [Option.map_eq_some_iff] at h
      obtain ⟨r', h1, rfl⟩ := h
      have ih := popW_mem h1
      refine ⟨by simp [ih.1], fun x hx => ?_, by simp; omega⟩
      rcases List.mem_cons.1 hx with rfl | hx
      · simp
      · simp [ih.2.1 x hx]

theorem Wd.field_at {W : Wd} {x : St} (h : W.fieldC x = 0) : ¬ W.thing x.a < 0 ∧ (W.th (W.thing x.a)).k ≠ 5 ∧ 0 ≤ x.i ∧ x.i < (W.th (W.thing x.a)).fs.length := by
  unfold Wd.fieldC at h
  split at h
  · simp at h
  · rename_i hc
    split at h
    · simp at h
    · rename_i hd
      exact ⟨fun e => hc (.inl e), fun e => hc (.inr e), by omega, by omega⟩

theorem Wd.okV_num {W : Wd} {n : Int} (h1 : -big ≤ n) (h2 : n < big) : W.okV (1, n) := .inr (.inl ⟨rfl, h1, h2⟩)

theorem checkM_use {x : St} (h : checkM x = 0) : ¬ usesM x.k = -1 ∧ (usesM x.k % 2 = 1 → rootOk x.r = true) ∧ (usesM x.k / 2 % 2 = 1 → rootOk x.a = true) ∧ (usesM x.k / 4 % 2 = 1 → rootOk x.b = true) ∧
    (x.k = 1 → -big ≤ x.n ∧ x.n < big) ∧ (x.k = 5 → 0 ≤ x.n ∧ x.n ≤ 12) := by
  unfold checkM at h
  split at h
  · simp at h
  · rename_i h1
    split at h
    · simp at h
    · rename_i h2
      split at h
      · simp at h
      · rename_i h3
        split at h
        · simp at h
        · rename_i h4
          have nb : ∀ b : Bool, ¬ b = false → b = true := fun b => by cases b <;> simp
          exact ⟨h1, fun h => nb _ fun e => h2 (.inl ⟨h, e⟩), fun h => nb _ fun e => h2 (.inr (.inl ⟨h, e⟩)), fun h => nb _ fun e => h2 (.inr (.inr ⟨h, e⟩)),
            fun h => Classical.not_not.1 fun e => h3 ⟨h, e⟩, fun h => Classical.not_not.1 fun e => h4 ⟨h, e⟩⟩

theorem Wd.ok.do {W : Wd} (h : W.ok) (x : St) : (W.do x).2.ok := by
  unfold Wd.do
  split
  · rename_i hc
    have hu := checkM_use hc
    unfold Wd.step
    by_cases k1 : x.k = 1
    · rw [if_pos k1]
      exact h.setR (Wd.okV_num (hu.2.2.2.2.1 k1).1 (hu.2.2.2.2.1 k1).2) _
    rw [if_neg k1]
    by_cases k2 : x.k = 2
    · rw [if_pos k2]
      exact h.setR (.inl ⟨rfl, rfl⟩) _
    rw [if_neg k2]
    by_cases k3 : x.k = 3
    · rw [if_pos k3]
      exact h.setR (Wd.rt_ok h _) _
    rw [if_neg k3]
    by_cases k4 : x.k = 4
    · rw [if_pos k4]
      exact h.newT rfl
    rw [if_neg k4]
    by_cases k5 : x.k = 5
    · rw [if_pos k5]
      refine h.newT ?_
      have := hu.2.2.2.2.2 k5
      simp [fitsW]; omega
    rw [if_neg k5]
    by_cases k6 : x.k = 6
    · rw [if_pos k6]
      exact h.newT rfl
    rw [if_neg k6]
    by_cases k7 : x.k = 7
    · rw [if_pos k7]
      exact h.newT rfl
    rw [if_neg k7]
    by_cases k8 : x.k = 8
    · rw [if_pos k8]
      exact h.newT rfl
    rw [if_neg k8]
    by_cases k9 : x.k = 9
    · rw [if_pos k9]
      unfold Wd.reg
      split
      · exact h
      · rename_i h1
        split
        · exact h
        · rename_i h2
          have ha := Wd.thing_live h (fun e => h1 (.inl e))
          have hb := Wd.guard_live h (fun e => h1 (.inr e))
          refine ⟨h.hr, h.rv, h.tk, h.tv, fun e he => ?_, h.wv, ?_, h.m1, h.m2, h.g1, h.g2, h.uy, h.uo⟩
          · rcases List.mem_append.1 he with he | he
            · exact h.gv e he
            · rw [List.mem_singleton.1 he]; exact ⟨hb.1, hb.2.1, ha⟩
          · show (W.regs ++ _).length + W.wait.length ≤ 24
            simp; omega
    rw [if_neg k9]
    by_cases k10 : x.k = 10
    · rw [if_pos k10]
      unfold Wd.pop
      split
      · exact h
      · rename_i h1
        split
        · exact h
        · rename_i r hr
          have hp := popW_mem hr
          have hw := h.wv _ hp.1
          refine ⟨by simpa using h.hr, fun v hv => ?_, h.tk, h.tv, h.gv, fun e he => h.wv e (hp.2.1 e he), ?_, h.m1, h.m2, h.g1, h.g2, h.uy, h.uo⟩
          · rcases List.mem_or_eq_of_mem_set hv with h2 | rfl
            · exact h.rv v h2
            · exact .inr (.inr (.inr ⟨rfl, hw.2.2⟩))
          · have := h.hq
            show W.regs.length + r.2.length ≤ 24
            omega
    rw [if_neg k10]
    by_cases k11 : x.k = 11
    · rw [if_pos k11]
      unfold Wd.get
      split
      · rename_i h0
        have hf := Wd.field_at h0
        refine h.setR ?_ _
        rw [List.getD_eq_getElem?_getD, List.getElem?_eq_getElem (by omega)]
        exact h.tv _ (Wd.thing_live h hf.1) _ (List.getElem_mem _)
      · exact h
    rw [if_neg k11]
    by_cases k12 : x.k = 12
    · rw [if_pos k12]
      unfold Wd.set
      split
      · rename_i h0
        have hf := Wd.field_at h0
        have hl := Wd.thing_live h hf.1
        refine h.setF hl (by simp) fun v hv => ?_
        rcases List.mem_or_eq_of_mem_set hv with h2 | rfl
        · exact h.tv _ hl v h2
        · exact Wd.rt_ok h _
      · exact h
    rw [if_neg k12]
    by_cases k13 : x.k = 13
    · rw [if_pos k13]
      unfold Wd.len
      split
      · exact h
      · rename_i h1
        have hl := Wd.thing_live h (fun e => h1 (.inl e))
        have := fitsW_spec (h.tk _ hl)
        exact h.setR (Wd.okV_num (by unfold big; omega) (by unfold big; omega)) _
    rw [if_neg k13]
    by_cases k14 : x.k = 14
    · rw [if_pos k14]
      unfold Wd.same
      exact h.setR (Wd.okV_num (by unfold big; split <;> omega) (by unfold big; split <;> omega)) _
    rw [if_neg k14]
    by_cases k15 : x.k = 15
    · rw [if_pos k15]
      exact h.cut _
    rw [if_neg k15]
    exact h.cut _
  · exact h

theorem Wd.new_ok {n o : Int} (h1 : 16 ≤ n) (h2 : n ≤ 256) (h3 : 0 ≤ o) (h4 : o ≤ 1024) : (Wd.new n o).ok := by
  have nl : ∀ i, ¬ (Wd.new n o).live i := fun i h => by have h1 := h.1; have h2 := h.2.1; simp [Wd.new] at h2; omega
  refine ⟨by simp [Wd.new], fun v hv => ?_, fun i hi => (nl i hi).elim, fun i hi => (nl i hi).elim, fun e he => by simp [Wd.new] at he, fun e he => by simp [Wd.new] at he, by simp [Wd.new], h1, h2, h3, h4, ?_, ?_⟩
  · simp [Wd.new] at hv; subst hv; exact .inl ⟨rfl, rfl⟩
  · show sumW [] _ ≤ n; simp [sumW]; omega
  · show sumW [] _ ≤ o; simp [sumW]; omega

end Go.Proofs.Ytjifdalflepcoab
