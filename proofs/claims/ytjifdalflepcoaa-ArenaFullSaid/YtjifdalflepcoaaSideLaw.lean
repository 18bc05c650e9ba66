/-
  What Settle makes of a set of words: as the reference's Settled (SideSettles), and nothing twice (SideOnce). No program in sight.
-/
import Derived.Test.YtjifdalflepcoaaWords2
namespace Go.Proofs.Ytjifdalflepcoaa
open Go.RowKit
set_option linter.unusedVariables false
set_option linter.unusedSimpArgs false
variable {τ : Type}

/-- What keep makes of what is alive: S, out of a, by what is to be done. -/
structure Grows (leads : List (Int × Int)) (a todo S : List Int) : Prop where
  sub : ∀ y ∈ a, y ∈ S
  has : ∀ y ∈ todo, y ∈ S
  shut : ∀ y ∈ S, y ∉ a → ∀ e ∈ leads, e.1 = y → e.2 ∈ S
  least : ∀ Good : Int → Prop, (∀ y ∈ todo, Good y) → (∀ y, y ∉ a → Good y → ∀ e ∈ leads, e.1 = y → Good e.2) → ∀ y ∈ S, y ∈ a ∨ Good y

theorem Grows.le {leads : List (Int × Int)} {a b todo S U : List Int} (h : Grows leads a todo S) (k : Grows leads b todo U) (hab : ∀ y, y ∈ a ↔ y ∈ b) : ∀ y ∈ S, y ∈ U := by
  intro y hy
  rcases h.least (fun y => y ∈ U) k.has (fun y hn hy e he hey => k.shut y hy (fun h => hn ((hab y).2 h)) e he hey) y hy with h | h
  · exact k.sub y ((hab y).1 h)
  · exact h

theorem Grows.same {leads : List (Int × Int)} {a b todo S U : List Int} (h : Grows leads a todo S) (k : Grows leads b todo U) (hab : ∀ y, y ∈ a ↔ y ∈ b) (y : Int) : y ∈ S ↔ y ∈ U :=
  ⟨h.le k hab y, k.le h (fun y => (hab y).symm) y⟩

theorem keepW_grows {leads : List (Int × Int)} {T : List Int} (hT : ∀ e ∈ leads, e.2 ∈ T) : ∀ (n : Nat) (a : List Int) (x : Int), x ∈ T → unT T a ≤ n → Grows leads a [x] (keepW leads n a x)
  | 0, a, x, hx, hn => by
    have hc : x ∈ a := by
      cases hc : a.contains x
      · have := unT_app hx hc; omega
      · exact List.contains_iff_mem.1 hc
    exact ⟨fun y h => h, by intro y hy; simp at hy; subst hy; exact hc, fun y h hn => (hn h).elim, fun _ _ _ y h => .inl h⟩
  | n + 1, a, x, hx, hn => by
    unfold keepW
    cases hc : a.contains x
    · rw [if_neg (by decide)]
      have hxa : x ∉ a := fun h => by rw [List.contains_iff_mem.2 h] at hc; cases hc
      have hu := unT_app hx hc
      have key : ∀ (l : List (Int × Int)) (b : List Int), (∀ e ∈ l, e ∈ leads) → unT T b ≤ n →
          let S := l.foldl (fun a e => if e.1 = x then keepW leads n a e.2 else a) b
          (∀ y ∈ b, y ∈ S) ∧ (∀ e ∈ l, e.1 = x → e.2 ∈ S) ∧ (∀ y ∈ S, y ∉ b → ∀ e ∈ leads, e.1 = y → e.2 ∈ S) ∧
          (∀ Good : Int → Prop, (∀ e ∈ l, e.1 = x → Good e.2) → (∀ y, y ∉ b → Good y → ∀ e ∈ leads, e.1 = y → Good e.2) → ∀ y ∈ S, y ∈ b ∨ Good y) := by
        intro l
        induction l with
        | nil => intro b _ _; exact ⟨fun y h => h, by simp, fun y h hn => (hn h).elim, fun _ _ _ y h => .inl h⟩
        | cons e l ih =>
          intro b hl hb
          simp only [List.foldl_cons]
          by_cases hex : e.1 = x
          · rw [if_pos hex]
            have g := keepW_grows hT n b e.2 (hT e (hl e (by simp))) hb
            have hle := (keepW_un hT n b e.2 (hT e (hl e (by simp)))).2
            obtain ⟨i1, i2, i3, i4⟩ := ih (keepW leads n b e.2) (fun e' he => hl e' (by simp [he])) (by omega)
            refine ⟨fun y hy => i1 y (g.sub y hy), ?_, ?_, ?_⟩
            · intro e' he' hx'
              rcases List.mem_cons.1 he' with rfl | he'
              · exact i1 _ (g.has _ (by simp))
              · exact i2 e' he' hx'
            · intro y hy hyb e' he' hey
              by_cases hyk : y ∈ keepW leads n b e.2
              · exact i1 _ (g.shut y hyk hyb e' he' hey)
              · exact i3 y hy hyk e' he' hey
            · intro Good h1 h2 y hy
              have gk := g.least Good (by intro z hz; simp at hz; subst hz; exact h1 e (by simp) hex) h2
              rcases i4 Good (fun e' he' hx' => h1 e' (by simp [he']) hx') (fun z hz => h2 z (fun hzb => hz (g.sub z hzb))) y hy with h | h
              · exact gk y h
              · exact .inr h
          · rw [if_neg hex]
            obtain ⟨i1, i2, i3, i4⟩ := ih b (fun e' he => hl e' (by simp [he])) hb
            refine ⟨i1, ?_, i3, fun Good h1 h2 => i4 Good (fun e' he' hx' => h1 e' (by simp [he']) hx') h2⟩
            intro e' he' hx'
            rcases List.mem_cons.1 he' with rfl | he'
            · exact (hex hx').elim
            · exact i2 e' he' hx'
      obtain ⟨i1, i2, i3, i4⟩ := key leads (a ++ [x]) (fun e h => h) (by omega)
      refine ⟨fun y hy => i1 y (by simp [hy]), by intro y hy; simp at hy; subst hy; exact i1 _ (by simp), ?_, ?_⟩
      · intro y hy hya e he hey
        by_cases hyx : y = x
        · subst hyx; exact i2 e he hey
        · exact i3 y hy (by simp [hya, hyx]) e he hey
      · intro Good h1 h2 y hy
        have hgx : Good x := h1 x (by simp)
        rcases i4 Good (fun e he hex => h2 x hxa hgx e he hex) (fun z hz => h2 z (fun h => hz (by simp [h]))) y hy with h | h
        · simp at h
          rcases h with h | rfl
          · exact .inl h
          · exact .inr hgx
        · exact .inr h
    · rw [if_pos rfl]
      exact ⟨fun y h => h, by intro y hy; simp at hy; subst hy; exact List.contains_iff_mem.1 hc, fun y h hn => (hn h).elim, fun _ _ _ y h => .inl h⟩

/-- The targets of a word. -/
def goesTo (leads : List (Int × Int)) (x : Int) : List Int := (leads.filter fun e => decide (e.1 = x)).map (·.2)

theorem mem_goesTo {leads : List (Int × Int)} {x y : Int} : y ∈ goesTo leads x ↔ ∃ e ∈ leads, e.1 = x ∧ e.2 = y := by
  unfold goesTo; simp [and_assoc]

/-- The reference's keep: by a list of what is to be done. -/
def keepB (leads : List (Int × Int)) : Nat → List Int → List Int → List Int
  | 0, a, _ => a
  | _ + 1, a, [] => a
  | n + 1, a, x :: todo => if a.contains x then keepB leads n a todo else keepB leads n (a ++ [x]) (todo ++ goesTo leads x)

/-- How many leads go out of what is not alive. -/
def cntL (leads : List (Int × Int)) (a : List Int) : Nat := (leads.filter fun e => !a.contains e.1).length

theorem cntL_app (leads : List (Int × Int)) {a : List Int} {x : Int} (hx : a.contains x = false) : cntL leads (a ++ [x]) + (goesTo leads x).length = cntL leads a := by
  unfold cntL goesTo
  rw [List.length_map]
  induction leads with
  | nil => rfl
  | cons e l ih =>
    by_cases he : e.1 = x
    · rw [List.filter_cons_of_neg (by subst he; simp), List.filter_cons_of_pos (by simp [he]), List.filter_cons_of_pos (by rw [he, hx]; rfl)]
      simp only [List.length_cons]; omega
    · rw [List.filter_cons_of_neg (p := fun e : Int × Int => decide (e.1 = x)) (by simp [he])]
      have hs : (a ++ [x]).contains e.1 = a.contains e.1 := by
        simp [he]
      cases hb : a.contains e.1
      · rw [List.filter_cons_of_pos (by rw [hs, hb]; rfl), List.filter_cons_of_pos (by rw [hb]; rfl)]
        simp only [List.length_cons]; omega
      · rw [List.filter_cons_of_neg (by rw [hs, hb]; decide), List.filter_cons_of_neg (by rw [hb]; decide)]
        exact ih

theorem keepB_grows (leads : List (Int × Int)) : ∀ (n : Nat) (a todo : List Int), todo.length + cntL leads a ≤ n → Grows leads a todo (keepB leads n a todo)
  | 0, a, todo, hn => by
    have : todo = [] := List.eq_nil_of_length_eq_zero (by omega)
    subst this
    exact ⟨fun y h => h, by simp, fun y h hn => (hn h).elim, fun _ _ _ y h => .inl h⟩
  | n + 1, a, [], _ => ⟨fun y h => h, by simp, fun y h hn => (hn h).elim, fun _ _ _ y h => .inl h⟩
  | n + 1, a, x :: todo, hn => by
    unfold keepB
    simp only [List.length_cons] at hn
    cases hc : a.contains x
    · rw [if_neg (by decide)]
      have hxa : x ∉ a := fun h => by rw [List.contains_iff_mem.2 h] at hc; cases hc
      have hu := cntL_app leads hc
      have g := keepB_grows leads n (a ++ [x]) (todo ++ goesTo leads x) (by rw [List.length_append]; omega)
      refine ⟨fun y hy => g.sub y (by simp [hy]), ?_, ?_, ?_⟩
      · intro y hy
        rcases List.mem_cons.1 hy with rfl | hy
        · exact g.sub _ (by simp)
        · exact g.has y (by simp [hy])
      · intro y hy hya e he hey
        by_cases hyx : y = x
        · subst hyx; exact g.has _ (List.mem_append.2 (.inr (mem_goesTo.2 ⟨e, he, hey, rfl⟩)))
        · exact g.shut y hy (by simp [hya, hyx]) e he hey
      · intro Good h1 h2 y hy
        have hgx : Good x := h1 x (by simp)
        rcases g.least Good (by
            intro z hz
            rcases List.mem_append.1 hz with hz | hz
            · exact h1 z (by simp [hz])
            · obtain ⟨e, he, hex, rfl⟩ := mem_goesTo.1 hz
              exact h2 x hxa hgx e he hex) (fun z hz => h2 z (fun h => hz (by simp [h]))) y hy with h | h
        · simp at h
          rcases h with h | rfl
          · exact .inl h
          · exact .inr hgx
        · exact .inr h
    · rw [if_pos rfl]
      have hxa : x ∈ a := List.contains_iff_mem.1 hc
      have g := keepB_grows leads n a todo (by omega)
      refine ⟨g.sub, ?_, g.shut, fun Good h1 h2 => g.least Good (fun z hz => h1 z (by simp [hz])) h2⟩
      intro y hy
      rcases List.mem_cons.1 hy with rfl | hy
      · exact g.sub _ hxa
      · exact g.has y hy

theorem contains_same {a b : List Int} (h : ∀ y, y ∈ a ↔ y ∈ b) (x : Int) : a.contains x = b.contains x := by
  rw [Bool.eq_iff_iff, List.contains_iff_mem, List.contains_iff_mem]; exact h x

/-- The law's Living, of what is alive. -/
def liveT (t : List Int) (x : Int) : Bool := decide (1000 ≤ x) || t.contains x
def keepT (leads : List (Int × Int)) (n : Nat) (t : List Int) (q : List (Int × Int)) (x : Int) : List Int × List (Int × Int) × Int := (keepW leads n t x, q, wrap64 (x + 1000))
def nowT (_ : List Int) (x : Int) : Int := if x < 1000 then wrap64 (x + 1000) else x
def keepR (leads : List (Int × Int)) (t : List Int) (q : List (Int × Int)) (x : Int) : List Int × List (Int × Int) × Int := (keepB leads (1 + cntL leads t) t [x], q, x)
def liveR (t : List Int) (x : Int) : Bool := t.contains x

/-- A word that is small. -/
def smallW (x : Int) : Prop := 0 ≤ x ∧ x ≤ 999
def up (e : Int × Int) : Int × Int := (e.1, e.2 + 1000)
def up2 (e : Int × Int) : Int × Int := (e.1 + 1000, e.2 + 1000)

theorem wrapUp {x : Int} (h : smallW x) : wrap64 (x + 1000) = x + 1000 := by
  unfold smallW at h; unfold wrap64; omega

theorem liveT_small {t : List Int} {x : Int} (h : smallW x) : liveT t x = t.contains x := by
  unfold liveT smallW at *; rw [decide_eq_false (by omega), Bool.false_or]

section
variable {leads : List (Int × Int)} {T : List Int} {N : Nat}

theorem scan_same (hT : ∀ e ∈ leads, e.2 ∈ T) : ∀ (l : List It) (t u : List Int) (base came : List (Int × Int)), (∀ y, y ∈ t ↔ y ∈ u) → unT T t ≤ N → (∀ i ∈ l, smallW i.1.1 ∧ smallW i.1.2 ∧ i.1.2 ∈ T) → (∀ e ∈ came, smallW e.1 ∧ smallW e.2) →
    let r := scanM liveT (keepT leads N) t (base ++ came.map up) l
    let s := scanM liveR (keepR leads) u came l
    (∀ y, y ∈ r.1 ↔ y ∈ s.1) ∧ unT T r.1 ≤ N ∧ r.2.1 = base ++ s.2.1.map up ∧ (∀ e ∈ s.2.1, smallW e.1 ∧ smallW e.2) ∧ r.2.2 = s.2.2
  | [], t, u, base, came, htu, hN, _, hc => ⟨htu, hN, rfl, hc, rfl⟩
  | i :: l, t, u, base, came, htu, hN, hl, hc => by
    obtain ⟨h1, h2, h3⟩ := hl i (by simp)
    have hl' : ∀ i ∈ l, smallW i.1.1 ∧ smallW i.1.2 ∧ i.1.2 ∈ T := fun j hj => hl j (by simp [hj])
    have ha : liveT t i.1.1 = liveR u i.1.1 := by rw [liveT_small h1]; exact contains_same htu _
    simp only [scanM, ha]
    by_cases hcd : ((i.2.1 && !i.2.2) && liveR u i.1.1) = true
    · rw [if_pos hcd, if_pos hcd]
      have g1 := keepW_grows hT N t i.1.2 h3 hN
      have g2 := keepB_grows leads (1 + cntL leads u) u [i.1.2] (by simp)
      have hle := (keepW_un hT N t i.1.2 h3).2
      have ih := scan_same hT l (keepW leads N t i.1.2) (keepB leads (1 + cntL leads u) u [i.1.2]) base (came ++ [i.1]) (g1.same g2 htu) (by omega) hl' (by
        intro e he
        rcases List.mem_append.1 he with he | he
        · exact hc e he
        · simp at he; subst he; exact ⟨h1, h2⟩)
      have e1 : (base ++ came.map up) ++ [(i.1.1, wrap64 (i.1.2 + 1000))] = base ++ (came ++ [i.1]).map up := by
        simp [up, wrapUp h2]
      simp only [keepT, keepR, e1]
      obtain ⟨j1, j2, j3, j4, j5⟩ := ih
      exact ⟨j1, j2, j3, j4, by rw [j5]⟩
    · rw [if_neg hcd, if_neg hcd]
      obtain ⟨j1, j2, j3, j4, j5⟩ := scan_same hT l t u base came htu hN hl' hc
      exact ⟨j1, j2, j3, j4, by rw [j5]⟩

theorem scan_items (alive : τ → Int → Bool) (keep) : ∀ (l : List It) (t : τ) (q : List (Int × Int)), ∀ j ∈ (scanM alive keep t q l).2.2.1, ∃ i ∈ l, j.1 = i.1
  | [], _, _ => by simp [scanM]
  | i :: l, t, q => by
    intro j hj
    simp only [scanM] at hj
    split at hj
    · rcases List.mem_cons.1 hj with rfl | hj
      · exact ⟨i, by simp, rfl⟩
      · obtain ⟨i', h1, h2⟩ := scan_items alive keep l _ _ j hj
        exact ⟨i', by simp [h1], h2⟩
    · rcases List.mem_cons.1 hj with rfl | hj
      · exact ⟨j, by simp, rfl⟩
      · obtain ⟨i', h1, h2⟩ := scan_items alive keep l _ _ j hj
        exact ⟨i', by simp [h1], h2⟩

theorem rounds_same (hT : ∀ e ∈ leads, e.2 ∈ T) : ∀ (n : Nat) (l : List It) (t u : List Int) (base came : List (Int × Int)), (∀ y, y ∈ t ↔ y ∈ u) → unT T t ≤ N → (∀ i ∈ l, smallW i.1.1 ∧ smallW i.1.2 ∧ i.1.2 ∈ T) → (∀ e ∈ came, smallW e.1 ∧ smallW e.2) →
    let r := roundsM liveT (keepT leads N) n t (base ++ came.map up) l
    let s := roundsM liveR (keepR leads) n u came l
    (∀ y, y ∈ r.1 ↔ y ∈ s.1) ∧ r.2.1 = base ++ s.2.1.map up ∧ (∀ e ∈ s.2.1, smallW e.1 ∧ smallW e.2) ∧ r.2.2 = s.2.2 ∧ ∀ j ∈ s.2.2, ∃ i ∈ l, j.1 = i.1
  | 0, l, t, u, base, came, htu, hN, _, hc => ⟨htu, rfl, hc, rfl, fun j hj => ⟨j, hj, rfl⟩⟩
  | n + 1, l, t, u, base, came, htu, hN, hl, hc => by
    obtain ⟨j1, j2, j3, j4, j5⟩ := scan_same (N := N) hT l t u base came htu hN hl hc
    have hit := scan_items liveR (keepR leads) l u came
    simp only [roundsM]
    rw [j3, j5]
    split
    · have hi2 : ∀ i ∈ (scanM liveR (keepR leads) u came l).2.2.1, smallW i.1.1 ∧ smallW i.1.2 ∧ i.1.2 ∈ T := by
        intro j hj
        obtain ⟨i, h1, h2⟩ := hit j hj
        rw [h2]; exact hl i h1
      obtain ⟨k1, k2, k3, k4, k5⟩ := rounds_same hT n _ _ _ base _ j1 j2 hi2 j4
      refine ⟨k1, k2, k3, k4, fun j hj => ?_⟩
      obtain ⟨i, h1, h2⟩ := k5 j hj
      obtain ⟨i', h3, h4⟩ := hit i h1
      exact ⟨i', h3, h2.trans h4⟩
    · exact ⟨j1, rfl, j4, rfl, hit⟩

/-- What the reference's Settled gives. -/
def settledM (leads : List (Int × Int)) (regs wait : List (Int × Int)) (alive : List Int) : List (Int × Int) × List (Int × Int) :=
  let r := passM liveR (keepR leads) alive regs []
  ((r.2.2.filter fun i => !i.2.1 && liveR r.1 i.1.1).map (·.1), (wait.filter fun e => liveR r.1 e.1) ++ r.2.1.filter fun e => liveR r.1 e.1)

theorem nowT_small {t : List Int} {x : Int} (h : smallW x) : nowT t x = x + 1000 := by
  unfold nowT; rw [if_pos (by unfold smallW at h; omega), wrapUp h]

theorem settle_same (hT : ∀ e ∈ leads, e.2 ∈ T) (regs wait : List (Int × Int)) (alive : List Int) (hN : unT T alive ≤ N) (hr : ∀ e ∈ regs, smallW e.1 ∧ smallW e.2 ∧ e.2 ∈ T) (hw : ∀ e ∈ wait, smallW e.1 ∧ smallW e.2) :
    newRegs liveT nowT (passM liveT (keepT leads N) alive regs wait).1 (passM liveT (keepT leads N) alive regs wait).2.2 = (settledM leads regs wait alive).1.map up2 ∧
    newWait liveT nowT (passM liveT (keepT leads N) alive regs wait).1 (passM liveT (keepT leads N) alive regs wait).2.1 = (settledM leads regs wait alive).2.map up2 := by
  have hit : itemsM liveT alive regs = itemsM liveR alive regs := by
    unfold itemsM
    apply List.map_congr_left
    intro e he
    rw [liveT_small (hr e he).2.1]; rfl
  have key := rounds_same (N := N) hT (regs.length + 1) (itemsM liveR alive regs) alive alive wait [] (fun y => Iff.rfl) hN (by
    intro i hi
    unfold itemsM at hi
    simp only [List.mem_map] at hi
    obtain ⟨e, he, rfl⟩ := hi
    exact hr e he) (by simp)
  simp only [List.map_nil, List.append_nil] at key
  unfold settledM passM
  rw [hit]
  generalize roundsM liveT (keepT leads N) (regs.length + 1) alive wait (itemsM liveR alive regs) = r at *
  generalize hs : roundsM liveR (keepR leads) (regs.length + 1) alive [] (itemsM liveR alive regs) = s at *
  obtain ⟨k1, k2, k3, k4, k5⟩ := key
  have hreg : ∀ j ∈ s.2.2, smallW j.1.1 ∧ smallW j.1.2 := by
    intro j hj
    obtain ⟨i, h1, h2⟩ := k5 j hj
    unfold itemsM at h1
    simp only [List.mem_map] at h1
    obtain ⟨e, he, rfl⟩ := h1
    rw [h2]; exact ⟨(hr e he).1, (hr e he).2.1⟩
  have hlv : ∀ x, smallW x → liveT r.1 x = liveR s.1 x := fun x hx => by rw [liveT_small hx]; exact contains_same k1 x
  constructor
  · unfold newRegs
    rw [k4, List.map_map]
    have hf : s.2.2.filter (fun i => !i.2.1 && liveT r.1 i.1.1) = s.2.2.filter (fun i => !i.2.1 && liveR s.1 i.1.1) := by
      apply List.filter_congr
      intro i hi
      rw [hlv _ (hreg i hi).1]
    rw [hf]
    apply List.map_congr_left
    intro i hi
    have := hreg i ((List.mem_filter.1 hi).1)
    simp [up2, nowT_small this.1, nowT_small this.2]
  · unfold newWait
    rw [k2, List.filter_append, List.map_append, List.map_append]
    congr 1
    · have hf : wait.filter (fun e => liveT r.1 e.1) = wait.filter (fun e => liveR s.1 e.1) := by
        apply List.filter_congr
        intro e he
        rw [hlv _ (hw e he).1]
      rw [hf]
      apply List.map_congr_left
      intro e he
      have := hw e ((List.mem_filter.1 he).1)
      simp [up2, nowT_small this.1, nowT_small this.2]
    · rw [List.filter_map, List.map_map]
      have hf : s.2.1.filter ((fun e => liveT r.1 e.1) ∘ up) = s.2.1.filter (fun e => liveR s.1 e.1) := by
        apply List.filter_congr
        intro e he
        simp only [Function.comp, up]
        rw [hlv _ (k3 e he).1]
      rw [hf]
      apply List.map_congr_left
      intro e he
      have := k3 e ((List.mem_filter.1 he).1)
      have h2 := this.2
      unfold smallW at h2
      simp only [Function.comp, up, up2]
      rw [nowT_small this.1]
      congr 1
      unfold nowT; rw [if_neg (by omega)]
end

/-- SideOnce's Living. -/
def keepI (leads : List (Int × Int)) (n : Nat) (t : List Int) (q : List (Int × Int)) (x : Int) : List Int × List (Int × Int) × Int := (keepW leads n t x, q, x)

/-- How many of an entry there are. -/
def cntE (l : List (Int × Int)) (e : Int × Int) : Nat := (l.filter fun x => decide (x = e)).length
/-- How many of an entry were not moved. -/
def unE (l : List It) (e : Int × Int) : Nat := (l.filter fun i => !i.2.2 && decide (i.1 = e)).length

theorem cntE_app (a b : List (Int × Int)) (e : Int × Int) : cntE (a ++ b) e = cntE a e + cntE b e := by unfold cntE; simp

theorem cntE_snoc (a : List (Int × Int)) (x e : Int × Int) : cntE (a ++ [x]) e = cntE a e + if x = e then 1 else 0 := by
  rw [cntE_app]; unfold cntE
  by_cases h : x = e <;> simp [h]

theorem unE_cons (i : It) (l : List It) (e : Int × Int) : unE (i :: l) e = (if i.2.2 = false ∧ i.1 = e then 1 else 0) + unE l e := by
  unfold unE
  by_cases h : i.2.2 = false ∧ i.1 = e
  · rw [if_pos h, List.filter_cons_of_pos (by simp [h])]; simp; omega
  · rw [if_neg h, List.filter_cons_of_neg (by simpa using h)]; omega

def unAll (l : List It) : Nat := (l.filter fun i => !i.2.2).length

theorem unAll_cons (i : It) (l : List It) : unAll (i :: l) = (if i.2.2 = false then 1 else 0) + unAll l := by
  unfold unAll
  by_cases h : i.2.2 = false
  · rw [if_pos h, List.filter_cons_of_pos (by simp [h])]; simp; omega
  · rw [if_neg h, List.filter_cons_of_neg (by simpa using h)]; omega

section
variable {leads : List (Int × Int)} {T : List Int} {N : Nat}

/-- What holds of what is gone over: it is some of what was registered, as dead as it was then; only dead ones were moved. -/
def ItOk (t0 : List Int) (regs : List (Int × Int)) (i : It) : Prop := i.1 ∈ regs ∧ i.2.1 = !t0.contains i.1.2 ∧ (i.2.2 = true → i.2.1 = true)

theorem scan_once (hT : ∀ e ∈ leads, e.2 ∈ T) (t0 : List Int) (regs : List (Int × Int)) : ∀ (l : List It) (t : List Int) (q : List (Int × Int)), (∀ y ∈ t0, y ∈ t) → unT T t ≤ N → (∀ e ∈ regs, e.2 ∈ T) → (∀ i ∈ l, ItOk t0 regs i) →
    let r := scanM liveR (keepI leads N) t q l
    (∀ y ∈ t0, y ∈ r.1) ∧ unT T r.1 ≤ N ∧ (∀ i ∈ r.2.2.1, ItOk t0 regs i) ∧ (∀ e, cntE r.2.1 e + unE r.2.2.1 e = cntE q e + unE l e ∧ unE r.2.2.1 e ≤ unE l e) ∧ r.2.1.length + unAll r.2.2.1 = q.length + unAll l
  | [], t, q, h1, h2, _, h4 => ⟨h1, h2, h4, fun _ => ⟨rfl, Nat.le_refl _⟩, rfl⟩
  | i :: l, t, q, h1, h2, h3, h4 => by
    simp only [scanM]
    have hi := h4 i (by simp)
    have hl : ∀ i ∈ l, ItOk t0 regs i := fun j hj => h4 j (by simp [hj])
    by_cases hc : ((i.2.1 && !i.2.2) && liveR t i.1.1) = true
    · rw [if_pos hc]
      simp only [Bool.and_eq_true, Bool.not_eq_true'] at hc
      have hx := h3 _ hi.1
      have g := keepW_grows hT N t i.1.2 hx h2
      have hle := (keepW_un hT N t i.1.2 hx).2
      obtain ⟨j1, j2, j3, j4, j5⟩ := scan_once hT t0 regs l (keepW leads N t i.1.2) (q ++ [i.1]) (fun y hy => g.sub y (h1 y hy)) (by omega) h3 hl
      generalize hR : scanM liveR (keepI leads N) (keepW leads N t i.1.2) (q ++ [i.1]) l = R at j1 j2 j3 j4 j5
      have hR' : scanM liveR (keepI leads N) (keepI leads N t q i.1.2).1 ((keepI leads N t q i.1.2).2.1 ++ [(i.1.1, (keepI leads N t q i.1.2).2.2)]) l = R := hR
      rw [hR']
      refine ⟨j1, j2, ?_, fun e => ?_, ?_⟩
      · intro k hk
        rcases List.mem_cons.1 hk with rfl | hk
        · exact ⟨hi.1, hi.2.1, fun _ => hc.1.1⟩
        · exact j3 k hk
      · have := j4 e
        rw [cntE_snoc] at this
        simp only [unE_cons, hc.1.2, Bool.true_eq_false, false_and, if_false, true_and]
        split at this <;> (rename_i hh; first | rw [if_pos hh] | rw [if_neg hh]) <;> (exact ⟨by have := this.1; omega, by have := this.2; omega⟩)
      · rw [List.length_append, List.length_singleton] at j5
        simp only [unAll_cons, hc.1.2, Bool.true_eq_false, if_false, if_true]
        omega
    · rw [if_neg hc]
      obtain ⟨j1, j2, j3, j4, j5⟩ := scan_once hT t0 regs l t q h1 h2 h3 hl
      refine ⟨j1, j2, ?_, fun e => ?_, ?_⟩
      · intro k hk
        rcases List.mem_cons.1 hk with rfl | hk
        · exact hi
        · exact j3 k hk
      · have := j4 e
        simp only [unE_cons]
        exact ⟨by have := this.1; omega, by have := this.2; omega⟩
      · simp only [unAll_cons]; omega

theorem rounds_once (hT : ∀ e ∈ leads, e.2 ∈ T) (t0 : List Int) (regs : List (Int × Int)) : ∀ (n : Nat) (l : List It) (t : List Int) (q : List (Int × Int)), (∀ y ∈ t0, y ∈ t) → unT T t ≤ N → (∀ e ∈ regs, e.2 ∈ T) → (∀ i ∈ l, ItOk t0 regs i) →
    let r := roundsM liveR (keepI leads N) n t q l
    (∀ y ∈ t0, y ∈ r.1) ∧ (∀ i ∈ r.2.2, ItOk t0 regs i) ∧ (∀ e, cntE r.2.1 e + unE r.2.2 e = cntE q e + unE l e ∧ unE r.2.2 e ≤ unE l e) ∧ r.2.1.length + unAll r.2.2 = q.length + unAll l
  | 0, l, t, q, h1, h2, _, h4 => ⟨h1, h4, fun _ => ⟨rfl, Nat.le_refl _⟩, rfl⟩
  | n + 1, l, t, q, h1, h2, h3, h4 => by
    obtain ⟨j1, j2, j3, j4, j5⟩ := scan_once (N := N) hT t0 regs l t q h1 h2 h3 h4
    simp only [roundsM]
    split
    · obtain ⟨k1, k3, k4, k5⟩ := rounds_once hT t0 regs n _ _ _ j1 j2 h3 j3
      exact ⟨k1, k3, fun e => ⟨(k4 e).1.trans (j4 e).1, Nat.le_trans (k4 e).2 (j4 e).2⟩, k5.trans j5⟩
    · exact ⟨j1, j3, j4, j5⟩

theorem cntE_map_filter (l : List It) (p : It → Bool) (e : Int × Int) (hp : ∀ i ∈ l, p i = true → i.2.2 = false) : cntE ((l.filter p).map (·.1)) e ≤ unE l e := by
  induction l with
  | nil => simp [cntE, unE]
  | cons i l ih =>
    have ih := ih (fun j hj => hp j (by simp [hj]))
    rw [unE_cons]
    by_cases hi : p i = true
    · rw [List.filter_cons_of_pos hi, List.map_cons]
      have hu := hp i (by simp) hi
      have : cntE (i.1 :: (l.filter p).map (·.1)) e = (if i.1 = e then 1 else 0) + cntE ((l.filter p).map (·.1)) e := by
        unfold cntE
        by_cases h : i.1 = e <;> simp [h]; omega
      rw [this, hu]; simp only [true_and]; omega
    · rw [List.filter_cons_of_neg hi]; omega

theorem length_map_filter (l : List It) (p : It → Bool) (hp : ∀ i ∈ l, p i = true → i.2.2 = false) : ((l.filter p).map (·.1)).length ≤ unAll l := by
  induction l with
  | nil => simp [unAll]
  | cons i l ih =>
    have ih := ih (fun j hj => hp j (by simp [hj]))
    rw [unAll_cons]
    by_cases hi : p i = true
    · rw [List.filter_cons_of_pos hi, List.map_cons, hp i (by simp) hi]; simp only [if_true, List.length_cons]; omega
    · rw [List.filter_cons_of_neg hi]; omega

theorem cntE_filter_le (l : List (Int × Int)) (p : Int × Int → Bool) (e : Int × Int) : cntE (l.filter p) e ≤ cntE l e := by
  unfold cntE
  rw [List.filter_filter]
  induction l with
  | nil => simp
  | cons x l ih =>
    by_cases h : x = e
    · by_cases h2 : p x = true <;> simp [h, List.filter_cons] <;> (subst h; simp [h2]; omega)
    · simp [h, List.filter_cons]; simpa using ih

theorem once_law (hT : ∀ e ∈ leads, e.2 ∈ T) (regs wait : List (Int × Int)) (alive : List Int) (hN : unT T alive ≤ N) (hr : ∀ e ∈ regs, e.2 ∈ T) (r : List Int × List (Int × Int) × List It) (hrr : passM liveR (keepI leads N) alive regs wait = r)
    (rg wt : List (Int × Int)) (hrg : rg = newRegs liveR (fun _ x => x) r.1 r.2.2) (hwt : wt = newWait liveR (fun _ x => x) r.1 r.2.1) :
    (∀ e ∈ rg, cntE rg e ≤ cntE regs e ∧ r.1.contains e.1 = true ∧ r.1.contains e.2 = true) ∧ (∀ e ∈ wt, cntE wt e + cntE rg e ≤ cntE regs e + cntE wait e ∧ r.1.contains e.1 = true) ∧ rg.length + wt.length ≤ regs.length + wait.length := by
  have hst : ∀ i ∈ itemsM liveR alive regs, ItOk alive regs i := by
    intro i hi
    unfold itemsM at hi
    simp only [List.mem_map] at hi
    obtain ⟨e, he, rfl⟩ := hi
    exact ⟨he, rfl, by simp⟩
  have hun : ∀ e, unE (itemsM liveR alive regs) e = cntE regs e := by
    intro e
    unfold unE cntE itemsM
    rw [List.filter_map, List.length_map]; congr 1
  have hall : unAll (itemsM liveR alive regs) = regs.length := by
    unfold unAll itemsM
    rw [List.filter_map, List.length_map]; congr 1
    exact List.filter_eq_self.2 (fun a _ => rfl)
  obtain ⟨k1, k2, k3, k4⟩ := rounds_once (N := N) hT alive regs (regs.length + 1) (itemsM liveR alive regs) alive wait (fun y h => h) hN hr hst
  have e0 : roundsM liveR (keepI leads N) (regs.length + 1) alive wait (itemsM liveR alive regs) = r := hrr
  rw [e0] at k1 k2 k3 k4
  have e1 : rg = (r.2.2.filter fun i => !i.2.1 && liveR r.1 i.1.1).map (·.1) := by rw [hrg]; unfold newRegs; rfl
  have e2 : wt = r.2.1.filter fun e => liveR r.1 e.1 := by rw [hwt]; unfold newWait; simp
  have hp : ∀ i ∈ r.2.2, (!i.2.1 && liveR r.1 i.1.1) = true → i.2.2 = false := by
    intro i hi h
    simp only [Bool.and_eq_true, Bool.not_eq_true'] at h
    cases h2 : i.2.2
    · rfl
    · have := (k2 i hi).2.2 h2; rw [h.1] at this; cases this
  refine ⟨fun e he => ⟨?_, ?_⟩, fun e he => ⟨?_, ?_⟩, ?_⟩
  · have a1 := cntE_map_filter r.2.2 _ e hp
    rw [← e1] at a1
    have a2 := (k3 e).2
    rw [hun e] at a2
    omega
  · rw [e1] at he
    simp only [List.mem_map, List.mem_filter, Bool.and_eq_true, Bool.not_eq_true'] at he
    obtain ⟨i, ⟨hi, h1, h2⟩, rfl⟩ := he
    refine ⟨h2, ?_⟩
    have := (k2 i hi).2.1
    rw [h1] at this
    have h3 : alive.contains i.1.2 = true := by simpa using this.symm
    rw [List.contains_iff_mem] at h3 ⊢
    exact k1 _ h3
  · have a1 := cntE_map_filter r.2.2 _ e hp
    rw [← e1] at a1
    have a2 := cntE_filter_le r.2.1 (fun e => liveR r.1 e.1) e
    rw [← e2] at a2
    have := (k3 e).1
    rw [hun e] at this
    omega
  · rw [e2] at he
    exact (List.mem_filter.1 he).2
  · have a1 := length_map_filter r.2.2 _ hp
    rw [← e1] at a1
    have a2 : wt.length ≤ r.2.1.length := by rw [e2]; exact List.length_filter_le _ _
    omega
end

end Go.Proofs.Ytjifdalflepcoaa
