/-
  side.Settle, under the specification of a Living: what it computes, and the state in the midst of it.
-/
import Derived.Test.YtjifdalflepcoaaLiv
import Derived.Test.YtjifdalflepcoaaCards
namespace Go.Proofs.Ytjifdalflepcoaa
open Go.RowKit
set_option linter.unusedVariables false
set_option linter.unusedSimpArgs false
variable {τ : Type}

/-- What is registered; was it dead? was it moved? -/
abbrev It := (Int × Int) × Bool × Bool

/-- One pass over what is registered. -/
def scanM (alive : τ → Int → Bool) (keep : τ → List (Int × Int) → Int → τ × List (Int × Int) × Int) : τ → List (Int × Int) → List It → τ × List (Int × Int) × List It × Bool
  | t, q, [] => (t, q, [], false)
  | t, q, i :: l =>
    if (i.2.1 && !i.2.2) && alive t i.1.1 then
      let r := scanM alive keep (keep t q i.1.2).1 ((keep t q i.1.2).2.1 ++ [(i.1.1, (keep t q i.1.2).2.2)]) l
      (r.1, r.2.1, (i.1, i.2.1, true) :: r.2.2.1, true)
    else
      let r := scanM alive keep t q l
      (r.1, r.2.1, i :: r.2.2.1, r.2.2.2)

/-- Passes, until nothing more comes. -/
def roundsM (alive : τ → Int → Bool) (keep : τ → List (Int × Int) → Int → τ × List (Int × Int) × Int) : Nat → τ → List (Int × Int) → List It → τ × List (Int × Int) × List It
  | 0, t, q, l => (t, q, l)
  | n + 1, t, q, l =>
    let r := scanM alive keep t q l
    if r.2.2.2 then roundsM alive keep n r.1 r.2.1 r.2.2.1 else (r.1, r.2.1, r.2.2.1)

/-- How many were not moved. -/
def unN (l : List It) : Nat := (l.filter fun i => !i.2.2).length

theorem unN_cons (i : It) (l : List It) : unN (i :: l) = (if i.2.2 then 0 else 1) + unN l := by
  unfold unN
  cases h : i.2.2 <;> simp [List.filter_cons, h]; omega

theorem unN_app (a b : List It) : unN (a ++ b) = unN a + unN b := by unfold unN; simp

theorem scanM_fst (alive : τ → Int → Bool) (keep) : ∀ (l : List It) (t : τ) (q : List (Int × Int)), (scanM alive keep t q l).2.2.1.map (fun i => (i.1, i.2.1)) = l.map (fun i => (i.1, i.2.1))
  | [], _, _ => rfl
  | i :: l, t, q => by
    simp only [scanM]
    split
    · simp only [List.map_cons]; rw [scanM_fst alive keep l]
    · simp only [List.map_cons]; rw [scanM_fst alive keep l]

theorem scanM_un (alive : τ → Int → Bool) (keep) : ∀ (l : List It) (t : τ) (q : List (Int × Int)), unN (scanM alive keep t q l).2.2.1 ≤ unN l ∧ ((scanM alive keep t q l).2.2.2 = true → unN (scanM alive keep t q l).2.2.1 < unN l)
  | [], _, _ => by simp [scanM]
  | i :: l, t, q => by
    simp only [scanM]
    split
    · rename_i h
      have ih := scanM_un alive keep l (keep t q i.1.2).1 ((keep t q i.1.2).2.1 ++ [(i.1.1, (keep t q i.1.2).2.2)])
      simp only [Bool.and_eq_true, Bool.not_eq_true'] at h
      simp only [unN_cons, h.1.2]
      simp
      omega
    · have ih := scanM_un alive keep l t q
      simp only [unN_cons]
      refine ⟨by omega, fun h => ?_⟩
      have := ih.2 h
      omega

/-- How many cells of a block are false. -/
def cntF (w : World) (b : Nat) : Nat := match w.heap[b]? with
  | some (.cells c _ _) => (c.toList.filter fun v => match v with | .bool false => true | _ => false).length
  | _ => 0

theorem cntF_blk {w : World} {b : Nat} {l : List It} {T : TypeId} (h : Blk w b (l.map fun i => .bool i.2.2) T) : cntF w b = unN l := by
  unfold Blk at h
  unfold cntF unN
  rw [h]
  simp only [List.filter_map, List.length_map]
  congr 2
  funext i
  simp only [Function.comp]
  cases i.2.2 <;> rfl

def Liv.cells {P : Program} {p : Nat} (L : Liv P p τ) : List Value := [.func (.func L.fa) L.a1 L.a2, .func (.func L.fk) L.k1 L.k2, .func (.func L.fn) L.n1 L.n2]

/-- In the midst of Settle. -/
structure Mid {P : Program} {p : Nat} (L : Liv P p τ) (w : World) (F : Nat → Prop) (rv wv : Value) (b0 b1 b2 : Nat) (items : List It) (q : List (Int × Int)) (t' : τ) (F' : Nat → Prop) (wv' : Value) (wr : World) : Prop where
  hJ : L.J wr t' F'
  hS : SideAt wr p rv wv' (items.map (·.1)) q
  hA : Apart F' p rv wv'
  hK : Keeps (fun b => F b ∨ SideFp p rv wv b) w wr
  hF : ∀ b, F' b → F b ∨ w.heap.size ≤ b
  hO : ∀ b, ownB wv' b → ownB wv b ∨ w.heap.size ≤ b
  h0 : Blk wr b0 L.cells 51
  h1 : Blk wr b1 (items.map fun i => .bool i.2.1) 4
  h2 : Blk wr b2 (items.map fun i => .bool i.2.2) 4
  n0 : ¬ F' b0
  n1 : ¬ F' b1
  n2 : ¬ F' b2
  g0 : w.heap.size ≤ b0
  g1 : w.heap.size ≤ b1
  g2 : w.heap.size ≤ b2
  b12 : b1 ≠ b2
  hq : ∀ e ∈ q, L.D t' e.1 ∧ L.D t' e.2
  hr : ∀ i ∈ items, L.D t' i.1.1 ∧ L.DK t' i.1.2

theorem SideAt.nfp {w : World} {p b : Nat} {rv wv : Value} {regs wait : List (Int × Int)} {c : List Value} {T : TypeId} (h : SideAt w p rv wv regs wait) (hb : Blk w b c T) (h1 : T ≠ 37) (h2 : T ≠ 40) : ¬ SideFp p rv wv b := by
  rintro (rfl | h' | h')
  · exact hb.ne h.hp h1 rfl
  · obtain ⟨_, cur, hc⟩ := h.hr.own h'
    exact hb.ne hc h2 rfl
  · obtain ⟨_, cur, hc⟩ := h.hw.own h'
    exact hb.ne hc h2 rfl

section
variable {P : Program} {p : Nat} {L : Liv P p τ} {w : World} {F : Nat → Prop} {rv wv : Value} {b0 b1 b2 : Nat} {items : List It} {q : List (Int × Int)} {t' : τ} {F' : Nat → Prop} {wv' : Value} {wr : World}

theorem Mid.keep {w2 : World} (h : Mid L w F rv wv b0 b1 b2 items q t' F' wv' wr) (k : Keeps (fun _ => False) wr w2) : Mid L w F rv wv b0 b1 b2 items q t' F' wv' w2 :=
  ⟨L.J_keep h.hJ k (fun _ _ h => h), h.hS.keep k (fun _ _ h => h), h.hA, h.hK.trans (k.mono fun _ _ h => h.elim), h.hF, h.hO, k.blk h.h0 (fun h => h), k.blk h.h1 (fun h => h), k.blk h.h2 (fun h => h), h.n0, h.n1, h.n2, h.g0, h.g1, h.g2, h.b12, h.hq, h.hr⟩

theorem Mid.move {i : It} {a b : List It} (h : Mid L w F rv wv b0 b1 b2 (a ++ i :: b) q t' F' wv' wr) : Mid L w F rv wv b0 b1 b2 (a ++ (i.1, i.2.1, true) :: b) q t' F' wv' (wr.setCell ⟨b2, a.length, none⟩ (.bool true)) := by
  have k := (Keeps.refl (· = b2) wr).setCell (p := ⟨b2, a.length, none⟩) (.inl rfl) (.bool true)
  have hn : ¬ SideFp p rv wv' b2 := h.hS.nfp h.h2 (by decide) (by decide)
  refine ⟨L.J_keep h.hJ k (by rintro b hb rfl; exact h.n2 hb), ?_, h.hA, h.hK.setCell (p := ⟨b2, a.length, none⟩) (.inr h.g2) _, h.hF, h.hO, k.blk h.h0 (fun e => ?_), ?_, ?_, h.n0, h.n1, h.n2, h.g0, h.g1, h.g2, h.b12, h.hq, ?_⟩
  · have := h.hS.keep k (by rintro b hb rfl; exact hn hb)
    simpa using this
  · subst e; exact h.h0.ne h.h2 (by decide) rfl
  · have := k.blk h.h1 h.b12
    simpa using this
  · have := h.h2.setSame a.length (.bool true)
    simpa using this
  · intro j hj
    simp only [List.mem_append, List.mem_cons] at hj
    rcases hj with hj | rfl | hj
    · exact h.hr j (by simp [hj])
    · exact h.hr i (by simp)
    · exact h.hr j (by simp [hj])

theorem Mid.kept {x : Int} {w2 : World} {F2 : Nat → Prop} (h : Mid L w F rv wv b0 b1 b2 items q t' F' wv' wr) (hx : L.DK t' x)
    (hJ : L.J w2 (L.keep t' q x).1 F2) (hS : SideAt w2 p rv wv' (items.map (·.1)) (L.keep t' q x).2.1) (hA : Apart F2 p rv wv') (hk : Keeps (fun k => F' k ∨ SideFp p rv wv' k) wr w2) (hF2 : ∀ k, F2 k → F' k ∨ wr.heap.size ≤ k) :
    Mid L w F rv wv b0 b1 b2 items (L.keep t' q x).2.1 (L.keep t' q x).1 F2 wv' w2 := by
  have out : ∀ {b : Nat} {c : List Value} {T : TypeId}, Blk wr b c T → ¬ F' b → T ≠ 37 → T ≠ 40 → Blk w2 b c T ∧ ¬ F2 b := fun {b c T} hb hn h1 h2 =>
    ⟨hk.blk hb (by rintro (h3 | h3); exact hn h3; exact h.hS.nfp hb h1 h2 h3), fun h3 => by
      rcases hF2 _ h3 with h4 | h4
      · exact hn h4
      · have := hb.lt; omega⟩
  refine ⟨hJ, hS, hA, h.hK.then hk ?_, ?_, h.hO, (out h.h0 h.n0 (by decide) (by decide)).1, (out h.h1 h.n1 (by decide) (by decide)).1, (out h.h2 h.n2 (by decide) (by decide)).1,
    (out h.h0 h.n0 (by decide) (by decide)).2, (out h.h1 h.n1 (by decide) (by decide)).2, (out h.h2 h.n2 (by decide) (by decide)).2, h.g0, h.g1, h.g2, h.b12, L.D_wait hx h.hq, fun i hi => ⟨L.D_keep hx (h.hr i hi).1, L.DK_keep hx (h.hr i hi).2⟩⟩
  · rintro b (hb | hb | hb | hb)
    · rcases h.hF b hb with h1 | h1
      · exact .inl (.inl h1)
      · exact .inr h1
    · exact .inl (.inr (.inl hb))
    · exact .inl (.inr (.inr (.inl hb)))
    · rcases h.hO b hb with h1 | h1
      · exact .inl (.inr (.inr (.inr h1)))
      · exact .inr h1
  · intro b hb
    rcases hF2 b hb with h1 | h1
    · exact h.hF b h1
    · exact .inr (Nat.le_trans h.hK.size h1)

/-- A longer list waits: in memory of its own. -/
theorem Mid.app {e : Int × Int} {w2 : World} {v2 : Value} (h : Mid L w F rv wv b0 b1 b2 items q t' F' wv' wr) (he : L.D t' e.1 ∧ L.D t' e.2)
    (hs : Sl w2 40 2 v2 (q ++ [e]).length (entV (q ++ [e]))) (hk : Keeps (ownB wv') wr w2) (ho : ∀ k, ownB v2 k → ownB wv' k ∨ wr.heap.size ≤ k) :
    Mid L w F rv wv b0 b1 b2 items (q ++ [e]) t' F' v2 (w2.setCell ⟨p, 1, none⟩ v2) := by
  have hkp := (Keeps.refl (· = p) w2).setCell (p := ⟨p, 1, none⟩) (.inl rfl) v2
  have hpw := h.hS.pw
  have hp2 := hk.blk h.hS.hp hpw
  have hFp : ¬ F' p := fun hb => h.hA p ⟨hb, .inl rfl⟩
  have out : ∀ {b : Nat} {c : List Value} {T : TypeId}, Blk wr b c T → T ≠ 37 → T ≠ 40 → Blk (w2.setCell ⟨p, 1, none⟩ v2) b c T := fun {b c T} hb h1 h2 => by
    have hn := h.hS.nfp hb h1 h2
    exact hkp.blk (hk.blk hb (fun h3 => hn (.inr (.inr h3)))) (fun h3 => hn (.inl h3))
  have hv2p : ¬ ownB v2 p := fun hb => by
    obtain ⟨_, cur, hc⟩ := hs.own hb
    exact hp2.ne hc (by decide) rfl
  refine ⟨L.J_keep (L.J_keep h.hJ hk (fun b hb h1 => h.hA b ⟨hb, .inr (.inr h1)⟩)) hkp (by rintro b hb rfl; exact hFp hb), ⟨by simpa using hp2.setSame 1 v2, ?_, ?_, ?_⟩, ?_, ?_, h.hF, ?_, out h.h0 (by decide) (by decide), out h.h1 (by decide) (by decide), out h.h2 (by decide) (by decide),
    h.n0, h.n1, h.n2, h.g0, h.g1, h.g2, h.b12, ?_, h.hr⟩
  · exact (h.hS.hr.keep hk (fun b hb h1 => h.hS.ap b ⟨hb, h1⟩)).keep hkp (by rintro b hb rfl; exact h.hS.pr hb)
  · exact hs.keep hkp (by rintro b hb rfl; exact hv2p hb)
  · rintro b ⟨h1, h2⟩
    rcases ho b h2 with h3 | h3
    · exact h.hS.ap b ⟨h1, h3⟩
    · have := (h.hS.hr.own h1).1; omega
  · rintro b ⟨h1, h2 | h2 | h2⟩
    · exact h.hA b ⟨h1, .inl h2⟩
    · exact h.hA b ⟨h1, .inr (.inl h2)⟩
    · rcases ho b h2 with h3 | h3
      · exact h.hA b ⟨h1, .inr (.inr h3)⟩
      · have := L.J_lt h.hJ h1; omega
  · refine (h.hK.then hk (fun b hb => ?_)).setCell (p := ⟨p, 1, none⟩) (.inl (.inr (.inl rfl))) _
    rcases h.hO b hb with h1 | h1
    · exact .inl (.inr (.inr (.inr h1)))
    · exact .inr h1
  · intro b hb
    rcases ho b hb with h1 | h1
    · exact h.hO b h1
    · exact .inr (Nat.le_trans h.hK.size h1)
  · intro e' he'
    simp only [List.mem_append, List.mem_singleton] at he'
    rcases he' with he' | rfl
    · exact h.hq _ he'
    · exact he

end

/-- In the midst of a pass. -/
def ScanIn {P : Program} {p : Nat} (L : Liv P p τ) (w : World) (F : Nat → Prop) (rv wv : Value) (b0 b1 b2 : Nat) (t1 : τ) (q1 : List (Int × Int)) (items : List It) (N : Nat) (wr : World) (k : Nat) (more : Bool) : Prop :=
  ∃ t' q' F' wv' done, done.length = k ∧ Mid L w F rv wv b0 b1 b2 (done ++ items.drop k) q' t' F' wv' wr ∧ q'.length + unN (done ++ items.drop k) ≤ N ∧
    scanM L.alive L.keep t1 q1 items = ((scanM L.alive L.keep t' q' (items.drop k)).1, (scanM L.alive L.keep t' q' (items.drop k)).2.1, done ++ (scanM L.alive L.keep t' q' (items.drop k)).2.2.1, more || (scanM L.alive L.keep t' q' (items.drop k)).2.2.2)

theorem ScanIn.skip {P : Program} {p : Nat} {L : Liv P p τ} {w : World} {F : Nat → Prop} {rv wv : Value} {b0 b1 b2 : Nat} {t1 : τ} {q1 : List (Int × Int)} {items : List It} {N : Nat} {wr w2 : World} {k : Nat} {more : Bool}
    {t' : τ} {q' : List (Int × Int)} {F' : Nat → Prop} {wv' : Value} {done : List It} {i : It} (hd : done.length = k) (hdr : items.drop k = i :: items.drop (k + 1)) (hm : Mid L w F rv wv b0 b1 b2 (done ++ i :: items.drop (k + 1)) q' t' F' wv' wr) (hN : q'.length + unN (done ++ i :: items.drop (k + 1)) ≤ N)
    (he : scanM L.alive L.keep t1 q1 items = ((scanM L.alive L.keep t' q' (i :: items.drop (k + 1))).1, (scanM L.alive L.keep t' q' (i :: items.drop (k + 1))).2.1, done ++ (scanM L.alive L.keep t' q' (i :: items.drop (k + 1))).2.2.1, more || (scanM L.alive L.keep t' q' (i :: items.drop (k + 1))).2.2.2))
    (hk2 : Keeps (fun _ => False) wr w2) (hc : ((i.2.1 && !i.2.2) && L.alive t' i.1.1) = false) : ScanIn L w F rv wv b0 b1 b2 t1 q1 items N w2 (k + 1) more := by
  have e : done ++ i :: items.drop (k + 1) = (done ++ [i]) ++ items.drop (k + 1) := by simp
  refine ⟨t', q', F', wv', done ++ [i], by simp [hd], ?_, ?_, ?_⟩
  · rw [← e]; exact hm.keep hk2
  · rw [← e]; exact hN
  · rw [he]
    simp only [scanM, hc, if_neg (show ¬ (false = true) by decide), List.append_assoc, List.cons_append, List.nil_append]

theorem ScanIn.took {P : Program} {p : Nat} {L : Liv P p τ} {w : World} {F : Nat → Prop} {rv wv : Value} {b0 b1 b2 : Nat} {t1 : τ} {q1 : List (Int × Int)} {items : List It} {N : Nat} {w2 : World} {k : Nat} {more : Bool}
    {t' : τ} {q' : List (Int × Int)} {F2 : Nat → Prop} {v2 : Value} {done : List It} {i : It} (hd : done.length = k) (hN : q'.length + unN (done ++ i :: items.drop (k + 1)) ≤ N)
    (he : scanM L.alive L.keep t1 q1 items = ((scanM L.alive L.keep t' q' (i :: items.drop (k + 1))).1, (scanM L.alive L.keep t' q' (i :: items.drop (k + 1))).2.1, done ++ (scanM L.alive L.keep t' q' (i :: items.drop (k + 1))).2.2.1, more || (scanM L.alive L.keep t' q' (i :: items.drop (k + 1))).2.2.2))
    (hm : Mid L w F rv wv b0 b1 b2 (done ++ (i.1, i.2.1, true) :: items.drop (k + 1)) ((L.keep t' q' i.1.2).2.1 ++ [(i.1.1, (L.keep t' q' i.1.2).2.2)]) (L.keep t' q' i.1.2).1 F2 v2 w2)
    (hc : ((i.2.1 && !i.2.2) && L.alive t' i.1.1) = true) : ScanIn L w F rv wv b0 b1 b2 t1 q1 items N w2 (k + 1) true := by
  have e : done ++ (i.1, i.2.1, true) :: items.drop (k + 1) = (done ++ [(i.1, i.2.1, true)]) ++ items.drop (k + 1) := by simp
  refine ⟨(L.keep t' q' i.1.2).1, (L.keep t' q' i.1.2).2.1 ++ [(i.1.1, (L.keep t' q' i.1.2).2.2)], F2, v2, done ++ [(i.1, i.2.1, true)], by simp [hd], ?_, ?_, ?_⟩
  · rw [← e]; exact hm
  · rw [← e]
    simp only [Bool.and_eq_true, Bool.not_eq_true'] at hc
    simp only [List.length_append, L.keep_len, unN_app, unN_cons, hc.1.2] at hN ⊢
    simp at hN ⊢
    omega
  · rw [he]
    simp only [scanM, hc, if_true, List.append_assoc, List.cons_append, List.nil_append, Bool.or_true, Bool.true_or]

end Go.Proofs.Ytjifdalflepcoaa
