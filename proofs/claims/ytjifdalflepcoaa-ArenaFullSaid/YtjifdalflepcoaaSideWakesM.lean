/-
  SideWakes (law04.go): what lies in memory, and the plain law.
-/
import Derived.Test.YtjifdalflepcoaaWordsL
import Derived.Test.YtjifdalflepcoaaAppR
namespace Go.Proofs.Ytjifdalflepcoaa
open Go.RowKit
set_option linter.unusedVariables false
set_option linter.unusedSimpArgs false

abbrev nilS : Value := .slice none 0 0

theorem own_nil {k : Nat} (h : ownB nilS k) : False := by simp [ownB, Value.ownBlock] at h

def kpW (leads : List (Int × Int)) (t : List Int) (x : Int) : List Int × Int := (keepW leads 1000 t x, wrap64 (x + 1000))

abbrev wakeW (leads : List (Int × Int)) (t : List Int) (l : List (Int × Int)) : List Int × List (Int × Int) × Bool := wakeM liveT (kpW leads) t l

/-- How many things have not come yet. -/
def cntS (l : List (Int × Int)) : Nat := (l.filter fun e => decide (e.2 < 1000)).length

theorem cntS_cons (e : Int × Int) (l : List (Int × Int)) : cntS (e :: l) = (if e.2 < 1000 then 1 else 0) + cntS l := by
  unfold cntS
  by_cases h : e.2 < 1000
  · rw [List.filter_cons_of_pos (by simpa using h), if_pos h]; simp; omega
  · rw [List.filter_cons_of_neg (by simpa using h), if_neg h]; omega

theorem cntS_le (l : List (Int × Int)) : cntS l ≤ l.length := List.length_filter_le _ _

/-- What waits is small, or was kept. -/
def WOk (T : List Int) (e : Int × Int) : Prop := smallW e.1 ∧ e.1 ∈ T ∧ ((e.2 ∈ T ∧ smallW e.2) ∨ 1000 ≤ e.2)

theorem wakeW_spec {leads : List (Int × Int)} {T : List Int} : ∀ (l : List (Int × Int)) (t : List Int), (∀ e ∈ l, WOk T e) →
    (wakeM liveT (kpW leads) t l).2.1.length = l.length ∧ cntS (wakeM liveT (kpW leads) t l).2.1 ≤ cntS l ∧ ((wakeM liveT (kpW leads) t l).2.2 = true → cntS (wakeM liveT (kpW leads) t l).2.1 < cntS l) ∧ ∀ e ∈ (wakeM liveT (kpW leads) t l).2.1, WOk T e
  | [], _, _ => by simp [wakeM]
  | e :: l, t, h => by
    have he := h e (by simp)
    have hl : ∀ e ∈ l, WOk T e := fun x hx => h x (by simp [hx])
    simp only [wakeM]
    by_cases hc : (liveT t e.1 && !liveT t e.2) = true
    · rw [if_pos hc]
      obtain ⟨i1, i2, i3, i4⟩ := wakeW_spec (leads := leads) l (kpW leads t e.2).1 hl
      simp only [Bool.and_eq_true, Bool.not_eq_true'] at hc
      have hs : e.2 ∈ T ∧ smallW e.2 := by
        rcases he.2.2 with h | h
        · exact h
        · have := hc.2; unfold liveT at this; rw [decide_eq_true h] at this; cases this
      have hw := wrapUp hs.2
      have hs2 := hs.2
      unfold smallW at hs2
      have hk : (kpW leads t e.2).2 = e.2 + 1000 := hw
      refine ⟨by simp only [List.length_cons, i1], ?_, fun _ => ?_, ?_⟩
      · simp only [cntS_cons, hk]
        rw [if_neg (by omega)]; omega
      · simp only [cntS_cons, hk]
        rw [if_neg (by omega), if_pos (by omega)]; omega
      · intro x hx
        rcases List.mem_cons.1 hx with rfl | hx
        · exact ⟨he.1, he.2.1, .inr (by simp only [hk]; omega)⟩
        · exact i4 x hx
    · rw [if_neg hc]
      obtain ⟨i1, i2, i3, i4⟩ := wakeW_spec (leads := leads) l t hl
      refine ⟨by simp only [List.length_cons, i1], ?_, fun h => ?_, ?_⟩
      · simp only [cntS_cons]; omega
      · have := i3 h
        simp only [cntS_cons]; omega
      · intro x hx
        rcases List.mem_cons.1 hx with rfl | hx
        · exact he
        · exact i4 x hx

/-- In the midst of it. -/
def WkIn (leads : List (Int × Int)) (t : List Int) (l : List (Int × Int)) (ti : List Int) (pre : List (Int × Int)) (woke : Bool) (k : Nat) : Prop :=
  pre.length = k ∧ wakeW leads t l = ((wakeW leads ti (l.drop k)).1, pre ++ (wakeW leads ti (l.drop k)).2.1, woke || (wakeW leads ti (l.drop k)).2.2)

theorem WkIn.start (leads : List (Int × Int)) (t : List Int) (l : List (Int × Int)) : WkIn leads t l t [] false 0 := ⟨rfl, by simp⟩

theorem WkIn.skip {leads : List (Int × Int)} {t ti : List Int} {l pre : List (Int × Int)} {woke : Bool} {k : Nat} (h : WkIn leads t l ti pre woke k) (hk : k < l.length) (hc : (liveT ti (l.getD k (0, 0)).1 && !liveT ti (l.getD k (0, 0)).2) = false) :
    WkIn leads t l ti (pre ++ [l.getD k (0, 0)]) woke (k + 1) := by
  have hdr : l.drop k = l.getD k (0, 0) :: l.drop (k + 1) := by rw [List.drop_eq_getElem_cons hk]; simp [List.getD, hk]
  refine ⟨by simp [h.1], ?_⟩
  rw [h.2, hdr]
  simp only [wakeM, hc, if_neg (show ¬ (false = true) by decide), List.append_assoc, List.cons_append, List.nil_append]

theorem WkIn.kept {leads : List (Int × Int)} {t ti : List Int} {l pre : List (Int × Int)} {woke : Bool} {k : Nat} (h : WkIn leads t l ti pre woke k) (hk : k < l.length) (hc : (liveT ti (l.getD k (0, 0)).1 && !liveT ti (l.getD k (0, 0)).2) = true) :
    WkIn leads t l (keepW leads 1000 ti (l.getD k (0, 0)).2) (pre ++ [((l.getD k (0, 0)).1, wrap64 ((l.getD k (0, 0)).2 + 1000))]) true (k + 1) := by
  have hdr : l.drop k = l.getD k (0, 0) :: l.drop (k + 1) := by rw [List.drop_eq_getElem_cons hk]; simp [List.getD, hk]
  refine ⟨by simp [h.1], ?_⟩
  rw [h.2, hdr]
  simp only [wakeM, hc, if_true, List.append_assoc, List.cons_append, List.nil_append, Bool.or_true, Bool.true_or, kpW]

theorem WkIn.done {leads : List (Int × Int)} {t ti : List Int} {l pre : List (Int × Int)} {woke : Bool} (h : WkIn leads t l ti pre woke l.length) : wakeW leads t l = (ti, pre, woke) := by
  rw [h.2, List.drop_length]; simp [wakeM]

/-- The blocks of a words. -/
def WFp (q : Nat) (a l : Value) (k : Nat) : Prop := k = q ∨ ownB a k ∨ ownB l k

/-- A Side and two words in memory, one of them pointed to by the variable at bv. -/
structure WkMem (w0 wr : World) (p q1 q2 bv : Nat) (sv a1 l1 a2 l2 : Value) (t1 t2 : List Int) (l leads : List (Int × Int)) : Prop where
  hS : SideAt wr p nilS sv [] l
  h1 : WordsAt wr q1 a1 l1 t1 leads
  h2 : WordsAt wr q2 a2 l2 t2 leads
  hb : Blk wr bv [.pointer (some ⟨q1, 0, none⟩)] 42
  ap12 : ∀ k, WFp q1 a1 l1 k ∨ k = bv → ¬ WFp q2 a2 l2 k
  apS1 : ∀ k, WFp q1 a1 l1 k ∨ k = bv → ¬ SideFp p nilS sv k
  apS2 : ∀ k, WFp q2 a2 l2 k → ¬ SideFp p nilS sv k
  hK : Keeps (fun _ => False) w0 wr
  f1 : ∀ k, WFp q1 a1 l1 k ∨ k = bv → w0.heap.size ≤ k
  f2 : ∀ k, WFp q2 a2 l2 k → w0.heap.size ≤ k
  fS : ∀ k, SideFp p nilS sv k → w0.heap.size ≤ k

section
variable {w0 wr w2 : World} {p q1 q2 bv : Nat} {sv a1 l1 a2 l2 : Value} {t1 t2 : List Int} {l leads : List (Int × Int)}

theorem WkMem.keep (h : WkMem w0 wr p q1 q2 bv sv a1 l1 a2 l2 t1 t2 l leads) (k : Keeps (fun _ => False) wr w2) : WkMem w0 w2 p q1 q2 bv sv a1 l1 a2 l2 t1 t2 l leads :=
  ⟨h.hS.keep k (fun _ _ h => h), h.h1.keep k (fun _ _ h => h), h.h2.keep k (fun _ _ h => h), k.blk h.hb (fun h => h), h.ap12, h.apS1, h.apS2, h.hK.trans k, h.f1, h.f2, h.fS⟩

theorem WkMem.lt1 (h : WkMem w0 wr p q1 q2 bv sv a1 l1 a2 l2 t1 t2 l leads) {k : Nat} (hk : WFp q1 a1 l1 k ∨ k = bv) : k < wr.heap.size := by
  rcases hk with hk | rfl
  · exact h.h1.own_lt hk
  · exact h.hb.lt

theorem WkMem.lt2 (h : WkMem w0 wr p q1 q2 bv sv a1 l1 a2 l2 t1 t2 l leads) {k : Nat} (hk : WFp q2 a2 l2 k) : k < wr.heap.size := h.h2.own_lt hk

/-- What lies beside them may turn. -/
theorem WkMem.keepOut {S : Nat → Prop} (h : WkMem w0 wr p q1 q2 bv sv a1 l1 a2 l2 t1 t2 l leads) (k : Keeps S wr w2) (hS : ∀ k, S k → w0.heap.size ≤ k ∧ ¬ SideFp p nilS sv k ∧ ¬ (WFp q1 a1 l1 k ∨ k = bv) ∧ ¬ WFp q2 a2 l2 k) : WkMem w0 w2 p q1 q2 bv sv a1 l1 a2 l2 t1 t2 l leads :=
  ⟨h.hS.keep k (fun b hb hs => (hS b hs).2.1 hb), h.h1.keep k (fun b hb hs => (hS b hs).2.2.1 (.inl hb)), h.h2.keep k (fun b hb hs => (hS b hs).2.2.2 hb), k.blk h.hb (fun hs => (hS _ hs).2.2.1 (.inr rfl)), h.ap12, h.apS1, h.apS2, h.hK.then k (fun b hb => .inr (hS b hb).1), h.f1, h.f2, h.fS⟩

/-- The second words grow. -/
theorem WkMem.two {a2' : Value} {t2' : List Int} (h : WkMem w0 wr p q1 q2 bv sv a1 l1 a2 l2 t1 t2 l leads) (hw : WordsAt w2 q2 a2' l2 t2' leads) (k : Keeps (fun b => b = q2 ∨ ownB a2 b) wr w2) (ho : ∀ b, ownB a2' b → ownB a2 b ∨ wr.heap.size ≤ b) :
    WkMem w0 w2 p q1 q2 bv sv a1 l1 a2' l2 t1 t2' l leads := by
  have hin : ∀ b, (b = q2 ∨ ownB a2 b) → WFp q2 a2 l2 b := fun b hb => by
    rcases hb with h | h
    · exact .inl h
    · exact .inr (.inl h)
  have n1 : ∀ b, (WFp q1 a1 l1 b ∨ b = bv) → ¬ (b = q2 ∨ ownB a2 b) := fun b h1 h2 => h.ap12 b h1 (hin b h2)
  have nS : ∀ b, SideFp p nilS sv b → ¬ (b = q2 ∨ ownB a2 b) := fun b h1 h2 => h.apS2 b (hin b h2) h1
  have new : ∀ b, WFp q2 a2' l2 b → WFp q2 a2 l2 b ∨ wr.heap.size ≤ b := fun b hb => by
    rcases hb with h | h | h
    · exact .inl (.inl h)
    · rcases ho b h with h | h
      · exact .inl (.inr (.inl h))
      · exact .inr h
    · exact .inl (.inr (.inr h))
  refine ⟨h.hS.keep k nS, h.h1.keep k (fun b hb => n1 b (.inl hb)), hw, k.blk h.hb (n1 bv (.inr rfl)), ?_, h.apS1, ?_, h.hK.then k ?_, h.f1, ?_, h.fS⟩
  · intro b hb hb2
    rcases new b hb2 with h3 | h3
    · exact h.ap12 b hb h3
    · have := h.lt1 hb; omega
  · intro b hb hb2
    rcases new b hb with h3 | h3
    · exact h.apS2 b h3 hb2
    · have := h.hS.fp_lt hb2; omega
  · intro b hb
    exact .inr (h.f2 b (hin b hb))
  · intro b hb
    rcases new b hb with h3 | h3
    · exact h.f2 b h3
    · exact Nat.le_trans h.hK.size h3

/-- The first words grow, and the Side's Wait is another list. -/
theorem WkMem.one {a1' : Value} {t1' : List Int} {l' : List (Int × Int)} {lv1' : Value} {F F' : Nat → Prop} (h : WkMem w0 wr p q1 q2 bv sv a1 l1 a2 l2 t1 t2 l leads) (hF : ∀ k, F k → WFp q1 a1 l1 k ∨ k = bv) (hw : WordsAt w2 q1 a1' lv1' t1' leads) (hb : Blk w2 bv [.pointer (some ⟨q1, 0, none⟩)] 42) (hS : SideAt w2 p nilS sv [] l')
    (hF' : ∀ k, (WFp q1 a1' lv1' k ∨ k = bv) → F' k) (hA : Apart F' p nilS sv) (k : Keeps (fun b => F b ∨ SideFp p nilS sv b) wr w2) (ho : ∀ b, F' b → F b ∨ wr.heap.size ≤ b) :
    WkMem w0 w2 p q1 q2 bv sv a1' lv1' a2 l2 t1' t2 l' leads := by
  refine ⟨hS, hw, h.h2.keep k ?_, hb, ?_, ?_, h.apS2, h.hK.then k ?_, ?_, h.f2, h.fS⟩
  · rintro b h2 (h3 | h3)
    · exact h.ap12 b (hF b h3) h2
    · exact h.apS2 b h2 h3
  · intro b h1 h2
    rcases ho b (hF' b h1) with h3 | h3
    · exact h.ap12 b (hF b h3) h2
    · have := h.h2.own_lt h2; omega
  · intro b h1 h2
    exact hA b ⟨hF' b h1, h2⟩
  · rintro b (h1 | h1)
    · exact .inr (h.f1 b (hF b h1))
    · exact .inr (h.fS b h1)
  · intro b h1
    rcases ho b (hF' b h1) with h3 | h3
    · exact h.f1 b (hF b h3)
    · exact Nat.le_trans h.hK.size h3

end

theorem entV_one (l : List (Int × Int)) : ∀ u ∈ entV l, u.oneCell' = true := by
  intro u hu
  unfold entV at hu
  simp only [List.mem_flatMap, List.mem_cons, List.not_mem_nil, or_false] at hu
  obtain ⟨e, _, rfl | rfl⟩ := hu <;> rfl

theorem ent_one {a b : Int} : ∀ u ∈ [Value.int .i64 a, Value.int .i64 b], u.oneCell' = true := by
  intro u hu; simp at hu; rcases hu with rfl | rfl <;> rfl

theorem ints_one (l : List Int) : ∀ u ∈ l.map (Value.int .i64), u.oneCell' = true := by
  intro u hu
  obtain ⟨e, _, rfl⟩ := List.mem_map.1 hu
  rfl

/-- A Side whose Wait is set. -/
theorem SideAt.setWait {w : World} {p : Nat} {rv wv0 wv : Value} {regs wait : List (Int × Int)} (hp : Blk w p [rv, wv0] 37) (hr : Sl w 40 2 rv regs.length (entV regs)) (hw : Sl w 40 2 wv wait.length (entV wait)) (ap : ∀ k, ¬ (ownB rv k ∧ ownB wv k)) :
    SideAt (w.setCell ⟨p, 1, none⟩ wv) p rv wv regs wait := by
  have kp := (Keeps.refl (· = p) w).setCell (p := ⟨p, 1, none⟩) (.inl rfl) wv
  refine ⟨by simpa using hp.setSame 1 wv, hr.keep kp ?_, hw.keep kp ?_, ap⟩
  · rintro b hb rfl
    obtain ⟨_, cur, hc⟩ := hr.own hb
    exact hp.ne hc (by decide) rfl
  · rintro b hb rfl
    obtain ⟨_, cur, hc⟩ := hw.own hb
    exact hp.ne hc (by decide) rfl

/-- A words of which alive is set. -/
theorem WordsAt.setAlive {w : World} {q : Nat} {av0 av lv : Value} {alive : List Int} {leads : List (Int × Int)} (hq : Blk w q [av0, lv] 44) (ha : Sl w 2 1 av alive.length (alive.map (Value.int .i64))) (hl : Sl w 103 2 lv leads.length (pairV leads)) :
    WordsAt (w.setCell ⟨q, 0, none⟩ av) q av lv alive leads := by
  have kp := (Keeps.refl (· = q) w).setCell (p := ⟨q, 0, none⟩) (.inl rfl) av
  refine ⟨by simpa using hq.setSame 0 av, ha.keep kp ?_, hl.keep kp ?_⟩
  · rintro b hb rfl
    obtain ⟨_, cur, hc⟩ := ha.own hb
    exact hq.ne hc (by decide) rfl
  · rintro b hb rfl
    obtain ⟨_, cur, hc⟩ := hl.own hb
    exact hq.ne hc (by decide) rfl

/-- A words of which leads is set. -/
theorem WordsAt.setLeads {w : World} {q : Nat} {av lv0 lv : Value} {alive : List Int} {leads : List (Int × Int)} (hq : Blk w q [av, lv0] 44) (ha : Sl w 2 1 av alive.length (alive.map (Value.int .i64))) (hl : Sl w 103 2 lv leads.length (pairV leads)) :
    WordsAt (w.setCell ⟨q, 1, none⟩ lv) q av lv alive leads := by
  have kp := (Keeps.refl (· = q) w).setCell (p := ⟨q, 1, none⟩) (.inl rfl) lv
  refine ⟨by simpa using hq.setSame 1 lv, ha.keep kp ?_, hl.keep kp ?_⟩
  · rintro b hb rfl
    obtain ⟨_, cur, hc⟩ := ha.own hb
    exact hq.ne hc (by decide) rfl
  · rintro b hb rfl
    obtain ⟨_, cur, hc⟩ := hl.own hb
    exact hq.ne hc (by decide) rfl

/-- What becomes, list beside list: it lies apart from all else. -/
structure WantAt (w0 wr : World) (p q1 q2 bv : Nat) (sv a1 l1 a2 l2 wv : Value) (pre : List (Int × Int)) : Prop where
  hs : Sl wr 40 2 wv pre.length (entV pre)
  ap : ∀ k, ownB wv k → w0.heap.size ≤ k ∧ ¬ SideFp p nilS sv k ∧ ¬ (WFp q1 a1 l1 k ∨ k = bv) ∧ ¬ WFp q2 a2 l2 k

section
variable {w0 wr w2 : World} {p q1 q2 bv : Nat} {sv a1 l1 a2 l2 wv : Value} {t1 t2 : List Int} {l leads pre : List (Int × Int)}

theorem WantAt.nil (w0 wr : World) (p q1 q2 bv : Nat) (sv a1 l1 a2 l2 : Value) : WantAt w0 wr p q1 q2 bv sv a1 l1 a2 l2 nilS [] := ⟨Sl.nil _ _ _, fun k hk => (own_nil hk).elim⟩

theorem WantAt.keep (h : WantAt w0 wr p q1 q2 bv sv a1 l1 a2 l2 wv pre) (k : Keeps (fun _ => False) wr w2) : WantAt w0 w2 p q1 q2 bv sv a1 l1 a2 l2 wv pre := ⟨h.hs.keep k (fun _ _ h => h), h.ap⟩

theorem WantAt.keepB {S : Nat → Prop} (h : WantAt w0 wr p q1 q2 bv sv a1 l1 a2 l2 wv pre) (k : Keeps S wr w2) (hS : ∀ b, ownB wv b → ¬ S b) : WantAt w0 w2 p q1 q2 bv sv a1 l1 a2 l2 wv pre := ⟨h.hs.keep k hS, h.ap⟩

theorem WantAt.two {a2' : Value} (h : WantAt w0 wr p q1 q2 bv sv a1 l1 a2 l2 wv pre) (k : Keeps (fun b => b = q2 ∨ ownB a2 b) wr w2) (ho : ∀ b, ownB a2' b → ownB a2 b ∨ wr.heap.size ≤ b) : WantAt w0 w2 p q1 q2 bv sv a1 l1 a2' l2 wv pre := by
  refine ⟨h.hs.keep k (fun b hb hs => (h.ap b hb).2.2.2 ?_), fun b hb => ⟨(h.ap b hb).1, (h.ap b hb).2.1, (h.ap b hb).2.2.1, ?_⟩⟩
  · rcases hs with h | h
    · exact .inl h
    · exact .inr (.inl h)
  · rintro (h1 | h1 | h1)
    · exact (h.ap b hb).2.2.2 (.inl h1)
    · rcases ho b h1 with h2 | h2
      · exact (h.ap b hb).2.2.2 (.inr (.inl h2))
      · have := (h.hs.own hb).1; omega
    · exact (h.ap b hb).2.2.2 (.inr (.inr h1))

theorem WantAt.app {wv' : Value} {pre' : List (Int × Int)} (h : WantAt w0 wr p q1 q2 bv sv a1 l1 a2 l2 wv pre) (hm : WkMem w0 wr p q1 q2 bv sv a1 l1 a2 l2 t1 t2 l leads) (hs : Sl w2 40 2 wv' pre'.length (entV pre')) (ho : ∀ b, ownB wv' b → ownB wv b ∨ wr.heap.size ≤ b) :
    WantAt w0 w2 p q1 q2 bv sv a1 l1 a2 l2 wv' pre' := by
  refine ⟨hs, fun b hb => ?_⟩
  rcases ho b hb with h1 | h1
  · exact h.ap b h1
  · refine ⟨Nat.le_trans hm.hK.size h1, fun h2 => ?_, fun h2 => ?_, fun h2 => ?_⟩
    · have := hm.hS.fp_lt h2; omega
    · have := hm.lt1 h2; omega
    · have := hm.lt2 h2; omega
end

theorem info_int64' : (Try.prog.info? 2).map (fun i => (i.zero, i.size, i.bytes)) = some (some (.int .i64 0), 1, 8) := by kernel_rfl
theorem info_pair : (Try.prog.info? 103).map (fun i => (i.zero, i.size, i.bytes)) = some (some (.agg #[.int .i64 0, .int .i64 0]), 2, 16) := by kernel_rfl

end Go.Proofs.Ytjifdalflepcoaa
