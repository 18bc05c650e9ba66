/-
  What is alive; and a world: things without places, as the document has them. No program in sight.
-/
import Derived.Test.YtjifdalflepcoabGraph
import Derived.Test.YtjifdalflepcoabPass
import Derived.Test.YtjifdalflepcoabWordP
namespace Go.Proofs.Ytjifdalflepcoab
set_option linter.unusedVariables false
set_option linter.unusedSimpArgs false

/-- A thing i keeps j, if S is alive. -/
def Leads (G : Gr) (wait : List (Int × Int)) (S : Int → Prop) (i j : Int) : Prop :=
  (((G i).1 = 1 ∨ (G i).1 = 2) ∧ ((3, j) : Vl) ∈ (G i).2) ∨
  ((G i).1 = 3 ∧ (G i).2[1]? = some (3, j)) ∨
  ((G i).1 = 4 ∧ (G i).2[1]? = some (3, j) ∧ ∀ v, (G i).2[0]? = some v → v.1 = 3 → S v.2) ∨
  ((G i).1 = 5 ∧ (i, j) ∈ wait)

def Closed (G : Gr) (wait : List (Int × Int)) (S : Int → Prop) : Prop := ∀ i j, S i → Leads G wait S i j → S j

/-- What X keeps alive. -/
def Alive (G : Gr) (wait : List (Int × Int)) (X : Int → Prop) (i : Int) : Prop := ∀ S : Int → Prop, (∀ j, X j → S j) → Closed G wait S → S i

section
variable {G : Gr} {wait wait' : List (Int × Int)} {S S' X Y : Int → Prop} {i j : Int}

theorem Leads.mono (h : ∀ k, S k → S' k) (hw : ∀ e ∈ wait, e ∈ wait') (hl : Leads G wait S i j) : Leads G wait' S' i j := by
  rcases hl with h1 | h1 | ⟨h1, h2, h3⟩ | ⟨h1, h2⟩
  · exact .inl h1
  · exact .inr (.inl h1)
  · exact .inr (.inr (.inl ⟨h1, h2, fun v hv h3' => h _ (h3 v hv h3')⟩))
  · exact .inr (.inr (.inr ⟨h1, hw _ h2⟩))

theorem Alive.base (h : X i) : Alive G wait X i := fun _ hX _ => hX i h

theorem Alive.least (h : Alive G wait X i) (hX : ∀ k, X k → S k) (hS : Closed G wait S) : S i := h S hX hS

theorem Alive.closed (G : Gr) (wait : List (Int × Int)) (X : Int → Prop) : Closed G wait (Alive G wait X) := fun i j hi hl S hX hS =>
  hS i j (hi S hX hS) (hl.mono (fun k hk => hk S hX hS) (fun _ h => h))

theorem Alive.mono (h : Alive G wait X i) (hX : ∀ k, X k → Alive G wait' Y k) (hw : ∀ e ∈ wait, e ∈ wait') : Alive G wait' Y i :=
  h _ hX (fun a b ha hl => Alive.closed G wait' Y a b ha (hl.mono (fun _ h => h) hw))

theorem Alive.eq (hX : ∀ k, X k → S k) (hS : Closed G wait S) (hl : ∀ k, S k → Alive G wait X k) : ∀ k, S k ↔ Alive G wait X k :=
  fun k => ⟨hl k, fun h => h.least hX hS⟩

/-- An entry whose thing is alive anyway adds nothing. -/
theorem Alive.entry {g t : Int} (ht : X t) : Alive G (wait ++ [(g, t)]) X i ↔ Alive G wait X i := by
  refine ⟨fun h => ?_, fun h => h.mono (fun _ h => Alive.base h) (fun e he => by simp [he])⟩
  refine h.least (fun _ h => Alive.base h) (fun a b ha hl => ?_)
  by_cases hb : b = t
  · subst hb; exact Alive.base ht
  · refine Alive.closed G wait X a b ha ?_
    rcases hl with h1 | h1 | h1 | ⟨h1, h2⟩
    · exact .inl h1
    · exact .inr (.inl h1)
    · exact .inr (.inr (.inl h1))
    · refine .inr (.inr (.inr ⟨h1, ?_⟩))
      rcases List.mem_append.1 h2 with h3 | h3
      · exact h3
      · simp at h3; exact absurd h3.2 hb

/-- Other names, the same things. -/
theorem Alive.congr {G' : Gr} {P : Int → Prop} (hP : ∀ k, X k → P k) (shut : ∀ a, P a → ∀ v ∈ (G a).2, v.1 = 3 → P v.2) (shutw : ∀ e ∈ wait, P e.2) (same : ∀ a, P a → G' a = G a) (h : Alive G wait X i) : Alive G' wait X i ∧ P i := by
  refine h.least (S := fun i => Alive G' wait X i ∧ P i) (fun k hk => ⟨Alive.base hk, hP k hk⟩) (fun a b ha hl => ?_)
  obtain ⟨h1, h2⟩ := ha
  have hs := same a h2
  refine ⟨Alive.closed G' wait X a b h1 ?_, ?_⟩
  · rcases hl with h | h | ⟨h3, h4, h5⟩ | h
    · exact .inl (by rw [hs]; exact h)
    · exact .inr (.inl (by rw [hs]; exact h))
    · exact .inr (.inr (.inl (by rw [hs]; exact ⟨h3, h4, fun v hv h6 => (h5 v hv h6).1⟩)))
    · exact .inr (.inr (.inr (by rw [hs]; exact h)))
  · rcases hl with h | h | h | h
    · exact shut a h2 _ h.2 rfl
    · exact shut a h2 _ (List.mem_of_getElem? h.2) rfl
    · exact shut a h2 _ (List.mem_of_getElem? h.2.1) rfl
    · exact shutw _ h.2
end

/-- A list of Bools at a number. -/
def atB (l : List Bool) (i : Int) : Bool := decide (0 ≤ i) && l.getD i.toNat false

theorem atB_nat (l : List Bool) (i : Nat) : atB l i = l.getD i false := by simp [atB]

theorem atB_lt {l : List Bool} {i : Int} (h : atB l i = true) : 0 ≤ i ∧ i < l.length := by
  unfold atB at h
  simp only [Bool.and_eq_true, decide_eq_true_eq] at h
  refine ⟨h.1, ?_⟩
  by_cases hl : i.toNat < l.length
  · omega
  · have h2 := h.2
    rw [List.getD_eq_getElem?_getD, List.getElem?_eq_none (by omega)] at h2
    cases h2

open Classical in
/-- What a list of Bools keeps alive, as such a list. -/
noncomputable def cloL (G : Gr) (wait : List (Int × Int)) (is : List Bool) : List Bool :=
  (List.range is.length).map fun i => decide (Alive G wait (fun k => atB is k = true) (i : Nat))

theorem cloL_length (G : Gr) (wait : List (Int × Int)) (is : List Bool) : (cloL G wait is).length = is.length := by simp [cloL]

open Classical in
theorem cloL_at {G : Gr} {wait : List (Int × Int)} {is : List Bool} {i : Int} : atB (cloL G wait is) i = true ↔ 0 ≤ i ∧ i < is.length ∧ Alive G wait (fun k => atB is k = true) i := by
  constructor
  · intro h
    have := atB_lt h
    rw [cloL_length] at this
    refine ⟨this.1, this.2, ?_⟩
    unfold atB cloL at h
    simp only [Bool.and_eq_true, List.getD_eq_getElem?_getD, List.getElem?_map] at h
    rw [List.getElem?_range (by omega)] at h
    have h2 := h.2
    simp only [Option.map_some, Option.getD_some, decide_eq_true_eq] at h2
    rwa [show ((i.toNat : Nat) : Int) = i by omega] at h2
  · rintro ⟨h0, h1, h2⟩
    unfold atB cloL
    simp only [Bool.and_eq_true, List.getD_eq_getElem?_getD, List.getElem?_map]
    rw [List.getElem?_range (by omega)]
    refine ⟨by simpa using h0, ?_⟩
    simp only [Option.map_some, Option.getD_some, decide_eq_true_eq]
    rwa [show ((i.toNat : Nat) : Int) = i by omega]

theorem atB_ext {a b : List Bool} (hl : a.length = b.length) (h : ∀ i : Int, 0 ≤ i → i < a.length → (atB a i = true ↔ atB b i = true)) : a = b := by
  apply List.ext_getElem hl
  intro k h1 h2
  have := h k (by omega) (by omega)
  simp only [atB_nat, List.getD_eq_getElem?_getD, List.getElem?_eq_getElem h1, List.getElem?_eq_getElem h2, Option.getD_some] at this
  rw [Bool.eq_iff_iff]; exact this

/-- A list that is closed, and holds nothing that need not be. -/
theorem cloL_eq {G : Gr} {wait : List (Int × Int)} {is out : List Bool} (hl : out.length = is.length) (h1 : ∀ i, atB is i = true → atB out i = true) (h2 : ∀ i, atB out i = true → Alive G wait (fun k => atB is k = true) i)
    (h3 : Closed G wait fun k => atB out k = true) : out = cloL G wait is := by
  refine atB_ext (by rw [cloL_length, hl]) fun i h0 hlt => ?_
  rw [cloL_at]
  exact ⟨fun h => ⟨h0, by omega, h2 i h⟩, fun h => h.2.2.least h1 h3⟩

theorem atB_set {is : List Bool} {x i : Int} (h0 : 0 ≤ x) (h1 : x < is.length) : atB (is.set x.toNat true) i = true ↔ i = x ∨ atB is i = true := by
  unfold atB
  simp only [Bool.and_eq_true, decide_eq_true_eq, List.getD_eq_getElem?_getD, List.getElem?_set]
  by_cases e : x.toNat = i.toNat
  · rw [if_pos e, if_pos (by omega)]
    simp only [Option.getD_some, and_true]
    constructor
    · intro h; left; omega
    · rintro (rfl | ⟨h, _⟩)
      · exact h0
      · exact h
  · rw [if_neg e]
    constructor
    · intro h; exact .inr h
    · rintro (rfl | h)
      · exact absurd rfl e
      · exact h

theorem cloL_entry {G : Gr} {wait : List (Int × Int)} {is : List Bool} {g t : Int} (ht : atB is t = true) : cloL G (wait ++ [(g, t)]) is = cloL G wait is := by
  refine atB_ext (by rw [cloL_length, cloL_length]) fun i h0 hlt => ?_
  rw [cloL_at, cloL_at, Alive.entry (X := fun k => atB is k = true) ht]

/-- A thing of a world. -/
structure Th where
  k : Int
  fs : List Vl
  old : Bool
  dead : Bool

/-- A world: things, as they came; roots; what is registered, what waits; words of the nursery, of the old space. -/
structure Wd where
  T : List Th
  roots : List Vl
  regs : List (Int × Int)
  wait : List (Int × Int)
  most : Int
  grow : Int

def Wd.new (n o : Int) : Wd := ⟨[], List.replicate 12 (0, 0), [], [], n, o⟩

def Th.none : Th := ⟨0, [], false, true⟩
def Wd.th (W : Wd) (i : Int) : Th := W.T.getD i.toNat Th.none
def Wd.rt (W : Wd) (k : Int) : Vl := W.roots.getD k.toNat (0, 0)
def Th.words (t : Th) : Int := 1 + t.fs.length

/-- Of a thing its kind and fields. -/
def Wd.nd (W : Wd) : Gr := fun i => ((W.th i).k, (W.th i).fs)

/-- What waits at a guardian. -/
def waitAt (wait : List (Int × Int)) (g : Int) : List Int := (wait.filter fun e => e.1 == g).map (·.2)

/-- As it is shown: a guardian with what waits at it. -/
def Wd.gr (W : Wd) : Gr := fun i => ((W.th i).k, (W.th i).fs ++ if (W.th i).k = 5 then (waitAt W.wait i).map fun x => ((3, x) : Vl) else [])

def Wd.view (W : Wd) : List Vl × List Nd := viewM W.gr W.roots

def sumW (l : List Th) (p : Th → Bool) : Int := (l.map fun t => if p t then t.words else 0).sum

def Wd.young (W : Wd) : Int := sumW W.T fun t => !t.dead && !t.old
def Wd.olds (W : Wd) : Int := sumW W.T fun t => !t.dead && t.old

/-- What is alive of itself. -/
def Wd.first (W : Wd) (major : Bool) : List Bool :=
  (List.range W.T.length).map fun (i : Nat) => ((W.th (i : Int)).old && !(W.th (i : Int)).dead && !major) || W.roots.any fun v => v.1 == 3 && v.2 == (i : Int)

noncomputable def Wd.clo (W : Wd) (wait : List (Int × Int)) (is : List Bool) : List Bool := cloL W.nd wait is

noncomputable def Wd.keepW (W : Wd) (is : List Bool) (q : List (Int × Int)) (x : Int) : List Bool × List (Int × Int) × Int := (W.clo q (is.set x.toNat true), q, x)

def nowW (is : List Bool) (x : Int) : Int := x

/-- What is alive, what waits, what was gone over, behind the passes of a cut. -/
noncomputable def Wd.pass (W : Wd) (major : Bool) : List Bool × List (Int × Int) × List It := passM atB W.keepW (W.clo W.wait (W.first major)) W.regs W.wait

def inS (is : List Bool) (v : Vl) : Bool := v.1 != 3 || atB is v.2

/-- A thing behind a cut. -/
def cutT (is : List Bool) (i : Nat) (t : Th) : Th :=
  if is.getD i false then
    ⟨t.k, if t.k = 4 ∧ inS is (t.fs.getD 0 (0, 0)) = false then [(2, 0), (2, 0)]
      else if t.k = 3 ∧ inS is (t.fs.getD 0 (0, 0)) = false then [(2, 0), t.fs.getD 1 (0, 0)] else t.fs, true, t.dead⟩
  else ⟨t.k, [], t.old, true⟩

def cutTs (is : List Bool) (l : List Th) : List Th := l.mapIdx fun i t => cutT is i t

def sumL (is : List Bool) (l : List Th) : Int := (l.mapIdx fun i t => if is.getD i false then t.words else 0).sum

noncomputable def Wd.after (W : Wd) (major : Bool) : Wd :=
  { W with T := cutTs (W.pass major).1 W.T, regs := newRegs atB nowW (W.pass major).1 (W.pass major).2.2, wait := newWait atB nowW (W.pass major).1 (W.pass major).2.1 }

/-- A cut. -/
noncomputable def Wd.cut (W : Wd) (major : Bool) : Int × Wd :=
  if major = false ∧ W.young > W.grow - W.olds then (3, W)
  else if sumL (W.pass major).1 W.T > W.grow then (3, W)
  else (0, W.after major)

/-- A step: its kind, R, A, B, I, N. -/
structure St where
  k : Int
  r : Int
  a : Int
  b : Int
  i : Int
  n : Int

def usesM (k : Int) : Int :=
  if k = 1 ∨ k = 2 ∨ k = 8 then 1 else if k = 3 ∨ k = 5 ∨ k = 10 ∨ k = 11 ∨ k = 13 then 3 else if k = 4 ∨ k = 6 ∨ k = 7 ∨ k = 14 then 7 else if k = 9 ∨ k = 12 then 6 else if k = 15 ∨ k = 16 then 0 else -1

def rootOk (k : Int) : Bool := decide (0 ≤ k) && decide (k < 12)

/-- Check: a code. -/
def checkM (x : St) : Int :=
  if usesM x.k = -1 then 2
  else if (usesM x.k % 2 = 1 ∧ rootOk x.r = false) ∨ (usesM x.k / 2 % 2 = 1 ∧ rootOk x.a = false) ∨ (usesM x.k / 4 % 2 = 1 ∧ rootOk x.b = false) then 1
  else if x.k = 1 ∧ ¬ (-big ≤ x.n ∧ x.n < big) then 1
  else if x.k = 5 ∧ ¬ (0 ≤ x.n ∧ x.n ≤ 12) then 1
  else 0

def Wd.setR (W : Wd) (r : Int) (v : Vl) : Wd := { W with roots := W.roots.set r.toNat v }

def Wd.put (W : Wd) (r k : Int) (from_ : List Vl) : Wd := { W with T := W.T ++ [⟨k, from_, false, false⟩], roots := W.roots.set r.toNat (refV W.T.length) }

/-- Room is made: a code. -/
noncomputable def Wd.room (W : Wd) (n : Int) : Int × Wd := if n > W.most - W.young then W.cut (decide (W.young > W.grow - W.olds)) else (0, W)

noncomputable def Wd.newT (W : Wd) (r k : Int) (from_ : List Int) : Int × Wd :=
  if (W.room (1 + from_.length)).1 = 0 then (0, (W.room (1 + from_.length)).2.put r k (from_.map (W.room (1 + from_.length)).2.rt)) else ((W.room (1 + from_.length)).1, W)

/-- The thing of a root; -1: it is none. -/
def Wd.thing (W : Wd) (k : Int) : Int := if (W.rt k).1 = 3 then (W.rt k).2 else -1
def Wd.guard (W : Wd) (k : Int) : Int := if W.thing k < 0 ∨ (W.th (W.thing k)).k ≠ 5 then -1 else W.thing k

/-- A thing's fields are others. -/
def Wd.setF (W : Wd) (i : Int) (fs : List Vl) : Wd := { W with T := W.T.set i.toNat { W.th i with fs := fs } }

/-- What waits longest at a guardian goes. -/
def popW (wait : List (Int × Int)) (g : Int) : Option (Int × List (Int × Int)) :=
  match wait with
  | [] => none
  | e :: l => if e.1 = g then some (e.2, l) else (popW l g).map fun r => (r.1, e :: r.2)

def Wd.reg (W : Wd) (x : St) : Int × Wd :=
  if W.thing x.a < 0 ∨ W.guard x.b < 0 then (2, W)
  else if 24 ≤ W.regs.length + W.wait.length then (3, W)
  else (0, { W with regs := W.regs ++ [(W.guard x.b, W.thing x.a)] })

def Wd.pop (W : Wd) (x : St) : Int × Wd :=
  if W.guard x.a < 0 then (2, W)
  else match popW W.wait (W.guard x.a) with
    | none => (4, W)
    | some r => (0, { W with wait := r.2, roots := W.roots.set x.r.toNat (3, r.1) })

def Wd.fieldC (W : Wd) (x : St) : Int :=
  if W.thing x.a < 0 ∨ (W.th (W.thing x.a)).k = 5 then 2 else if x.i < 0 ∨ ((W.th (W.thing x.a)).fs.length : Int) ≤ x.i then 1 else 0

def Wd.get (W : Wd) (x : St) : Int × Wd := if W.fieldC x = 0 then (0, W.setR x.r ((W.th (W.thing x.a)).fs.getD x.i.toNat (0, 0))) else (W.fieldC x, W)
def Wd.set (W : Wd) (x : St) : Int × Wd := if W.fieldC x = 0 then (0, W.setF (W.thing x.a) ((W.th (W.thing x.a)).fs.set x.i.toNat (W.rt x.b))) else (W.fieldC x, W)
def Wd.len (W : Wd) (x : St) : Int × Wd := if W.thing x.a < 0 ∨ (W.th (W.thing x.a)).k = 5 then (2, W) else (0, W.setR x.r (1, (W.th (W.thing x.a)).fs.length))
def Wd.same (W : Wd) (x : St) : Int × Wd := (0, W.setR x.r (1, if W.rt x.a = W.rt x.b then 1 else 0))

/-- A step that may be. -/
noncomputable def Wd.step (W : Wd) (x : St) : Int × Wd :=
  if x.k = 1 then (0, W.setR x.r (1, x.n))
  else if x.k = 2 then (0, W.setR x.r (0, 0))
  else if x.k = 3 then (0, W.setR x.r (W.rt x.a))
  else if x.k = 4 then W.newT x.r 1 [x.a, x.b]
  else if x.k = 5 then W.newT x.r 2 (List.replicate x.n.toNat x.a)
  else if x.k = 6 then W.newT x.r 3 [x.a, x.b]
  else if x.k = 7 then W.newT x.r 4 [x.a, x.b]
  else if x.k = 8 then W.newT x.r 5 []
  else if x.k = 9 then W.reg x
  else if x.k = 10 then W.pop x
  else if x.k = 11 then W.get x
  else if x.k = 12 then W.set x
  else if x.k = 13 then W.len x
  else if x.k = 14 then W.same x
  else if x.k = 15 then W.cut false
  else W.cut true

noncomputable def Wd.do (W : Wd) (x : St) : Int × Wd := if checkM x = 0 then W.step x else (checkM x, W)

/-- Fresh: a thing of nothing, if there is room. -/
def Wd.fresh (W : Wd) (r k f : Int) : Bool × Wd :=
  if fitsW k f = true ∧ 1 + f ≤ W.most - W.young then (true, W.put r k (List.replicate f.toNat (0, 0))) else (false, W)

end Go.Proofs.Ytjifdalflepcoab
