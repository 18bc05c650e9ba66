/-
  A region that draws its order, walked along a tree of chosen orders: where two operations that write can come, both orders are walked; the class of worlds may be another one behind an operation for which nothing waits that was read before. No program in sight.
-/
import Derived.Test.YtjifdalflepcoabRegion
import Derived.Deep.MidRow
namespace Go.Proofs.Ytjifdalflepcoab
open Go.RowKit
set_option linter.unusedVariables false
set_option linter.unusedSimpArgs false

/-- pure: it only reads, in a world of the class; free: it reads no memory; base: it reads what no operation of the region turns; run: it is the only one that can come; two: either of two; swi: another class from here on. -/
inductive RO where
  | fin
  | pure (i : Nat) (r : RO)
  | free (i : Nat) (r : RO)
  | base (i : Nat) (r : RO)
  | run (i : Nat) (r : RO)
  | two (i : Nat) (r : RO) (j : Nat) (s : RO)
  | swi (z : List Nat) (r : RO)

namespace RO
def size : RO → Nat
  | fin => 0
  | pure _ r => r.size + 1
  | free _ r => r.size + 1
  | base _ r => r.size + 1
  | run _ r => r.size + 1
  | two _ r _ _ => r.size + 1
  | swi _ r => r.size

/-- No operation reads before the class is another one. -/
def noPure : RO → Bool
  | fin => true
  | pure _ _ => false
  | free _ r => r.noPure
  | base _ r => r.noPure
  | run _ r => r.noPure
  | two _ r _ s => r.noPure && s.noPure
  | swi _ _ => true
end RO

section
variable {P : Program} {ops : Array Oper} {md : Region.Mode}

def roB (md : Region.Mode) (ops : Array Oper) : RO → List Nat → Array Bool → Bool
  | .fin, _, listed => (Region.ready md ops listed).isEmpty
  | .pure i r, z, listed => (Region.ready md ops listed).contains i && Region.free md ops listed i && (z.all fun j => waitsT md ops ops.size j i) && roB md ops r z (listed.setIfInBounds i true)
  | .free i r, z, listed => (Region.ready md ops listed).contains i && Region.free md ops listed i && roB md ops r z (listed.setIfInBounds i true)
  | .base i r, z, listed => (Region.ready md ops listed).contains i && Region.free md ops listed i && roB md ops r z (listed.setIfInBounds i true)
  | .run i r, z, listed => Region.ready md ops listed == [i] && (!z.contains i || r.noPure) && roB md ops r z (listed.setIfInBounds i true)
  | .two i r j s, z, listed => Region.ready md ops listed == [i, j] && (!z.contains i || r.noPure) && (!z.contains j || s.noPure) && r.size == s.size && roB md ops r z (listed.setIfInBounds i true) && roB md ops s z (listed.setIfInBounds j true)
  | .swi z' r, z, listed => ((List.range ops.size).all fun k => listed.getD k true || z.contains k) && roB md ops r z' listed

def roRaw (P : Program) (ops : Array Oper) (B : World → Prop) (Q : Act → World → Prop) : RO → List Nat → (World → Prop) → Act → World → Prop
  | .fin, _, _, a, w => Q a w
  | .pure i r, z, G, a, w => ∃ o v, ops[i]? = some o ∧ YieldsG P ops G o v a ∧ roRaw P ops B Q r z G (a.put o.dst v) w
  | .free i r, z, G, a, w => ∃ o v, ops[i]? = some o ∧ YieldsG P ops (fun _ => True) o v a ∧ roRaw P ops B Q r z G (a.put o.dst v) w
  | .base i r, z, G, a, w => ∃ o v, ops[i]? = some o ∧ YieldsG P ops B o v a ∧ roRaw P ops B Q r z G (a.put o.dst v) w
  | .run i r, z, G, a, w => gOp P ops i (fun a' w' => (B w → B w') ∧ (z.contains i = false → G w → G w') ∧ roRaw P ops B Q r z G a' w') a w
  | .two i r j s, z, G, a, w => gOp P ops i (fun a' w' => (B w → B w') ∧ (z.contains i = false → G w → G w') ∧ roRaw P ops B Q r z G a' w') a w ∧ gOp P ops j (fun a' w' => (B w → B w') ∧ (z.contains j = false → G w → G w') ∧ roRaw P ops B Q s z G a' w') a w
  | .swi z' r, _, _, a, w => ∃ G' : World → Prop, G' w ∧ roRaw P ops B Q r z' G' a w

/-- Whatever order; an operation, but those in z, leaves a world of the class G in it; each, of the class B. -/
def wpAnyH (P : Program) (md : Region.Mode) (ops : Array Oper) (B : World → Prop) (z : List Nat) (G : World → Prop) (Q : Act → World → Prop) : Nat → Array Bool → Act → World → Prop
  | 0, listed, a, w => Region.ready md ops listed = [] ∧ Q a w
  | f + 1, listed, a, w =>
    (Region.ready md ops listed = [] → Q a w) ∧
    ∀ i ∈ Region.ready md ops listed, gOp P ops i (fun a' w' => (B w → B w') ∧ (z.contains i = false → G w → G w') ∧ wpAnyH P md ops B z G Q f (listed.setIfInBounds i true) a' w') a w

variable {B : World → Prop}

theorem wpAny_of_H {z : List Nat} {G : World → Prop} {Q : Act → World → Prop} {Q' : Exit → Act → World → Prop} (hQ : ∀ a w, Q a w → Q' .normal a w) : ∀ (f : Nat) (listed : Array Bool) (a : Act) (w : World),
    wpAnyH P md ops B z G Q f listed a w → wpAny P md ops Q' f listed a w
  | 0, _, _, _, h => ⟨h.1, hQ _ _ h.2⟩
  | f + 1, _, _, _, h => ⟨fun h0 => hQ _ _ (h.1 h0), fun i hi => wpOp_of_gOp (gOp_mono (fun a w ⟨_, _, hk⟩ => wpAny_of_H hQ f _ a w hk) (h.2 i hi))⟩

theorem ready_lt {listed : Array Bool} {i : Nat} (hi : i ∈ Region.ready md ops listed) : i < ops.size ∧ listed.getD i true = false := by
  obtain ⟨hun, oi, hoi, _⟩ := mem_ready.1 hi
  refine ⟨?_, hun⟩
  rcases Nat.lt_or_ge i ops.size with h | h
  · exact h
  · rw [Array.getElem?_eq_none h] at hoi; cases hoi

theorem wpAnyH_swi {z z' : List Nat} {G G' : World → Prop} {Q : Act → World → Prop} : ∀ (fuel : Nat) (listed : Array Bool) (a : Act) (w : World),
    (∀ k, k < ops.size → listed.getD k true = false → z.contains k = true) → wpAnyH P md ops B z' G' Q fuel listed a w → wpAnyH P md ops B z G Q fuel listed a w
  | 0, _, _, _, _, h => h
  | f + 1, listed, a, w, hz, h => ⟨h.1, fun i hi => gOp_mono (fun a' w' ⟨hb, _, hk⟩ => by
      obtain ⟨hil, hun⟩ := ready_lt hi
      refine ⟨hb, fun hc => ?_, wpAnyH_swi f _ a' w' (fun k hk hl => ?_) hk⟩
      · have := hz i hil hun
        rw [hc] at this; cases this
      · by_cases hki : i = k
        · subst hki
          exact hz i hil hun
        · rw [getD_set_ne true hki] at hl; exact hz k hk hl) (h.2 i hi)⟩

/-- An operation that only reads may be taken first: in a world of the class, if those that turn the class wait for it; if it reads what nothing turns; or if it reads no memory. -/
theorem wpAnyH_first {G Gy : World → Prop} {z : List Nat} {Q : Act → World → Prop} {i : Nat} {oi : Oper} {v : Value} (hi : ops[i]? = some oi) (hsel : ∀ (j : Nat) (o : Oper) cs b, ops[j]? = some o → o.op ≠ .select cs b)
    (hz : (Gy = G ∧ ∀ j, z.contains j = true → waitsT md ops ops.size j i = true) ∨ Gy = B ∨ ∀ w, Gy w) :
    ∀ (fuel : Nat) (listed : Array Bool) (a : Act) (w : World), Gy w → Shut md ops listed →
      (∀ j oj, ops[j]? = some oj → j ≠ i → listed.getD j true = false → (∀ e ∈ oj.after, Region.binds md e = true → e.on ≠ i) → oi.apart ops oj = true) →
      i ∈ Region.ready md ops listed → YieldsG P ops Gy oi v a →
      wpAnyH P md ops B z G Q fuel (listed.setIfInBounds i true) (a.put oi.dst v) w → wpAnyH P md ops B z G Q (fuel + 1) listed a w := by
  intro fuel
  induction fuel with
  | zero =>
    intro listed a w hG hS _ hr hy H
    refine ⟨fun h => (by rw [h] at hr; cases hr), fun j hj => ?_⟩
    by_cases hji : j = i
    · subst hji
      exact hy.gOp hi hG ⟨fun h => h, fun _ h => h, H⟩
    · have := ready_mono hj hji
      rw [H.1] at this
      cases this
  | succ fuel ih =>
    intro listed a w hG hS hfree hr hy H
    refine ⟨fun h => (by rw [h] at hr; cases hr), fun j hj => ?_⟩
    by_cases hji : j = i
    · subst hji
      exact hy.gOp hi hG ⟨fun h => h, fun _ h => h, H⟩
    · have h1 := H.2 j (ready_mono hj hji)
      obtain ⟨hjun, oj, hoj, hall⟩ := mem_ready.1 hj
      have hin : listed.getD i false = false := by
        have h0 := (mem_ready.1 hr).1
        rcases Nat.lt_or_ge i listed.size with h' | h'
        · simp [h'] at h0 ⊢; exact h0
        · simp [Array.getElem?_eq_none h'] at h0
      have hnot : ∀ e ∈ oj.after, Region.binds md e = true → e.on ≠ i := fun e he hb heq => by
        have h1 := hall e he hb
        rw [heq, hin] at h1
        cases h1
      have h2 := gOp_put hoj (hfree j oj hoj hji hjun hnot) (fun cs b => hsel i oi cs b hi) (fun cs b => hsel j oj cs b hoj) hy h1
      have hfree' : ∀ k ok, ops[k]? = some ok → k ≠ i → (listed.setIfInBounds j true).getD k true = false →
          (∀ e ∈ ok.after, Region.binds md e = true → e.on ≠ i) → oi.apart ops ok = true := fun k ok hk hki hun hno => by
        refine hfree k ok hk hki ?_ hno
        by_cases hjk : j = k
        · subst hjk; exact hjun
        · rw [getD_set_ne true hjk] at hun; exact hun
      refine gOp_mono (fun a' w' ⟨hy', hB', hG', h3⟩ => ?_) h2
      refine ⟨hB', hG', ih (listed.setIfInBounds j true) a' w' ?_ (hS.next hj) hfree' (ready_mono hr (Ne.symm hji)) hy' ?_⟩
      · rcases hz with ⟨rfl, hzz⟩ | rfl | h2
        · refine hG' ?_ hG
          cases hc : z.contains j
          · rfl
          · have := hS.waits _ j i ⟨oj, hoj, hall⟩ (hzz j hc)
            rw [hin] at this; cases this
        · exact hB' hG
        · exact h2 w'
      · rw [Array.setIfInBounds_comm _ _ hji]
        exact h3

theorem wpAnyH_ro {Q : Act → World → Prop} (hs : Region.noSelect ops = true) : ∀ (t : RO) (z : List Nat) (G : World → Prop) (listed : Array Bool) (a : Act) (w : World), Shut md ops listed → B w → (G w ∨ t.noPure = true) →
    roB md ops t z listed = true → roRaw P ops B Q t z G a w → wpAnyH P md ops B z G Q t.size listed a w
  | .fin, _, _, _, _, _, _, _, _, hB, h => ⟨by simpa [roB] using hB, h⟩
  | .pure i r, z, G, listed, a, w, hS, hb, hG, hB, h => by
    have hG : G w := by
      rcases hG with h | h
      · exact h
      · simp [RO.noPure] at h
    simp only [roB, Bool.and_eq_true] at hB
    obtain ⟨⟨⟨hr, hf⟩, hz⟩, hB'⟩ := hB
    obtain ⟨o, v, ho, hy, hn⟩ := h
    have hr' : i ∈ Region.ready md ops listed := by simpa using hr
    refine wpAnyH_first ho (Region.noSelect_spec hs) (.inl ⟨rfl, fun j hj => ?_⟩) r.size listed a w hG hS (Region.free_spec ho hf) hr' hy ?_
    · exact List.all_eq_true.1 hz j (by simpa using hj)
    · exact wpAnyH_ro hs r z G _ _ w (hS.next hr') hb (.inl hG) hB' hn
  | .free i r, z, G, listed, a, w, hS, hb, hG, hB, h => by
    simp only [roB, Bool.and_eq_true] at hB
    obtain ⟨⟨hr, hf⟩, hB'⟩ := hB
    obtain ⟨o, v, ho, hy, hn⟩ := h
    have hr' : i ∈ Region.ready md ops listed := by simpa using hr
    refine wpAnyH_first ho (Region.noSelect_spec hs) (.inr (.inr fun _ => trivial)) r.size listed a w trivial hS (Region.free_spec ho hf) hr' hy ?_
    exact wpAnyH_ro hs r z G _ _ w (hS.next hr') hb hG hB' hn
  | .base i r, z, G, listed, a, w, hS, hb, hG, hB, h => by
    simp only [roB, Bool.and_eq_true] at hB
    obtain ⟨⟨hr, hf⟩, hB'⟩ := hB
    obtain ⟨o, v, ho, hy, hn⟩ := h
    have hr' : i ∈ Region.ready md ops listed := by simpa using hr
    refine wpAnyH_first ho (Region.noSelect_spec hs) (.inr (.inl rfl)) r.size listed a w hb hS (Region.free_spec ho hf) hr' hy ?_
    exact wpAnyH_ro hs r z G _ _ w (hS.next hr') hb hG hB' hn
  | .run i r, z, G, listed, a, w, hS, hb, hG, hB, h => by
    simp only [roB, Bool.and_eq_true] at hB
    obtain ⟨⟨hr, hk⟩, hB'⟩ := hB
    have hr1 : Region.ready md ops listed = [i] := by simpa using hr
    have hin : i ∈ Region.ready md ops listed := by rw [hr1]; simp
    refine ⟨(fun h0 => by rw [hr1] at h0; cases h0), fun j hj => ?_⟩
    rw [hr1] at hj
    obtain rfl : j = i := by simpa using hj
    refine gOp_mono (fun a' w' ⟨hb', hG', hn⟩ => ⟨hb', hG', wpAnyH_ro hs r z G _ a' w' (hS.next hin) (hb' hb) ?_ hB' hn⟩) h
    cases hc : z.contains j
    · rcases hG with hG | hG
      · exact .inl (hG' hc hG)
      · exact .inr hG
    · rw [hc] at hk; exact .inr (by simpa using hk)
  | .two i r k s, z, G, listed, a, w, hS, hb, hG, hB, h => by
    simp only [roB, Bool.and_eq_true, beq_iff_eq] at hB
    obtain ⟨⟨⟨⟨⟨hr, hki⟩, hkk⟩, hsz⟩, hB1⟩, hB2⟩ := hB
    have hr1 : Region.ready md ops listed = [i, k] := by simpa using hr
    refine ⟨(fun h0 => by rw [hr1] at h0; cases h0), fun j hj => ?_⟩
    have hin : j ∈ Region.ready md ops listed := hj
    rw [hr1] at hj
    have hj : j = i ∨ j = k := by simpa using hj
    rcases hj with rfl | rfl
    · refine gOp_mono (fun a' w' ⟨hb', hG', hn⟩ => ⟨hb', hG', wpAnyH_ro hs r z G _ a' w' (hS.next hin) (hb' hb) ?_ hB1 hn⟩) h.1
      cases hc : z.contains j
      · rcases hG with hG | hG
        · exact .inl (hG' hc hG)
        · simp only [RO.noPure, Bool.and_eq_true] at hG; exact .inr hG.1
      · rw [hc] at hki; exact .inr (by simpa using hki)
    · show gOp P ops j (fun a' w' => (B w → B w') ∧ (z.contains j = false → G w → G w') ∧ wpAnyH P md ops B z G Q r.size (listed.setIfInBounds j true) a' w') a w
      rw [hsz]
      refine gOp_mono (fun a' w' ⟨hb', hG', hn⟩ => ⟨hb', hG', wpAnyH_ro hs s z G _ a' w' (hS.next hin) (hb' hb) ?_ hB2 hn⟩) h.2
      cases hc : z.contains j
      · rcases hG with hG | hG
        · exact .inl (hG' hc hG)
        · simp only [RO.noPure, Bool.and_eq_true] at hG; exact .inr hG.2
      · rw [hc] at hkk; exact .inr (by simpa using hkk)
  | .swi z' r, z, G, listed, a, w, hS, hb, hG, hB, h => by
    simp only [roB, Bool.and_eq_true] at hB
    obtain ⟨hz, hB'⟩ := hB
    obtain ⟨G', hG', hn⟩ := h
    refine wpAnyH_swi _ listed a w (fun k hk hl => ?_) (wpAnyH_ro hs r z' G' listed a w hS hb (.inl hG') hB' hn)
    have := List.all_eq_true.1 hz k (List.mem_range.2 hk)
    rw [hl] at this; simpa using this

/-- roRaw, that does not unfold. -/
structure wpROB (P : Program) (ops : Array Oper) (B : World → Prop) (Q : Act → World → Prop) (t : RO) (z : List Nat) (G : World → Prop) (a : Act) (w : World) : Prop where
  raw : roRaw P ops B Q t z G a w

abbrev wpRO (P : Program) (ops : Array Oper) (Q : Act → World → Prop) (t : RO) (z : List Nat) (G : World → Prop) (a : Act) (w : World) : Prop := wpROB P ops (fun _ => True) Q t z G a w

/-- **A REGION THAT DRAWS, ALONG A TREE OF ORDERS.** -/
theorem wp_region_rob {id : Nat} {Q : Exit → Act → World → Prop} {a : Act} {w : World} {l : List Oper} (t : RO) (z : List Nat) (B G : World → Prop) (hm : P.follows .mixedOrders = true)
    (hB : (Region.noSelect l.toArray && t.size == l.toArray.size && roB .any l.toArray t z (Array.replicate l.toArray.size false)) = true) (hb : B w.drew) (hG : G w.drew)
    (h : wpROB P l.toArray B (fun a' w' => Q .normal a' w') t z G a w.drew) : (Code.region id l.toArray true).wp P Q a w := by
  simp only [Bool.and_eq_true, beq_iff_eq] at hB
  obtain ⟨⟨hs, hl⟩, hB⟩ := hB
  refine wp_region_any hm ?_
  have hshut : Shut .any l.toArray (Array.replicate l.toArray.size false) := by
    intro j o ho hx
    have h0 : (Array.replicate l.toArray.size false).getD j false = false := by
      rw [Array.getD_eq_getD_getElem?, Array.getElem?_replicate]; split <;> rfl
    rw [h0] at hx; cases hx
  have := wpAnyH_ro (md := .any) hs t z G _ a w.drew hshut hb (.inl hG) hB h.raw
  rw [hl] at this
  exact wpAny_of_H (fun _ _ h => h) _ _ _ _ this

theorem wp_region_ro {id : Nat} {Q : Exit → Act → World → Prop} {a : Act} {w : World} {l : List Oper} (t : RO) (z : List Nat) (G : World → Prop) (hm : P.follows .mixedOrders = true)
    (hB : (Region.noSelect l.toArray && t.size == l.toArray.size && roB .any l.toArray t z (Array.replicate l.toArray.size false)) = true) (hG : G w.drew)
    (h : wpRO P l.toArray (fun a' w' => Q .normal a' w') t z G a w.drew) : (Code.region id l.toArray true).wp P Q a w := wp_region_rob t z _ G hm hB trivial hG h

theorem roRaw_weaken {Q Q' : Act → World → Prop} (hQ : ∀ a w, Q a w → Q' a w) : ∀ (t : RO) (z : List Nat) (G : World → Prop) (a : Act) (w : World), roRaw P ops B Q t z G a w → roRaw P ops B Q' t z G a w
  | .fin, _, _, _, _, h => hQ _ _ h
  | .pure i r, _, _, _, _, ⟨o, v, h1, h2, h3⟩ => ⟨o, v, h1, h2, roRaw_weaken hQ r _ _ _ _ h3⟩
  | .free i r, _, _, _, _, ⟨o, v, h1, h2, h3⟩ => ⟨o, v, h1, h2, roRaw_weaken hQ r _ _ _ _ h3⟩
  | .base i r, _, _, _, _, ⟨o, v, h1, h2, h3⟩ => ⟨o, v, h1, h2, roRaw_weaken hQ r _ _ _ _ h3⟩
  | .run i r, _, _, _, _, h => gOp_mono (fun _ _ ⟨h0, h1, h2⟩ => ⟨h0, h1, roRaw_weaken hQ r _ _ _ _ h2⟩) h
  | .two i r j s, _, _, _, _, h => ⟨gOp_mono (fun _ _ ⟨h0, h1, h2⟩ => ⟨h0, h1, roRaw_weaken hQ r _ _ _ _ h2⟩) h.1, gOp_mono (fun _ _ ⟨h0, h1, h2⟩ => ⟨h0, h1, roRaw_weaken hQ s _ _ _ _ h2⟩) h.2⟩
  | .swi _ r, _, _, _, _, ⟨G', h1, h2⟩ => ⟨G', h1, roRaw_weaken hQ r _ _ _ _ h2⟩

theorem wpRO_weaken {Q Q' : Act → World → Prop} (hQ : ∀ a w, Q a w → Q' a w) (t : RO) (z : List Nat) (G : World → Prop) (a : Act) (w : World) (h : wpROB P ops B Q t z G a w) : wpROB P ops B Q' t z G a w := ⟨roRaw_weaken hQ t z G a w h.raw⟩

/-- Likewise, and what is known behind it, whatever order was drawn: a frame fr of what came out, and R. -/
theorem wp_region_ro_cut {α : Type} {id : Nat} {Q : Exit → Act → World → Prop} {a : Act} {w : World} {l : List Oper} (t : RO) (z : List Nat) (G : World → Prop) (fr : α → Act) (R : α → World → Prop) (hm : P.follows .mixedOrders = true)
    (hB : (Region.noSelect l.toArray && t.size == l.toArray.size && roB .any l.toArray t z (Array.replicate l.toArray.size false)) = true) (hG : G w.drew)
    (h : wpRO P l.toArray (fun a' w' => ∃ x, a' = fr x ∧ R x w') t z G a w.drew) (hQ : ∀ x w', R x w' → Q .normal (fr x) w') : (Code.region id l.toArray true).wp P Q a w :=
  wp_region_ro t z G hm hB hG (wpRO_weaken (by rintro a' w' ⟨x, rfl, hR⟩; exact hQ x w' hR) t z G _ _ h)

theorem wp_region_ro0 {id : Nat} {Q : Exit → Act → World → Prop} {a : Act} {w : World} {l : List Oper} (t : RO) (z : List Nat) (G : World → Prop) (fr : Act) (R : World → Prop) (hm : P.follows .mixedOrders = true)
    (hB : (Region.noSelect l.toArray && t.size == l.toArray.size && roB .any l.toArray t z (Array.replicate l.toArray.size false)) = true) (hG : G w.drew)
    (h : wpRO P l.toArray (fun a' w' => a' = fr ∧ R w') t z G a w.drew) (hQ : ∀ w', R w' → Q .normal fr w') : (Code.region id l.toArray true).wp P Q a w :=
  wp_region_ro t z G hm hB hG (wpRO_weaken (by rintro a' w' ⟨rfl, hR⟩; exact hQ w' hR) t z G _ _ h)

theorem wp_region_ro1 {id : Nat} {Q : Exit → Act → World → Prop} {a : Act} {w : World} {l : List Oper} (t : RO) (z : List Nat) (G : World → Prop) (fr : Value → Act) (R : Value → World → Prop) (hm : P.follows .mixedOrders = true)
    (hB : (Region.noSelect l.toArray && t.size == l.toArray.size && roB .any l.toArray t z (Array.replicate l.toArray.size false)) = true) (hG : G w.drew)
    (h : wpRO P l.toArray (fun a' w' => ∃ x, a' = fr x ∧ R x w') t z G a w.drew) (hQ : ∀ x w', R x w' → Q .normal (fr x) w') : (Code.region id l.toArray true).wp P Q a w :=
  wp_region_ro_cut t z G fr R hm hB hG h hQ

theorem wp_region_ro2 {id : Nat} {Q : Exit → Act → World → Prop} {a : Act} {w : World} {l : List Oper} (t : RO) (z : List Nat) (G : World → Prop) (fr : Value → Value → Act) (R : Value → Value → World → Prop) (hm : P.follows .mixedOrders = true)
    (hB : (Region.noSelect l.toArray && t.size == l.toArray.size && roB .any l.toArray t z (Array.replicate l.toArray.size false)) = true) (hG : G w.drew)
    (h : wpRO P l.toArray (fun a' w' => ∃ x y, a' = fr x y ∧ R x y w') t z G a w.drew) (hQ : ∀ x y w', R x y w' → Q .normal (fr x y) w') : (Code.region id l.toArray true).wp P Q a w :=
  wp_region_ro t z G hm hB hG (wpRO_weaken (by rintro a' w' ⟨x, y, rfl, hR⟩; exact hQ x y w' hR) t z G _ _ h)

theorem wp_region_ro4 {id : Nat} {Q : Exit → Act → World → Prop} {a : Act} {w : World} {l : List Oper} (t : RO) (z : List Nat) (G : World → Prop) (fr : Value → Value → Value → Value → Act) (R : Value → Value → Value → Value → World → Prop) (hm : P.follows .mixedOrders = true)
    (hB : (Region.noSelect l.toArray && t.size == l.toArray.size && roB .any l.toArray t z (Array.replicate l.toArray.size false)) = true) (hG : G w.drew)
    (h : wpRO P l.toArray (fun a' w' => ∃ x y u v, a' = fr x y u v ∧ R x y u v w') t z G a w.drew) (hQ : ∀ x y u v w', R x y u v w' → Q .normal (fr x y u v) w') : (Code.region id l.toArray true).wp P Q a w :=
  wp_region_ro t z G hm hB hG (wpRO_weaken (by rintro a' w' ⟨x, y, u, v, rfl, hR⟩; exact hQ x y u v w' hR) t z G _ _ h)

section
variable {z : List Nat} {G : World → Prop} {Q : Act → World → Prop} {i : Nat} {r : RO} {a : Act} {w : World} {o : Oper}

theorem wpRO_pure (ho : ops[i]? = some o) (hw : Region.wanted o (yielded ops a.tmps) = true) (v : Value)
    (h : ∀ w', G w' → Gives v w' ((execOp a.eval o).run P w')) (hn : ∀ K : Act → Prop, (∀ a', wpROB P ops B Q r z G a' w → K a') → K (a.put o.dst v)) : wpROB P ops B Q (.pure i r) z G a w :=
  ⟨⟨o, v, ho, .inl ⟨hw, h⟩, hn (fun a' => roRaw P ops B Q r z G a' w) (fun _ h => h.raw)⟩⟩

theorem wpRO_base (ho : ops[i]? = some o) (hw : Region.wanted o (yielded ops a.tmps) = true) (v : Value)
    (h : ∀ w', B w' → Gives v w' ((execOp a.eval o).run P w')) (hn : ∀ K : Act → Prop, (∀ a', wpROB P ops B Q r z G a' w → K a') → K (a.put o.dst v)) : wpROB P ops B Q (.base i r) z G a w :=
  ⟨⟨o, v, ho, .inl ⟨hw, h⟩, hn (fun a' => roRaw P ops B Q r z G a' w) (fun _ h => h.raw)⟩⟩

theorem wpRO_free (ho : ops[i]? = some o) (hw : Region.wanted o (yielded ops a.tmps) = true) (v : Value)
    (h : ∀ w', Gives v w' ((execOp a.eval o).run P w')) (hn : ∀ K : Act → Prop, (∀ a', wpROB P ops B Q r z G a' w → K a') → K (a.put o.dst v)) : wpROB P ops B Q (.free i r) z G a w :=
  ⟨⟨o, v, ho, .inl ⟨hw, fun w' _ => h w'⟩, hn (fun a' => roRaw P ops B Q r z G a' w) (fun _ h => h.raw)⟩⟩

theorem wpRO_skip (ho : ops[i]? = some o) (hw : Region.wanted o (yielded ops a.tmps) = false)
    (hn : ∀ K : Act → Prop, (∀ a', wpROB P ops B Q r z G a' w → K a') → K (a.put o.dst undef)) : wpROB P ops B Q (.pure i r) z G a w :=
  ⟨⟨o, undef, ho, .inr ⟨hw, rfl⟩, hn (fun a' => roRaw P ops B Q r z G a' w) (fun _ h => h.raw)⟩⟩

theorem wpRO_skipB (ho : ops[i]? = some o) (hw : Region.wanted o (yielded ops a.tmps) = false)
    (hn : ∀ K : Act → Prop, (∀ a', wpROB P ops B Q r z G a' w → K a') → K (a.put o.dst undef)) : wpROB P ops B Q (.base i r) z G a w :=
  ⟨⟨o, undef, ho, .inr ⟨hw, rfl⟩, hn (fun a' => roRaw P ops B Q r z G a' w) (fun _ h => h.raw)⟩⟩

theorem wpRO_skipF (ho : ops[i]? = some o) (hw : Region.wanted o (yielded ops a.tmps) = false)
    (hn : ∀ K : Act → Prop, (∀ a', wpROB P ops B Q r z G a' w → K a') → K (a.put o.dst undef)) : wpROB P ops B Q (.free i r) z G a w :=
  ⟨⟨o, undef, ho, .inr ⟨hw, rfl⟩, hn (fun a' => roRaw P ops B Q r z G a' w) (fun _ h => h.raw)⟩⟩

theorem gOp_run {K : Act → World → Prop} (ho : ops[i]? = some o) (hw : Region.wanted o (yielded ops a.tmps) = true) (h : gRun P o a w K) : gOp P ops i K a w := by
  unfold gOp; simp only [ho, hw, if_true]; exact h

theorem gOp_skip {K : Act → World → Prop} (ho : ops[i]? = some o) (hw : Region.wanted o (yielded ops a.tmps) = false) (h : K (a.put o.dst undef) w) : gOp P ops i K a w := by
  unfold gOp; simp only [ho, hw]; exact h

/-- An operation that writes, and leaves the class. -/
theorem wpRO_runB (ho : ops[i]? = some o) (hw : Region.wanted o (yielded ops a.tmps) = true)
    (h : ∀ K : Act → World → Prop, (∀ a' w', (B w → B w') → (G w → G w') → wpROB P ops B Q r z G a' w' → K a' w') → gRun P o a w K) : wpROB P ops B Q (.run i r) z G a w :=
  ⟨gOp_run ho hw (h _ (fun a' w' hb hg hk => ⟨hb, fun _ => hg, hk.raw⟩))⟩

theorem wpRO_run (ho : ops[i]? = some o) (hw : Region.wanted o (yielded ops a.tmps) = true)
    (h : ∀ K : Act → World → Prop, (∀ a' w', (G w → G w') → wpRO P ops Q r z G a' w' → K a' w') → gRun P o a w K) : wpRO P ops Q (.run i r) z G a w :=
  wpRO_runB ho hw fun K hK => h K fun a' w' hg hk => hK a' w' (fun h => h) hg hk

/-- An operation that writes, and for whose class nothing asks any more. -/
theorem wpRO_chgB (ho : ops[i]? = some o) (hz : z.contains i = true) (hw : Region.wanted o (yielded ops a.tmps) = true)
    (h : ∀ K : Act → World → Prop, (∀ a' w', (B w → B w') → wpROB P ops B Q r z G a' w' → K a' w') → gRun P o a w K) : wpROB P ops B Q (.run i r) z G a w :=
  ⟨gOp_run ho hw (h _ (fun a' w' hb hk => ⟨hb, (fun hc => by rw [hz] at hc; cases hc), hk.raw⟩))⟩

theorem wpRO_chg (ho : ops[i]? = some o) (hz : z.contains i = true) (hw : Region.wanted o (yielded ops a.tmps) = true)
    (h : ∀ K : Act → World → Prop, (∀ a' w', wpRO P ops Q r z G a' w' → K a' w') → gRun P o a w K) : wpRO P ops Q (.run i r) z G a w :=
  wpRO_chgB ho hz hw fun K hK => h K fun a' w' hk => hK a' w' (fun h => h) hk

theorem wpRO_skipR (ho : ops[i]? = some o) (hw : Region.wanted o (yielded ops a.tmps) = false)
    (hn : ∀ K : Act → Prop, (∀ a', wpROB P ops B Q r z G a' w → K a') → K (a.put o.dst undef)) : wpROB P ops B Q (.run i r) z G a w :=
  ⟨gOp_skip ho hw ⟨fun h => h, fun _ h => h, hn (fun a' => roRaw P ops B Q r z G a' w) (fun _ h => h.raw)⟩⟩

theorem wpRO_two {j : Nat} {s : RO} {o' : Oper} (ho : ops[i]? = some o) (hw : Region.wanted o (yielded ops a.tmps) = true) (ho' : ops[j]? = some o') (hw' : Region.wanted o' (yielded ops a.tmps) = true)
    (h : ∀ K : Act → World → Prop, (∀ a' w', (B w → B w') → (z.contains i = false → G w → G w') → wpROB P ops B Q r z G a' w' → K a' w') → gRun P o a w K)
    (h' : ∀ K : Act → World → Prop, (∀ a' w', (B w → B w') → (z.contains j = false → G w → G w') → wpROB P ops B Q s z G a' w' → K a' w') → gRun P o' a w K) : wpROB P ops B Q (.two i r j s) z G a w :=
  ⟨⟨gOp_run ho hw (h _ (fun a' w' hb hg hk => ⟨hb, hg, hk.raw⟩)), gOp_run ho' hw' (h' _ (fun a' w' hb hg hk => ⟨hb, hg, hk.raw⟩))⟩⟩

theorem wpRO_swi {z' : List Nat} (G' : World → Prop) (hG : G' w) (h : wpROB P ops B Q r z' G' a w) : wpROB P ops B Q (.swi z' r) z G a w := ⟨⟨G', hG, h.raw⟩⟩

theorem wpRO_fin (h : Q a w) : wpROB P ops B Q .fin z G a w := ⟨h⟩

def rowB (P : Program) (t : TypeId) (n : Nat) : Bool := (match P.underlying t with | some d => d.isRow | none => false) && (P.info? t).map (·.size) == some n

theorem rowB_spec {t : TypeId} {n : Nat} (h : rowB P t n = true) : ∃ d, P.underlying t = some d ∧ d.isRow = true ∧ (P.info? t).map (·.size) = some n := by
  unfold rowB at h
  simp only [Bool.and_eq_true, beq_iff_eq] at h
  cases hd : P.underlying t with
  | none => rw [hd] at h; cases h.1
  | some d => rw [hd] at h; exact ⟨d, rfl, h.1, h.2⟩

theorem rangeAt2 {b off : Nat} {v0 v1 : Value} (h0 : w.cell? ⟨b, off, none⟩ = some v0) (h1 : w.cell? ⟨b, off + 1, none⟩ = some v1) : w.rangeAt b off [v0, v1] := by
  intro j v hj
  match j with
  | 0 => simp at hj; subst hj; exact h0
  | 1 => simp at hj; subst hj; exact h1
  | j + 2 => simp at hj

/-- A load of a struct of two cells. -/
theorem gives_agg2 {t : TypeId} {x : Operand} {b off : Nat} {v0 v1 : Value} (ho : o.op = .load t x) (hr : rowB P t 2 = true) (hx : a.eval x = .pointer (some ⟨b, off, none⟩))
    (h0 : w.cell? ⟨b, off, none⟩ = some v0) (h1 : w.cell? ⟨b, off + 1, none⟩ = some v1) : Gives (.agg #[v0, v1]) w ((execOp a.eval o).run P w) := by
  obtain ⟨d, hu, hd, hi⟩ := rowB_spec hr
  have := run_loadAt_mid (P := P) w b off t [v0, v1] d (rangeAt2 h0 h1) hu hd hi
  unfold Gives execOp
  simp only [ho, hx, Sem.run_bind, Sem.run_pure, Result.andThen_ok, this]

/-- Likewise in a plain region. -/
theorem wpList_agg2 {rest : List Oper} {Q : Exit → Act → World → Prop} (hgd : o.guard = none) (t : TypeId) (x : Operand) (ho : o.op = .load t x) (hr : rowB P t 2 = true) (b off : Nat) (hx : a.eval x = .pointer (some ⟨b, off, none⟩)) (v0 v1 : Value)
    (h0 : w.cell? ⟨b, off, none⟩ = some v0) (h1 : w.cell? ⟨b, off + 1, none⟩ = some v1) (h : wpList P ops Q rest (a.put o.dst (.agg #[v0, v1])) w) : wpList P ops Q (o :: rest) a w := by
  obtain ⟨d, hu, hd, hi⟩ := rowB_spec hr
  exact wpList_load_mid hgd t x ho b off hx [v0, v1] d (rangeAt2 h0 h1) hu hd hi h
end
end
end Go.Proofs.Ytjifdalflepcoab
