/-
  A region that draws its order, walked in one chosen order: the operations that only read come first, what writes or makes memory comes in the order that is forced. No program in sight.
-/
import Derived.Test.YtjifdalflepcoabMem
namespace Go.Proofs.Ytjifdalflepcoab
open Go.RowKit
set_option linter.unusedVariables false
set_option linter.unusedSimpArgs false

section
variable {P : Program} {ops : Array Oper} {md : Region.Mode} {G : World → Prop}

/-- What is asked of an operation's outcome: no panic. -/
def gUpon (P : Program) (o : Oper) (a : Act) (K : Act → World → Prop) : Result Next → Prop
  | .ok (.value v) w' => K (a.put o.dst v) w'
  | .ok .skip w' => K (a.put o.dst undef) w'
  | .ok (.enter f args) w' => Calls P f args w' fun
      | .returned v, w'' => K (a.put o.dst v) w''
      | _, _ => False
  | _ => False

@[go_sem] theorem gUpon_value (o : Oper) (a : Act) (K : Act → World → Prop) (v : Value) (w' : World) : gUpon P o a K (.ok (.value v) w') = K (a.put o.dst v) w' := rfl
@[go_sem] theorem gUpon_skip (o : Oper) (a : Act) (K : Act → World → Prop) (w' : World) : gUpon P o a K (.ok .skip w') = K (a.put o.dst undef) w' := rfl
@[go_sem] theorem gUpon_enter (o : Oper) (a : Act) (K : Act → World → Prop) (f : FuncId) (args : Array Value) (w' : World) :
    gUpon P o a K (.ok (.enter f args) w') = Calls P f args w' fun
      | .returned v, w'' => K (a.put o.dst v) w''
      | _, _ => False := rfl

def gRun (P : Program) (o : Oper) (a : Act) (w : World) (K : Act → World → Prop) : Prop := gUpon P o a K ((execOp a.eval o).run P w)

def gOp (P : Program) (ops : Array Oper) (i : Nat) (K : Act → World → Prop) (a : Act) (w : World) : Prop :=
  match ops[i]? with
  | none => K a w
  | some o => if Region.wanted o (yielded ops a.tmps) = true then gRun P o a w K else K (a.put o.dst undef) w

theorem gRun_mono {o : Oper} {a : Act} {w : World} {K K' : Act → World → Prop} (h : ∀ a w, K a w → K' a w) (hh : gRun P o a w K) : gRun P o a w K' := by
  unfold gRun at *
  generalize (execOp a.eval o).run P w = r at *
  cases r with
  | ok n w' =>
    cases n <;> simp only [gUpon] at hh ⊢
    case value u => exact h _ _ hh
    case skip => exact h _ _ hh
    case enter f args => exact hh.mono fun e w'' hq => by cases e <;> first | exact h _ _ hq | exact hq
  | halt x w' => exact hh

theorem gOp_mono {i : Nat} {a : Act} {w : World} {K K' : Act → World → Prop} (h : ∀ a w, K a w → K' a w) (hh : gOp P ops i K a w) : gOp P ops i K' a w := by
  unfold gOp at *
  split
  · rename_i ho; simp only [ho] at hh; exact h _ _ hh
  · rename_i o ho
    simp only [ho] at hh
    split
    · rename_i hw; rw [if_pos hw] at hh; exact gRun_mono h hh
    · rename_i hw; rw [if_neg hw] at hh; exact h _ _ hh

theorem wpOp_of_gOp {i : Nat} {a : Act} {w : World} {K : Act → World → Prop} {Q' : Exit → Act → World → Prop} (hh : gOp P ops i K a w) : wpOp P ops Q' i K a w := by
  unfold gOp at hh
  unfold wpOp
  split
  · rename_i ho; simp only [ho] at hh; exact hh
  · rename_i o ho
    simp only [ho] at hh
    split
    · rename_i hw
      rw [if_pos hw] at hh
      left
      unfold gRun at hh
      unfold Oper.wp
      generalize (execOp a.eval o).run P w = r at *
      cases r with
      | ok n w' =>
        cases n <;> simp only [gUpon] at hh <;> simp only [Oper.upon]
        case value u => exact hh
        case skip => exact hh
        case enter f args => exact hh.mono fun e w'' hq => by cases e <;> first | exact hq | exact hq.elim
      | halt x w' => exact hh.elim
    · rename_i hw; rw [if_neg hw] at hh; exact hh

/-- j waits for i, by way of others maybe. -/
def waitsT (md : Region.Mode) (ops : Array Oper) : Nat → Nat → Nat → Bool
  | 0, _, _ => false
  | n + 1, j, i => match ops[j]? with
    | none => false
    | some o => o.after.any fun e => Region.binds md e && (e.on == i || waitsT md ops n e.on i)

/-- What is listed has all that it waits for listed. -/
def Shut (md : Region.Mode) (ops : Array Oper) (listed : Array Bool) : Prop :=
  ∀ (j : Nat) (o : Oper), ops[j]? = some o → listed.getD j false = true → ∀ e ∈ o.after, Region.binds md e = true → listed.getD e.on false = true

theorem Shut.waits {listed : Array Bool} (h : Shut md ops listed) : ∀ (n j i : Nat), (∃ o, ops[j]? = some o ∧ ∀ e ∈ o.after, Region.binds md e = true → listed.getD e.on false = true) → waitsT md ops n j i = true → listed.getD i false = true
  | 0, _, _, _, hw => by simp [waitsT] at hw
  | n + 1, j, i, ⟨o, ho, hall⟩, hw => by
    simp only [waitsT, ho, Array.any_eq_true] at hw
    obtain ⟨k, hk, hb⟩ := hw
    simp only [Bool.and_eq_true, Bool.or_eq_true, beq_iff_eq] at hb
    have he := hall _ (Array.getElem_mem hk) hb.1
    rcases hb.2 with e | e
    · rw [← e]; exact he
    · refine h.waits n _ i ?_ e
      cases hx : ops[(o.after[k]).on]? with
      | none => exfalso; cases n <;> simp [waitsT, hx] at e
      | some ox => exact ⟨ox, rfl, h _ ox hx he⟩

theorem Shut.next {listed : Array Bool} (h : Shut md ops listed) {i : Nat} (hi : i ∈ Region.ready md ops listed) : Shut md ops (listed.setIfInBounds i true) := by
  intro j o ho hl e he hb
  by_cases hji : j = i
  · subst hji
    obtain ⟨_, o', ho', hall⟩ := mem_ready.1 hi
    rw [ho] at ho'; cases ho'
    exact getD_set_true (hall e he hb)
  · rw [getD_set_ne false (Ne.symm hji)] at hl
    exact getD_set_true (h j o ho hl e he hb)

/-- Whatever order; behind an operation, but those in z, the world is of the class G. -/
def wpAnyG (P : Program) (md : Region.Mode) (ops : Array Oper) (z : List Nat) (G : World → Prop) (Q : Act → World → Prop) : Nat → Array Bool → Act → World → Prop
  | 0, listed, a, w => Region.ready md ops listed = [] ∧ Q a w
  | f + 1, listed, a, w =>
    (Region.ready md ops listed = [] → Q a w) ∧
    ∀ i ∈ Region.ready md ops listed, gOp P ops i (fun a' w' => (z.contains i = false → G w') ∧ wpAnyG P md ops z G Q f (listed.setIfInBounds i true) a' w') a w

theorem wpAny_of_G {z : List Nat} {Q : Act → World → Prop} {Q' : Exit → Act → World → Prop} (hQ : ∀ a w, Q a w → Q' .normal a w) : ∀ (f : Nat) (listed : Array Bool) (a : Act) (w : World),
    wpAnyG P md ops z G Q f listed a w → wpAny P md ops Q' f listed a w
  | 0, _, _, _, h => ⟨h.1, hQ _ _ h.2⟩
  | f + 1, _, _, _, h => ⟨fun h0 => hQ _ _ (h.1 h0), fun i hi => wpOp_of_gOp (gOp_mono (fun a w ⟨_, hk⟩ => wpAny_of_G hQ f _ a w hk) (h.2 i hi))⟩

/-- The value v, and the world as it was. -/
def Gives (v : Value) (w : World) (r : Result Next) : Prop := r = .ok (.value v) w
theorem Gives.mk (v : Value) (w : World) : Gives v w (.ok (.value v) w) := rfl

def YieldsG (P : Program) (ops : Array Oper) (G : World → Prop) (o : Oper) (v : Value) (a : Act) : Prop :=
  (Region.wanted o (yielded ops a.tmps) = true ∧ ∀ w, G w → Gives v w ((execOp a.eval o).run P w)) ∨ (Region.wanted o (yielded ops a.tmps) = false ∧ v = undef)

theorem YieldsG.gOp {i : Nat} {o : Oper} {v : Value} {a : Act} {w : World} (hi : ops[i]? = some o) (hy : YieldsG P ops G o v a) (hw : G w) {K : Act → World → Prop} (h : K (a.put o.dst v) w) : gOp P ops i K a w := by
  unfold Go.Proofs.Ytjifdalflepcoab.gOp
  simp only [hi]
  rcases hy with ⟨hwt, hv⟩ | ⟨hwt, rfl⟩
  · rw [if_pos hwt]
    unfold gRun
    rw [show (execOp a.eval o).run P w = _ from hv w hw]
    exact h
  · rw [if_neg (by simp [hwt])]; exact h

theorem gOp_put {j : Nat} {oi oj : Oper} {v : Value} (hj : ops[j]? = some oj) (hap : oi.apart ops oj = true)
    (hsi : ∀ cs b, oi.op ≠ .select cs b) (hsj : ∀ cs b, oj.op ≠ .select cs b) {K : Act → World → Prop} {a : Act} {w : World}
    (hy : YieldsG P ops G oi v a) (h : gOp P ops j K (a.put oi.dst v) w) :
    gOp P ops j (fun a' w' => YieldsG P ops G oi v a' ∧ K (a'.put oi.dst v) w') a w := by
  obtain ⟨h1, h2, h3⟩ := Oper.apart_spec hap
  have keep : ∀ u, YieldsG P ops G oi v (a.put oj.dst u) := fun u => by
    unfold YieldsG at *
    rw [execOp_put oi hsi a oj.dst u h3, wanted_put oi a oj.dst u h3]
    exact hy
  have com : ∀ u, (a.put oi.dst v).put oj.dst u = (a.put oj.dst u).put oi.dst v := fun u => Act.put_comm a v u h2
  unfold gOp at *
  simp only [hj] at *
  rw [wanted_put oj a oi.dst v h1] at h
  split
  · rename_i hw
    rw [if_pos hw] at h
    unfold gRun at *
    rw [execOp_put oj hsj a oi.dst v h1] at h
    generalize (execOp a.eval oj).run P w = r at *
    cases r with
    | ok n w' =>
      cases n <;> simp only [gUpon] at h ⊢
      case value u => exact ⟨keep u, by rw [← com]; exact h⟩
      case skip => exact ⟨keep undef, by rw [← com]; exact h⟩
      case enter f args =>
        refine h.mono fun e w'' hq => ?_
        cases e with
        | returned u => exact ⟨keep u, by rw [← com]; exact hq⟩
        | panicked _ => exact hq
        | outgrown => exact hq
    | halt x w' => exact h
  · rename_i hw
    rw [if_neg hw] at h
    exact ⟨keep undef, by rw [← com]; exact h⟩

theorem wpAnyG_first {z : List Nat} {Q : Act → World → Prop} {i : Nat} {oi : Oper} {v : Value} (hi : ops[i]? = some oi) (hsel : ∀ (j : Nat) (o : Oper) cs b, ops[j]? = some o → o.op ≠ .select cs b)
    (hz : ∀ j, z.contains j = true → waitsT md ops ops.size j i = true) :
    ∀ (fuel : Nat) (listed : Array Bool) (a : Act) (w : World), G w → Shut md ops listed →
      (∀ j oj, ops[j]? = some oj → j ≠ i → listed.getD j true = false → (∀ e ∈ oj.after, Region.binds md e = true → e.on ≠ i) → oi.apart ops oj = true) →
      i ∈ Region.ready md ops listed → YieldsG P ops G oi v a →
      wpAnyG P md ops z G Q fuel (listed.setIfInBounds i true) (a.put oi.dst v) w → wpAnyG P md ops z G Q (fuel + 1) listed a w := by
  intro fuel
  induction fuel with
  | zero =>
    intro listed a w hG hS _ hr hy H
    refine ⟨fun h => (by rw [h] at hr; cases hr), fun j hj => ?_⟩
    by_cases hji : j = i
    · subst hji; exact hy.gOp hi hG ⟨fun _ => hG, H⟩
    · have := ready_mono hj hji
      rw [H.1] at this
      cases this
  | succ fuel ih =>
    intro listed a w hG hS hfree hr hy H
    refine ⟨fun h => (by rw [h] at hr; cases hr), fun j hj => ?_⟩
    by_cases hji : j = i
    · subst hji; exact hy.gOp hi hG ⟨fun _ => hG, H⟩
    · have h1 := H.2 j (ready_mono hj hji)
      obtain ⟨hjun, oj, hoj, hall⟩ := mem_ready.1 hj
      have hin : listed.getD i false = false := by
        have h0 := (mem_ready.1 hr).1
        rcases Nat.lt_or_ge i listed.size with h' | h'
        · simp [h'] at h0 ⊢; exact h0
        · simp [Array.getElem?_eq_none h'] at h0
      have hjz : z.contains j = false := by
        cases hc : z.contains j
        · rfl
        · have := hS.waits _ j i ⟨oj, hoj, hall⟩ (hz j hc)
          rw [hin] at this; cases this
      have hnot : ∀ e ∈ oj.after, Region.binds md e = true → e.on ≠ i := fun e he hb heq => by
        have h1 := hall e he hb
        rw [heq, hin] at h1
        cases h1
      have h2 := gOp_put hoj (hfree j oj hoj hji hjun hnot) (fun cs b => hsel i oi cs b hi) (fun cs b => hsel j oj cs b hoj) hy h1
      have hfree' : ∀ k ok, ops[k]? = some ok → k ≠ i → (listed.setIfInBounds j true).getD k true = false →
          (∀ e ∈ ok.after, Region.binds md e = true → e.on ≠ i) → oi.apart ops ok = true := fun k ok hk hki hun hno => by
        refine hfree k ok hk hki ?_ hno
        by_cases hjk : j = k
        · subst hjk; exact hjun
        · rw [getD_set_ne true hjk] at hun; exact hun
      refine gOp_mono (fun a' w' ⟨hy', hG', h3⟩ => ?_) h2
      refine ⟨fun _ => hG' hjz, ih (listed.setIfInBounds j true) a' w' (hG' hjz) (hS.next hj) hfree' (ready_mono hr (Ne.symm hji)) hy' ?_⟩
      rw [Array.setIfInBounds_comm _ _ hji]
      exact h3

/-- The chosen order: (i, 0): it only reads; (i, 1): it is the only one that can come, and leaves a world of the class; (i, 2): likewise, but all that read wait for none of it any more. -/
def lateOf (ord : List (Nat × Nat)) : List Nat := (ord.filter fun p => p.2 == 2).map (·.1)

def ordB (md : Region.Mode) (ops : Array Oper) (z : List Nat) : List (Nat × Nat) → Array Bool → Bool
  | [], listed => (Region.ready md ops listed).isEmpty
  | (i, k) :: r, listed =>
    (if k = 0 then (Region.ready md ops listed).contains i && Region.free md ops listed i && z.all fun j => waitsT md ops ops.size j i
     else Region.ready md ops listed == [i] && (k == 1 || z.contains i && r.all fun p => p.2 != 0)) && ordB md ops z r (listed.setIfInBounds i true)

def wpOrd (P : Program) (ops : Array Oper) (z : List Nat) (G : World → Prop) (Q : Act → World → Prop) : List (Nat × Nat) → Act → World → Prop
  | [], a, w => Q a w
  | (i, 0) :: r, a, w => ∃ o v, ops[i]? = some o ∧ YieldsG P ops G o v a ∧ wpOrd P ops z G Q r (a.put o.dst v) w
  | (i, k + 1) :: r, a, w => gOp P ops i (fun a' w' => (k = 0 → G w') ∧ wpOrd P ops z G Q r a' w') a w

theorem wpAnyG_ord {z : List Nat} {Q : Act → World → Prop} (hs : Region.noSelect ops = true) : ∀ (ord : List (Nat × Nat)) (listed : Array Bool) (a : Act) (w : World), Shut md ops listed → (G w ∨ ∀ p ∈ ord, p.2 ≠ 0) →
    ordB md ops z ord listed = true → wpOrd P ops z G Q ord a w → wpAnyG P md ops z G Q ord.length listed a w
  | [], _, _, _, _, _, hB, h => ⟨by simpa [ordB] using hB, h⟩
  | (i, 0) :: r, listed, a, w, hS, hG, hB, h => by
    have hG : G w := by
      rcases hG with h | h
      · exact h
      · exact absurd rfl (h (i, 0) (by simp))
    simp only [ordB, if_true, Bool.and_eq_true] at hB
    obtain ⟨⟨⟨hr, hf⟩, hz⟩, hB'⟩ := hB
    obtain ⟨o, v, ho, hy, hn⟩ := h
    have hr' : i ∈ Region.ready md ops listed := by simpa using hr
    refine wpAnyG_first ho (Region.noSelect_spec hs) (fun j hj => ?_) r.length listed a w hG hS (Region.free_spec ho hf) hr' hy ?_
    · have := List.all_eq_true.1 hz j (by simpa using hj)
      exact this
    · exact wpAnyG_ord hs r _ _ w (hS.next hr') (.inl hG) hB' hn
  | (i, k + 1) :: r, listed, a, w, hS, hG, hB, h => by
    have h0 : ¬ (k + 1 = 0) := by omega
    simp only [ordB, if_neg h0, Bool.and_eq_true] at hB
    obtain ⟨⟨hr, hk⟩, hB'⟩ := hB
    have hr1 : Region.ready md ops listed = [i] := by simpa using hr
    have hin : i ∈ Region.ready md ops listed := by rw [hr1]; simp
    refine ⟨(fun h0 => by rw [hr1] at h0; cases h0), fun j hj => ?_⟩
    rw [hr1] at hj
    obtain rfl : j = i := by simpa using hj
    refine gOp_mono (fun a' w' ⟨hG', hn⟩ => ?_) h
    by_cases hk0 : k = 0
    · exact ⟨fun _ => hG' hk0, wpAnyG_ord hs r _ a' w' (hS.next hin) (.inl (hG' hk0)) hB' hn⟩
    · have hk1 : (k + 1 == 1) = false := by simpa using hk0
      simp only [hk1, Bool.false_or, Bool.and_eq_true] at hk
      refine ⟨(fun hz => by rw [hk.1] at hz; cases hz), wpAnyG_ord hs r _ a' w' (hS.next hin) (.inr fun p hp => ?_) hB' hn⟩
      have := List.all_eq_true.1 hk.2 p hp
      simpa using this

/-- **A REGION THAT DRAWS, IN ONE CHOSEN ORDER.** -/
theorem wp_region_ord {id : Nat} {Q : Exit → Act → World → Prop} {a : Act} {w : World} {l : List Oper} (ord : List (Nat × Nat)) (G : World → Prop) (hm : P.follows .mixedOrders = true)
    (hB : (Region.noSelect l.toArray && ord.length == l.toArray.size && ordB .any l.toArray (lateOf ord) ord (Array.replicate l.toArray.size false)) = true) (hG : G w.drew)
    (h : wpOrd P l.toArray (lateOf ord) G (fun a' w' => Q .normal a' w') ord a w.drew) : (Code.region id l.toArray true).wp P Q a w := by
  simp only [Bool.and_eq_true, beq_iff_eq] at hB
  obtain ⟨⟨hs, hl⟩, hB⟩ := hB
  refine wp_region_any hm ?_
  have hshut : Shut .any l.toArray (Array.replicate l.toArray.size false) := by
    intro j o ho hx
    have h0 : (Array.replicate l.toArray.size false).getD j false = false := by
      rw [Array.getD_eq_getD_getElem?, Array.getElem?_replicate]; split <;> rfl
    rw [h0] at hx; cases hx
  have := wpAnyG_ord (z := lateOf ord) (md := .any) hs ord _ a w.drew hshut (.inl hG) hB h
  rw [hl] at this
  exact wpAny_of_G (fun _ _ h => h) _ _ _ _ this

theorem wpOrd_pure {z : List Nat} {Q : Act → World → Prop} {i : Nat} {r : List (Nat × Nat)} {a : Act} {w : World} {o : Oper} (ho : ops[i]? = some o) (hw : Region.wanted o (yielded ops a.tmps) = true) (v : Value)
    (h : ∀ w', G w' → Gives v w' ((execOp a.eval o).run P w')) (hn : ∀ K : Act → Prop, (∀ a', wpOrd P ops z G Q r a' w → K a') → K (a.put o.dst v)) : wpOrd P ops z G Q ((i, 0) :: r) a w :=
  ⟨o, v, ho, .inl ⟨hw, h⟩, hn _ (fun _ h => h)⟩

theorem wpOrd_skip {z : List Nat} {Q : Act → World → Prop} {i : Nat} {r : List (Nat × Nat)} {a : Act} {w : World} {o : Oper} (ho : ops[i]? = some o) (hw : Region.wanted o (yielded ops a.tmps) = false)
    (hn : ∀ K : Act → Prop, (∀ a', wpOrd P ops z G Q r a' w → K a') → K (a.put o.dst undef)) : wpOrd P ops z G Q ((i, 0) :: r) a w :=
  ⟨o, undef, ho, .inr ⟨hw, rfl⟩, hn _ (fun _ h => h)⟩

/-- An operation that writes, and behind which others still read. -/
theorem wpOrd_run {z : List Nat} {Q : Act → World → Prop} {i : Nat} {r : List (Nat × Nat)} {a : Act} {w : World} {o : Oper} (ho : ops[i]? = some o) (hw : Region.wanted o (yielded ops a.tmps) = true)
    (h : ∀ K : Act → World → Prop, (∀ a' w', G w' → wpOrd P ops z G Q r a' w' → K a' w') → gRun P o a w K) : wpOrd P ops z G Q ((i, 1) :: r) a w := by
  show gOp P ops i _ a w
  unfold gOp
  simp only [ho, hw, if_true]
  exact h _ (fun a' w' hg hk => ⟨fun _ => hg, hk⟩)

theorem wpOrd_last {z : List Nat} {Q : Act → World → Prop} {i : Nat} {r : List (Nat × Nat)} {a : Act} {w : World} {o : Oper} (ho : ops[i]? = some o) (hw : Region.wanted o (yielded ops a.tmps) = true)
    (h : ∀ K : Act → World → Prop, (∀ a' w', wpOrd P ops z G Q r a' w' → K a' w') → gRun P o a w K) : wpOrd P ops z G Q ((i, 2) :: r) a w := by
  show gOp P ops i _ a w
  unfold gOp
  simp only [ho, hw, if_true]
  exact h _ (fun a' w' hk => ⟨(fun h => by cases h), hk⟩)

theorem wpOrd_end {z : List Nat} {Q : Act → World → Prop} {a : Act} {w : World} (h : Q a w) : wpOrd P ops z G Q [] a w := h

/-- append, as such a step. -/
theorem gRun_app {w : World} {o : Oper} {a : Act} {K : Act → World → Prop} (s x : Operand) (t : TypeId)
    (ho : o.op = .call { callee := .builtin .append, args := #[s, x], argTypes := #[t, t] })
    (e : TypeId) (i : TypeInfo) (z : Value) (size bytes : Nat) (ht : P.underlying t = some (.slice e)) (hi : P.info? e = some i) (hz : i.zero = some z)
    (hsize : i.size = size) (hby : i.bytes = bytes) (hzs : z.cells.size = size) (hsz : 0 < size)
    (v : Value) (n : Nat) (xs : List Value) (hs : a.eval s = v) (hown : Sl w e size v n xs)
    (ad : Addr) (m c : Nat) (news : List Value) (hx : a.eval x = .slice (some ad) m c) (hl : news.length = m * size) (hnews : ∀ j u, news[j]? = some u → w.cell? (ad.add j) = some u) (h1 : ∀ u ∈ news, u.oneCell' = true)
    (h63 : n + m ≤ maxLen) (hbytes : (n + m) * bytes ≤ 140737488355328)
    (h : ∀ v' w', Sl w' e size v' (n + m) (xs ++ news) → Keeps (ownB v) w w' → (∀ k, ownB v' k → ownB v k ∨ w.heap.size ≤ k) → K (a.put o.dst v') w') : gRun P o a w K := by
  obtain ⟨v', w', hr, h2, h3, h4⟩ := run_app (P := P) w t o.type e i z size bytes ht hi hz hsize hby hzs hsz v n xs hown ad m c news hl hnews h1 h63 hbytes
  unfold gRun execOp
  simp only [ho, resolve, invoke, builtin, Sem.run_bind, Sem.run_pure, Result.andThen_ok, List.map_toArray, List.map_cons, List.map_nil, hs, hx, hr]
  exact h v' w' h2 h3 h4

theorem gRun_app_room {w : World} {o : Oper} {a : Act} {K : Act → World → Prop} (s x : Operand) (t : TypeId)
    (ho : o.op = .call { callee := .builtin .append, args := #[s, x], argTypes := #[t, t] })
    (e : TypeId) (i : TypeInfo) (size : Nat) (ht : P.underlying t = some (.slice e)) (hi : P.info? e = some i) (hsize : i.size = size)
    (g off n cap : Nat) (cur : List Value) (hs : a.eval s = .slice (some ⟨g, off, none⟩) n cap) (hb : Blk w g cur e)
    (ad : Addr) (m c : Nat) (news : List Value) (hx : a.eval x = .slice (some ad) m c) (hl : news.length = m * size) (hnews : ∀ j u, news[j]? = some u → w.cell? (ad.add j) = some u) (h1 : ∀ u ∈ news, u.oneCell' = true)
    (hr : n + m ≤ cap) (hoc : off + cap * size ≤ cur.length)
    (h : K (a.put o.dst (.slice (some ⟨g, off, none⟩) (n + m) cap)) (w.setRow g (cur.take (off + n * size) ++ news ++ cur.drop (off + n * size + news.length)).toArray)) : gRun P o a w K := by
  have hr := run_app_room (P := P) w t o.type e i size ht hi hsize g off n cap cur hb ad m c news hl hnews h1 hr hoc
  unfold gRun execOp
  simp only [ho, resolve, invoke, builtin, Sem.run_bind, Sem.run_pure, Result.andThen_ok, List.map_toArray, List.map_cons, List.map_nil, hs, hx, hr]
  exact h

end
end Go.Proofs.Ytjifdalflepcoab
