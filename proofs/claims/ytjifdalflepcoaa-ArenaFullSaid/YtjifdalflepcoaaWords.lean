/-
  The statements' set of words that are alive (law04.go).
-/
import Derived.Test.YtjifdalflepcoaaSettle2
namespace Go.Proofs.Ytjifdalflepcoaa
open Go.RowKit
set_option linter.unusedVariables false
set_option linter.unusedSimpArgs false

/-- Pairs as cells: arrays of two. -/
abbrev pairV (l : List (Int × Int)) : List Value := entV l

/-- At block q lies a words: what is alive, and what leads to what. -/
structure WordsAt (w : World) (q : Nat) (av lv : Value) (alive : List Int) (leads : List (Int × Int)) : Prop where
  hq : Blk w q [av, lv] 44
  ha : Sl w 2 1 av alive.length (alive.map (Value.int .i64))
  hl : Sl w 103 2 lv leads.length (pairV leads)

set_option maxHeartbeats 1000000 in
set_option maxRecDepth 100000 in
theorem is_c (q : Nat) (av lv : Value) (alive : List Int) (leads : List (Int × Int)) (x : Int) (w : World) (h : WordsAt w q av lv alive leads) (hl : alive.length ≤ 1000000) :
    Calls Try.prog 26 #[.pointer (some ⟨q, 0, none⟩), .int .i64 x] w fun e w' => e = .returned (.bool (alive.contains x)) ∧ w = w' := by
  obtain ⟨ao, ac, rfl, hrd, _, _⟩ := h.ha.rd
  have c0 := h.hq.cell 0
  have ql := h.hq.lt
  simp only [List.getElem?_cons_zero] at c0
  have HR := Lib.hid hrd
  clear h hrd
  go_enter Try.func26, Try.ntmps26
  go_wp2_with fail
  go_loopw [5] (fun i wr => ∃ k : Nat, k ≤ alive.length ∧ i = .int .i64 k ∧ Hid (∀ j, j < k → alive.getD j 0 ≠ x) ∧ wr = w) (fun i _ => alive.length - (intOf i).toNat)
  case atStart => exact ⟨0, Nat.zero_le _, rfl, (fun j hj => by omega), rfl⟩
  case round =>
    obtain ⟨k, hk, rfl, hno, rfl⟩ := hrel
    by_cases hlt : k < alive.length
    · obtain ⟨g, o, rfl, d0⟩ := HR.out.int k hlt
      have hgd : alive.getD k 0 = alive[k] := by simp [List.getD, hlt]
      have HG := Lib.hid hgd; clear hgd
      generalize hv : alive.getD k 0 = v at *
      have HV := Lib.hid hv; clear hv
      by_cases he : v = x
      · subst he
        have HE : Hid (alive.contains v = true) := by
          show alive.contains v = true
          rw [List.contains_iff_mem, HG.out]
          exact List.getElem_mem hlt
        go_wp2_with fail
        go_ret
        exact ⟨by rw [HE.out]; rfl, rfl⟩
      · have hb : (v == x) = false := by simpa using he
        go_wp2_with fail
        go_roundw
        case rel => exact ⟨k + 1, by omega, by go_num, fun j hj => by
          by_cases e : j = k
          · subst e; rw [HV.out]; exact he
          · exact hno.out j (by omega), by first | rfl | trivial⟩
        case measure => simp [intOf]; omega
    · obtain rfl : k = alive.length := by omega
      have HE : Hid (alive.contains x = false) := by
        show alive.contains x = false
        rw [Bool.eq_false_iff]
        intro hc
        rw [List.contains_iff_mem] at hc
        obtain ⟨j, hj, e⟩ := List.mem_iff_getElem.1 hc
        exact hno.out j hj (by simp [List.getD, hj, e])
      go_wp2_with fail
      go_ret
      exact ⟨by rw [HE.out]; rfl, rfl⟩

/-- How many of T are not in a. -/
def unT (T a : List Int) : Nat := (T.filter fun y => !a.contains y).length

theorem filter_less (x : Int) (p p' : Int → Bool) (h1 : p x = false) (h2 : p' x = true) (h3 : ∀ y, y ≠ x → p y = p' y) : ∀ T : List Int, (T.filter p).length ≤ (T.filter p').length ∧ (x ∈ T → (T.filter p).length < (T.filter p').length)
  | [] => by simp
  | y :: T => by
    have ih := filter_less x p p' h1 h2 h3 T
    by_cases hy : y = x
    · subst hy
      rw [List.filter_cons_of_neg (by rw [h1]; decide), List.filter_cons_of_pos h2, List.length_cons]
      exact ⟨by omega, fun _ => by omega⟩
    · have h4 := h3 y hy
      have h5 : x ∈ y :: T → x ∈ T := fun h => by
        rcases List.mem_cons.1 h with h | h
        · exact (hy h.symm).elim
        · exact h
      cases hp : p y
      · rw [hp] at h4
        rw [List.filter_cons_of_neg (by rw [hp]; decide), List.filter_cons_of_neg (by rw [← h4]; decide)]
        exact ⟨ih.1, fun h => ih.2 (h5 h)⟩
      · rw [hp] at h4
        rw [List.filter_cons_of_pos hp, List.filter_cons_of_pos h4.symm, List.length_cons, List.length_cons]
        exact ⟨by omega, fun h => by have := ih.2 (h5 h); omega⟩

theorem unT_app {T a : List Int} {x : Int} (hx : x ∈ T) (ha : a.contains x = false) : unT T (a ++ [x]) < unT T a :=
  (filter_less x _ _ (by simp) (by rw [ha]; rfl) (fun y hy => by
    congr 1
    rw [Bool.eq_iff_iff]; simp [List.contains_iff_mem, hy]) T).2 hx

/-- What keep makes of what is alive. -/
def keepW (leads : List (Int × Int)) : Nat → List Int → Int → List Int
  | 0, a, _ => a
  | n + 1, a, x => if a.contains x then a else leads.foldl (fun a e => if e.1 = x then keepW leads n a e.2 else a) (a ++ [x])

theorem WordsAt.keep {w w' : World} {q : Nat} {av lv : Value} {alive : List Int} {leads : List (Int × Int)} {S : Nat → Prop} (h : WordsAt w q av lv alive leads) (k : Keeps S w w') (hn : ∀ b, (b = q ∨ ownB av b ∨ ownB lv b) → ¬ S b) : WordsAt w' q av lv alive leads :=
  ⟨k.blk h.hq (hn q (.inl rfl)), h.ha.keep k (fun b hb => hn b (.inr (.inl hb))), h.hl.keep k (fun b hb => hn b (.inr (.inr hb)))⟩

/-- Another word is alive: in memory of its own. -/
theorem WordsAt.app {w w2 : World} {q : Nat} {av lv v2 : Value} {alive : List Int} {leads : List (Int × Int)} {x : Int} (h : WordsAt w q av lv alive leads) (hs : Sl w2 2 1 v2 (alive.length + 1) (alive.map (Value.int .i64) ++ [.int .i64 x])) (hk : Keeps (ownB av) w w2) :
    WordsAt (w2.setCell ⟨q, 0, none⟩ v2) q v2 lv (alive ++ [x]) leads := by
  have kp := (Keeps.refl (· = q) w2).setCell (p := ⟨q, 0, none⟩) (.inl rfl) v2
  have hq2 := hk.blk h.hq (fun hb => by
    obtain ⟨_, cur, hc⟩ := h.ha.own hb
    exact h.hq.ne hc (by decide) rfl)
  refine ⟨by simpa using hq2.setSame 0 v2, ?_, ?_⟩
  · have := hs.keep kp (by
      rintro b hb rfl
      obtain ⟨_, cur, hc⟩ := hs.own hb
      exact hq2.ne hc (by decide) rfl)
    simpa using this
  · refine (h.hl.keep hk ?_).keep kp ?_
    · intro b hb hb2
      obtain ⟨_, cur, hc⟩ := h.hl.own hb
      obtain ⟨_, cur2, hc2⟩ := h.ha.own hb2
      exact hc.ne hc2 (by decide) rfl
    · rintro b hb rfl
      obtain ⟨_, cur, hc⟩ := h.hl.own hb
      exact h.hq.ne hc (by decide) rfl

/-- Behind keep. -/
def KeepTo (w : World) (q : Nat) (av lv : Value) (alive' : List Int) (leads : List (Int × Int)) (x : Int) (e : Ending) (w' : World) : Prop :=
  e = .returned (.int .i64 (wrap64 (x + 1000))) ∧ ∃ av', WordsAt w' q av' lv alive' leads ∧ Keeps (fun b => b = q ∨ ownB av b) w w' ∧ ∀ b, ownB av' b → ownB av b ∨ w.heap.size ≤ b

end Go.Proofs.Ytjifdalflepcoaa
