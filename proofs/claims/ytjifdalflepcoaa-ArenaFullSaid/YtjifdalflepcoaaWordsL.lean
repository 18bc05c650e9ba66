/-
  A Living that is a set of words (law04.go): built out of contracts for its three functions.
-/
import Derived.Test.YtjifdalflepcoaaSideAux
namespace Go.Proofs.Ytjifdalflepcoaa
open Go.RowKit
set_option linter.unusedVariables false
set_option linter.unusedSimpArgs false

/-- A set of words in memory: at q, pointed to by the variable at bv. -/
def WJ (q bv : Nat) (leads : List (Int × Int)) (T : List Int) (w : World) (t : List Int) (F : Nat → Prop) : Prop :=
  ∃ av lv, WordsAt w q av lv t leads ∧ Blk w bv [.pointer (some ⟨q, 0, none⟩)] 42 ∧ t.length + unT T t ≤ 1000 ∧ ∀ k, F k ↔ (k = q ∨ ownB av k ∨ ownB lv k ∨ k = bv)

theorem WordsAt.own_lt {w : World} {q : Nat} {av lv : Value} {alive : List Int} {leads : List (Int × Int)} (h : WordsAt w q av lv alive leads) {b : Nat} (hb : b = q ∨ ownB av b ∨ ownB lv b) : b < w.heap.size := by
  rcases hb with rfl | hb | hb
  · exact h.hq.lt
  · exact (h.ha.own hb).1
  · exact (h.hl.own hb).1

theorem WJ.lt {q bv : Nat} {leads : List (Int × Int)} {T : List Int} {w : World} {t : List Int} {F : Nat → Prop} (h : WJ q bv leads T w t F) {k : Nat} (hk : F k) : k < w.heap.size := by
  obtain ⟨av, lv, hw, hb, _, hF⟩ := h
  rcases (hF k).1 hk with h | h | h | rfl
  · exact hw.own_lt (.inl h)
  · exact hw.own_lt (.inr (.inl h))
  · exact hw.own_lt (.inr (.inr h))
  · exact hb.lt

theorem WJ.keep {q bv : Nat} {leads : List (Int × Int)} {T : List Int} {w w' : World} {t : List Int} {F S : Nat → Prop} (h : WJ q bv leads T w t F) (k : Keeps S w w') (hn : ∀ b, F b → ¬ S b) : WJ q bv leads T w' t F := by
  obtain ⟨av, lv, hw, hb, hl, hF⟩ := h
  refine ⟨av, lv, hw.keep k (fun b hb => hn b ?_), k.blk hb (hn bv ((hF bv).2 (.inr (.inr (.inr rfl))))), hl, hF⟩
  rcases hb with h | h | h
  · exact (hF b).2 (.inl h)
  · exact (hF b).2 (.inr (.inl h))
  · exact (hF b).2 (.inr (.inr (.inl h)))

/-- What keep leaves: in the words' state t, in memory av. -/
def KeptTo (q : Nat) (leads : List (Int × Int)) (t : List Int) (av lv : Value) (res x : Int) (w : World) (e : Ending) (w' : World) : Prop :=
  e = .returned (.int .i64 res) ∧ ∃ av', WordsAt w' q av' lv (keepW leads 1000 t x) leads ∧ Keeps (fun b => b = q ∨ ownB av b) w w' ∧ ∀ b, ownB av' b → ownB av b ∨ w.heap.size ≤ b

def wordsL (p q bv : Nat) (leads : List (Int × Int)) (T : List Int) (hT : ∀ e ∈ leads, e.2 ∈ T) (al : List Int → Int → Bool) (res nw : Int → Int) (fa fk fn : FuncId) (a1 a2 k1 k2 n1 n2 : Array Value)
    (ea : ∀ (args : Array Value) (w : World), (callFunc fa args).run Try.prog w = .ok (.enter fa args) w)
    (ek : ∀ (args : Array Value) (w : World), (callFunc fk args).run Try.prog w = .ok (.enter fk args) w)
    (en : ∀ (args : Array Value) (w : World), (callFunc fn args).run Try.prog w = .ok (.enter fn args) w)
    (ha : ∀ (w : World) (t : List Int) (av lv : Value) (x : Int), WordsAt w q av lv t leads → Blk w bv [.pointer (some ⟨q, 0, none⟩)] 42 → t.length ≤ 1000 → Calls Try.prog fa (a1.push (.int .i64 x) ++ a2) w fun e w' => e = .returned (.bool (al t x)) ∧ w = w')
    (hn : ∀ (w : World) (x : Int), Calls Try.prog fn (n1.push (.int .i64 x) ++ n2) w fun e w' => e = .returned (.int .i64 (nw x)) ∧ w = w')
    (hk : ∀ (w : World) (t : List Int) (av lv : Value) (x : Int), WordsAt w q av lv t leads → Blk w bv [.pointer (some ⟨q, 0, none⟩)] 42 → t.length + unT T t ≤ 1000 → x ∈ T → Calls Try.prog fk (k1.push (.int .i64 x) ++ k2) w fun e w' => KeptTo q leads t av lv (res x) x w e w')
    (hres : ∀ x, smallW x → smallW (res x) ∧ x = res x ∨ 1000 ≤ res x) : Liv Try.prog p (List Int) where
  J := WJ q bv leads T
  D := fun _ x => (x ∈ T ∧ smallW x) ∨ 1000 ≤ x
  DK := fun _ x => x ∈ T ∧ smallW x
  alive := al
  keep := fun t l x => (keepW leads 1000 t x, l, res x)
  now := fun _ x => nw x
  fa := fa
  fk := fk
  fn := fn
  a1 := a1
  a2 := a2
  k1 := k1
  k2 := k2
  n1 := n1
  n2 := n2
  ea := ea
  ek := ek
  en := en
  J_keep := fun h k hn => h.keep k hn
  J_lt := fun h hk => h.lt hk
  alive_c := fun w t F x hJ _ => by
    obtain ⟨av, lv, hw, hb, hl, _⟩ := hJ
    exact (ha w t av lv x hw hb (by omega)).mono (by rintro e w' ⟨rfl, rfl⟩; exact ⟨rfl, Keeps.refl _ _⟩)
  now_c := fun w t F x _ _ => (hn w x).mono (by rintro e w' ⟨rfl, rfl⟩; exact ⟨rfl, Keeps.refl _ _⟩)
  keep_c := fun w t F rv wv regs wait x hJ hS hA hx _ => by
    obtain ⟨av, lv, hw, hb, hl, hF⟩ := hJ
    refine (hk w t av lv x hw hb hl hx.1).mono ?_
    rintro e w' ⟨rfl, av', hw', hkk, ho⟩
    have hlen := (keepW_un hT 1000 t x hx.1).1
    have hna : ∀ k, SideFp p rv wv k → ¬ (k = q ∨ ownB av k) := fun k h1 h2 => hA k ⟨(hF k).2 (by rcases h2 with h2 | h2; exact .inl h2; exact .inr (.inl h2)), h1⟩
    refine ⟨rfl, fun k => k = q ∨ ownB av' k ∨ ownB lv k ∨ k = bv, ⟨av', lv, hw', hkk.blk hb ?_, Nat.le_trans hlen hl, fun k => Iff.rfl⟩, hS.keep hkk hna, ?_, hkk.mono ?_, ?_⟩
    · rintro (rfl | h)
      · exact hw.hq.ne hb (by decide) rfl
      · obtain ⟨_, cur, hc⟩ := hw.ha.own h
        exact hc.ne hb (by decide) rfl
    · rintro k ⟨h1, h2⟩
      have hlt := hS.fp_lt h2
      rcases h1 with h1 | h1 | h1 | h1
      · exact hA k ⟨(hF k).2 (.inl h1), h2⟩
      · rcases ho k h1 with h3 | h3
        · exact hA k ⟨(hF k).2 (.inr (.inl h3)), h2⟩
        · omega
      · exact hA k ⟨(hF k).2 (.inr (.inr (.inl h1))), h2⟩
      · exact hA k ⟨(hF k).2 (.inr (.inr (.inr h1))), h2⟩
    · rintro k _ (h | h)
      · exact .inl ((hF k).2 (.inl h))
      · exact .inl ((hF k).2 (.inr (.inl h)))
    · rintro k (h | h | h | h)
      · exact .inl ((hF k).2 (.inl h))
      · rcases ho k h with h | h
        · exact .inl ((hF k).2 (.inr (.inl h)))
        · exact .inr h
      · exact .inl ((hF k).2 (.inr (.inr (.inl h))))
      · exact .inl ((hF k).2 (.inr (.inr (.inr h))))
  DK_D := fun h => .inl h
  DK_keep := fun _ h => h
  D_keep := fun _ h => h
  D_new := fun h => by
    rcases hres _ h.2 with h1 | h1
    · exact .inl ⟨h1.2 ▸ h.1, h1.1⟩
    · exact .inr h1
  D_wait := fun _ h => h
  keep_len := rfl

/-- is, by a variable that points to the words. -/
theorem keep_any (q : Nat) (av lv : Value) (alive : List Int) (leads : List (Int × Int)) (T : List Int) (x : Int) (w : World) (h : WordsAt w q av lv alive leads) (hx : x ∈ T) (hT : ∀ e ∈ leads, e.2 ∈ T) (hl : leads.length ≤ 1000) (hb : alive.length + unT T alive ≤ 1000) :
    Calls Try.prog 29 #[.pointer (some ⟨q, 0, none⟩), .int .i64 x] w fun e w' => KeptTo q leads alive av lv (wrap64 (x + 1000)) x w e w' :=
  (keep_c 1000 q av lv alive leads T x w h hx hT (by omega) (by omega) (by omega)).mono fun e w' h => h

end Go.Proofs.Ytjifdalflepcoaa
