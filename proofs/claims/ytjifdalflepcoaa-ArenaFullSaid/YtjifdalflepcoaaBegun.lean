/-
  sideBegun (law04.go).
-/
import Derived.Test.YtjifdalflepcoaaWords2
namespace Go.Proofs.Ytjifdalflepcoaa
open Go.RowKit
set_option linter.unusedVariables false
set_option linter.unusedSimpArgs false

theorem Begun1_c (x : Int) (w : World) : Calls Try.prog 70 #[.int .i64 x] w fun e w' => e = .returned (.bool (x == 1)) ∧ w = w' := by
  by_cases h : x = 1
  · subst h
    go_enter Try.func70, Try.ntmps70
    go_wp2
    go_ret
    exact ⟨rfl, rfl⟩
  · have hb : (x == 1) = false := by simpa using h
    go_enter Try.func70, Try.ntmps70
    go_wp2
    go_ret
    exact ⟨ret_bool hb.symm, rfl⟩

theorem Begun2_c (x : Int) (w : World) : Calls Try.prog 71 #[.int .i64 x] w fun e w' => e = .returned (.int .i64 x) ∧ w = w' := by
  go_enter Try.func71, Try.ntmps71
  go_wp2
  go_ret
  exact ⟨rfl, rfl⟩

/-- sideBegun's Living: 1 is alive; a word stays what it is. -/
def begunL (p : Nat) : Liv Try.prog p Unit where
  J := fun _ _ F => ∀ k, ¬ F k
  D := fun _ _ => True
  alive := fun _ x => x == 1
  keep := fun t l x => (t, l, x)
  now := fun _ x => x
  fa := 70
  fk := 71
  fn := 71
  a1 := #[]
  a2 := #[]
  k1 := #[]
  k2 := #[]
  n1 := #[]
  n2 := #[]
  ea := fun args w => by kernel_rfl
  ek := fun args w => by kernel_rfl
  en := fun args w => by kernel_rfl
  J_keep := fun h _ _ => h
  J_lt := fun h hf => (h _ hf).elim
  alive_c := fun w t F x _ _ => (Begun1_c x w).mono (by rintro e w' ⟨rfl, rfl⟩; exact ⟨rfl, Keeps.refl _ _⟩)
  now_c := fun w t F x _ _ => (Begun2_c x w).mono (by rintro e w' ⟨rfl, rfl⟩; exact ⟨rfl, Keeps.refl _ _⟩)
  keep_c := fun w t F rv wv regs wait x hJ hS hA _ _ => (Begun2_c x w).mono (by rintro e w' ⟨rfl, rfl⟩; exact ⟨rfl, F, hJ, hS, hA, Keeps.refl _ _, fun k hk => .inl hk⟩)
  DK := fun _ _ => True
  DK_D := fun _ => trivial
  DK_keep := fun _ _ => trivial
  D_keep := fun _ _ => trivial
  D_new := fun _ => trivial
  D_wait := fun _ _ _ _ => ⟨trivial, trivial⟩
  keep_len := rfl

theorem begunA (args : Array Value) (w : World) : (callFunc 70 args).run Try.prog w = .ok (.enter 70 args) w := by kernel_rfl
theorem begunB (args : Array Value) (w : World) : (callFunc 71 args).run Try.prog w = .ok (.enter 71 args) w := by kernel_rfl

theorem begun_pass : passM (τ := Unit) (fun _ x => x == 1) (fun t l x => (t, l, x)) () [(1, 5)] [] = ((), [(1, 5)], [((1, 5), true, true)]) := by rfl

set_option maxHeartbeats 2000000 in
set_option maxRecDepth 100000 in
theorem sideBegun_c (w : World) : Calls Try.prog 21 #[] w fun e w' => e = .returned (.bool true) ∧ Keeps (fun _ => False) w w' := by
  have h0 : SideAt (w.alloc (.cells #[.slice none 0 0, .slice none 0 0] 37)) w.heap.size (.slice none 0 0) (.slice none 0 0) [] [] :=
    ⟨Blk.newAt _ rfl rfl, Sl.nil _ _ _, Sl.nil _ _ _, by rintro k ⟨h, _⟩; simp [ownB, Value.ownBlock] at h⟩
  have H0 := Lib.hid h0; clear h0
  go_enter Try.func21, Try.ntmps21
  go_wp2_with fail
  refine (Reg_room w.heap.size _ _ [] [] 1 5 _ H0.out (by simp) (by simp) (by simp)).mono ?_
  rintro e w1 ⟨rfl, rv1, wv1, h1, k1, f1⟩
  have hs0 : w.heap.size < w1.heap.size := h1.hp.lt
  have K1 : Hid (∀ w2, (Keeps (fun b => SideFp w.heap.size rv1 wv1 b) w1 w2) → Keeps (fun _ => False) w w2) := fun w2 k2 => by
    have ka := (Keeps.refl (fun _ => False) w).alloc (.cells #[.slice none 0 0, .slice none 0 0] 37)
    have kb : Keeps (fun _ => False) w w1 := ka.then k1 (fun b hb => by
      rcases hb with rfl | hb | hb
      · exact .inr (Nat.le_refl _)
      · simp [ownB, Value.ownBlock] at hb
      · simp [ownB, Value.ownBlock] at hb)
    exact kb.then k2 (fun b hb => by
      rcases f1 b hb with (rfl | h | h) | h
      · exact .inr (Nat.le_refl _)
      · simp [ownB, Value.ownBlock] at h
      · simp [ownB, Value.ownBlock] at h
      · simp at h; exact .inr (by omega))
  have H1 := Lib.hid h1
  clear h1 k1 f1
  go_wp2_with fail
  refine (Full_c w.heap.size rv1 wv1 [(1, 5)] [] _ H1.out (by simp) (by simp)).mono ?_
  rintro e w2 ⟨rfl, k2⟩
  have H2 := Lib.hid (H1.out.keep k2 (fun _ _ h => h))
  have HK2 := Lib.hid (k2.mono (T := SideFp w.heap.size rv1 wv1) fun _ _ h => h.elim)
  have hs2 : w1.heap.size ≤ w2.heap.size := k2.size
  clear k2
  go_wp2_with fail
  refine (Settle_c w.heap.size (begunL w.heap.size) () (fun _ => False) rv1 wv1 [(1, 5)] [] _ (fun _ h => h) H2.out (by rintro k ⟨h, _⟩; exact h) (by simp) (by simp) (by intro e _; exact ⟨trivial, trivial⟩) (by intro e _; exact ⟨trivial, trivial⟩)).mono ?_
  rintro e w3 ⟨rfl, F3, rv3, wv3, _, h3, _, k3, _, f3⟩
  replace h3 : SideAt w3 w.heap.size rv3 wv3 [] [(1, 5)] := h3
  have K3 : Hid (Keeps (SideFp w.heap.size rv1 wv1) w1 w3) := HK2.out.trans (k3.mono fun _ _ h => h.elim (fun h => h.elim) (fun h => h))
  have F3' : Hid (∀ b, SideFp w.heap.size rv3 wv3 b → SideFp w.heap.size rv1 wv1 b ∨ w1.heap.size ≤ b) := fun b hb => by
    rcases f3 b hb with h | h
    · exact .inl h
    · exact .inr (by omega)
  have H3 := Lib.hid h3
  clear h3 k3 f3
  go_wp2_with fail
  refine (Pop_some w.heap.size rv3 wv3 [] [(1, 5)] 1 0 0 _ H3.out (by simp) rfl rfl).mono ?_
  rintro e w4 ⟨rfl, rv4, wv4, h4, k4, f4⟩
  replace h4 : SideAt w4 w.heap.size rv4 wv4 [] [] := h4
  have K4 : Hid (Keeps (SideFp w.heap.size rv1 wv1) w1 w4) := K3.out.then k4 F3'.out
  have H4 := Lib.hid h4
  clear h4 k4 f4
  go_wp2_with fail
  refine (Pop_none w.heap.size rv4 wv4 [] [] 1 _ H4.out (by simp) (by simp [findG])).mono ?_
  rintro e w5 ⟨rfl, k5⟩
  have h5 := H4.out.keep k5 (fun _ _ h => h)
  obtain ⟨ro, rc, rfl, _, _, _⟩ := h5.hr.rd
  have c0 := h5.hp.cell 0
  have cl := h5.hp.lt
  simp only [List.getElem?_cons_zero, List.length_nil] at c0
  have KE := Lib.hid (K1.out _ (K4.out.trans (k5.mono fun _ _ h => h.elim)))
  clear h5 k5
  go_wp2_with fail
  go_ret
  exact ⟨rfl, KE.out⟩

end Go.Proofs.Ytjifdalflepcoaa
