/-
  SideSettles (law04.go): its closures, and what lies in memory while it begins.
-/
import Derived.Test.YtjifdalflepcoaaSettled
namespace Go.Proofs.Ytjifdalflepcoaa
open Go.RowKit
set_option linter.unusedVariables false
set_option linter.unusedSimpArgs false

theorem Set1_c (x : Int) (w : World) : Calls Try.prog 24 (#[].push (.int .i64 x) ++ #[]) w fun e w' => e = .returned (.int .i64 (nowT [] x)) ∧ w = w' := by
  by_cases h : x < 1000
  · have HN := Lib.hid (show nowT [] x = wrap64 (x + 1000) by unfold nowT; rw [if_pos h])
    go_enter Try.func24, Try.ntmps24
    go_wp2_with fail
    go_ret
    exact ⟨by rw [HN.out]; first | rfl | (apply ret_int; unfold wrap64; omega), rfl⟩
  · have HN := Lib.hid (show nowT [] x = x by unfold nowT; rw [if_neg h])
    go_enter Try.func24, Try.ntmps24
    go_wp2_with fail
    go_ret
    exact ⟨by rw [HN.out]; rfl, rfl⟩

theorem Set2_c (q bv : Nat) (av lv : Value) (t : List Int) (leads : List (Int × Int)) (x : Int) (w : World) (h : WordsAt w q av lv t leads) (hb : Blk w bv [.pointer (some ⟨q, 0, none⟩)] 42) (hl : t.length ≤ 1000) :
    Calls Try.prog 25 (#[].push (.int .i64 x) ++ #[.pointer (some ⟨bv, 0, none⟩)]) w fun e w' => e = .returned (.bool (liveT t x)) ∧ w = w' := by
  have c0 := hb.cell 0
  have bl := hb.lt
  simp only [List.getElem?_cons_zero] at c0
  have H := Lib.hid h; clear h hb
  have HL : Hid (liveT t x = (decide (1000 ≤ x) || t.contains x)) := rfl
  by_cases hx : 1000 ≤ x
  · have HX := Lib.hid (show liveT t x = true by rw [HL.out]; simp [hx])
    go_enter Try.func25, Try.ntmps25
    go_wp2_with fail
    go_ret
    exact ⟨by rw [HX.out]; rfl, rfl⟩
  · have HX := Lib.hid (show liveT t x = t.contains x by rw [HL.out]; simp [hx])
    go_enter Try.func25, Try.ntmps25
    go_wp2_with fail
    refine (is_c q av lv t leads x _ H.out (by omega)).mono ?_
    rintro e w1 ⟨rfl, rfl⟩
    rw [← HX.out]
    go_wp2_with fail
    go_ret
    exact ⟨rfl, rfl⟩

theorem settledM_small {leads : List (Int × Int)} {T : List Int} {N : Nat} (hT : ∀ e ∈ leads, e.2 ∈ T) (regs wait : List (Int × Int)) (alive : List Int) (hN : unT T alive ≤ N) (hr : ∀ e ∈ regs, smallW e.1 ∧ smallW e.2 ∧ e.2 ∈ T) (hw : ∀ e ∈ wait, smallW e.1 ∧ smallW e.2) :
    (∀ e ∈ (settledM leads regs wait alive).1, smallW e.1 ∧ smallW e.2) ∧ ∀ e ∈ (settledM leads regs wait alive).2, smallW e.1 ∧ smallW e.2 := by
  have key := rounds_same (N := N) hT (regs.length + 1) (itemsM liveR alive regs) alive alive wait [] (fun y => Iff.rfl) hN (by
    intro i hi
    unfold itemsM at hi
    simp only [List.mem_map] at hi
    obtain ⟨e, he, rfl⟩ := hi
    exact hr e he) (by simp)
  simp only [List.map_nil, List.append_nil] at key
  unfold settledM passM
  generalize roundsM liveR (keepR leads) (regs.length + 1) alive [] (itemsM liveR alive regs) = s at *
  obtain ⟨k1, k2, k3, k4, k5⟩ := key
  constructor
  · intro e he
    simp only [List.mem_map, List.mem_filter] at he
    obtain ⟨j, ⟨hj, _⟩, rfl⟩ := he
    obtain ⟨i, h1, h2⟩ := k5 j hj
    unfold itemsM at h1
    simp only [List.mem_map] at h1
    obtain ⟨e, he, rfl⟩ := h1
    rw [h2]; exact ⟨(hr e he).1, (hr e he).2.1⟩
  · intro e he
    simp only [List.mem_append, List.mem_filter] at he
    rcases he with he | he
    · exact hw e he.1
    · exact k3 e he.1

/-- SideSettles while it begins: a Side, and two lists of the reference's entries. -/
structure TwoL (w0 wr : World) (p : Nat) (rv sv rx qx : Value) (regs wait l1 l2 : List (Int × Int)) : Prop where
  hS : SideAt wr p rv sv regs wait
  hr : Sl wr 41 2 rx l1.length (entV l1)
  hq : Sl wr 41 2 qx l2.length (entV l2)
  hK : Keeps (fun _ => False) w0 wr
  fS : ∀ k, SideFp p rv sv k → w0.heap.size ≤ k
  fr : ∀ k, ownB rx k → w0.heap.size ≤ k
  fq : ∀ k, ownB qx k → w0.heap.size ≤ k
  ap : ∀ k, ¬ (ownB rx k ∧ ownB qx k)

section
variable {w0 wr w2 : World} {p : Nat} {rv sv rx qx v2 : Value} {regs wait l1 l2 : List (Int × Int)} {e : Int × Int}

theorem TwoL.keep (h : TwoL w0 wr p rv sv rx qx regs wait l1 l2) (k : Keeps (fun _ => False) wr w2) : TwoL w0 w2 p rv sv rx qx regs wait l1 l2 :=
  ⟨h.hS.keep k (fun _ _ h => h), h.hr.keep k (fun _ _ h => h), h.hq.keep k (fun _ _ h => h), h.hK.trans k, h.fS, h.fr, h.fq, h.ap⟩

theorem TwoL.nS (h : TwoL w0 wr p rv sv rx qx regs wait l1 l2) {x : Value} {n : Nat} {xs : List Value} (hs : Sl wr 41 2 x n xs) {k : Nat} (hk : ownB x k) : ¬ SideFp p rv sv k := fun hf => by
  obtain ⟨_, cur, hc⟩ := hs.own hk
  rcases hf with rfl | hf | hf
  · exact hc.ne h.hS.hp (by decide) rfl
  · obtain ⟨_, cur2, hc2⟩ := h.hS.hr.own hf
    exact hc.ne hc2 (by decide) rfl
  · obtain ⟨_, cur2, hc2⟩ := h.hS.hw.own hf
    exact hc.ne hc2 (by decide) rfl

/-- One more is registered. -/
theorem TwoL.reg (h : TwoL w0 wr p rv sv rx qx regs wait l1 l2) (hs : Sl w2 40 2 v2 (regs ++ [e]).length (entV (regs ++ [e]))) (hk : Keeps (ownB rv) wr w2) (ho : ∀ b, ownB v2 b → ownB rv b ∨ wr.heap.size ≤ b) :
    TwoL w0 (w2.setCell ⟨p, 0, none⟩ v2) p v2 sv rx qx (regs ++ [e]) wait l1 l2 := by
  have kp := (Keeps.refl (· = p) w2).setCell (p := ⟨p, 0, none⟩) (.inl rfl) v2
  have hp2 := hk.blk h.hS.hp h.hS.pr
  have nv2 : ¬ ownB v2 p := fun hb => by
    obtain ⟨_, cur, hc⟩ := hs.own hb
    exact hp2.ne hc (by decide) rfl
  have nsp : ¬ ownB sv p := h.hS.pw
  have kt : Keeps (fun b => b = p ∨ ownB rv b) wr (w2.setCell ⟨p, 0, none⟩ v2) := (hk.mono fun _ _ h => .inr h).setCell (p := ⟨p, 0, none⟩) (.inl (.inl rfl)) _
  have nx : ∀ {x : Value} {n : Nat} {xs : List Value}, Sl wr 41 2 x n xs → ∀ k, ownB x k → ¬ (k = p ∨ ownB rv k) := fun hx k hk h2 => h.nS hx hk (by rcases h2 with h2 | h2; exact .inl h2; exact .inr (.inl h2))
  refine ⟨⟨by simpa using hp2.setSame 0 v2, hs.keep kp (by rintro b hb rfl; exact nv2 hb), (h.hS.hw.keep hk (fun b h1 h2 => h.hS.ap b ⟨h2, h1⟩)).keep kp (by rintro b hb rfl; exact nsp hb), ?_⟩, h.hr.keep kt (nx h.hr), h.hq.keep kt (nx h.hq), h.hK.then kt ?_, ?_, h.fr, h.fq, h.ap⟩
  · rintro b ⟨h1, h2⟩
    rcases ho b h1 with h3 | h3
    · exact h.hS.ap b ⟨h3, h2⟩
    · have := (h.hS.hw.own h2).1; omega
  · rintro b (rfl | hb)
    · exact .inr (h.fS _ (.inl rfl))
    · exact .inr (h.fS b (.inr (.inl hb)))
  · rintro b (rfl | hb | hb)
    · exact h.fS _ (.inl rfl)
    · rcases ho b hb with h3 | h3
      · exact h.fS b (.inr (.inl h3))
      · exact Nat.le_trans h.hK.size h3
    · exact h.fS b (.inr (.inr hb))

/-- One more waits. -/
theorem TwoL.wt (h : TwoL w0 wr p rv sv rx qx regs wait l1 l2) (hs : Sl w2 40 2 v2 (wait ++ [e]).length (entV (wait ++ [e]))) (hk : Keeps (ownB sv) wr w2) (ho : ∀ b, ownB v2 b → ownB sv b ∨ wr.heap.size ≤ b) :
    TwoL w0 (w2.setCell ⟨p, 1, none⟩ v2) p rv v2 rx qx regs (wait ++ [e]) l1 l2 := by
  have kp := (Keeps.refl (· = p) w2).setCell (p := ⟨p, 1, none⟩) (.inl rfl) v2
  have hp2 := hk.blk h.hS.hp h.hS.pw
  have nv2 : ¬ ownB v2 p := fun hb => by
    obtain ⟨_, cur, hc⟩ := hs.own hb
    exact hp2.ne hc (by decide) rfl
  have nsp : ¬ ownB rv p := h.hS.pr
  have kt : Keeps (fun b => b = p ∨ ownB sv b) wr (w2.setCell ⟨p, 1, none⟩ v2) := (hk.mono fun _ _ h => .inr h).setCell (p := ⟨p, 1, none⟩) (.inl (.inl rfl)) _
  have nx : ∀ {x : Value} {n : Nat} {xs : List Value}, Sl wr 41 2 x n xs → ∀ k, ownB x k → ¬ (k = p ∨ ownB sv k) := fun hx k hk h2 => h.nS hx hk (by rcases h2 with h2 | h2; exact .inl h2; exact .inr (.inr h2))
  refine ⟨⟨by simpa using hp2.setSame 1 v2, (h.hS.hr.keep hk (fun b h1 h2 => h.hS.ap b ⟨h1, h2⟩)).keep kp (by rintro b hb rfl; exact nsp hb), hs.keep kp (by rintro b hb rfl; exact nv2 hb), ?_⟩, h.hr.keep kt (nx h.hr), h.hq.keep kt (nx h.hq), h.hK.then kt ?_, ?_, h.fr, h.fq, h.ap⟩
  · rintro b ⟨h1, h2⟩
    rcases ho b h2 with h3 | h3
    · exact h.hS.ap b ⟨h1, h3⟩
    · have := (h.hS.hr.own h1).1; omega
  · rintro b (rfl | hb)
    · exact .inr (h.fS _ (.inl rfl))
    · exact .inr (h.fS b (.inr (.inr hb)))
  · rintro b (rfl | hb | hb)
    · exact h.fS _ (.inl rfl)
    · exact h.fS b (.inr (.inl hb))
    · rcases ho b hb with h3 | h3
      · exact h.fS b (.inr (.inr h3))
      · exact Nat.le_trans h.hK.size h3

theorem TwoL.r (h : TwoL w0 wr p rv sv rx qx regs wait l1 l2) (hs : Sl w2 41 2 v2 (l1 ++ [e]).length (entV (l1 ++ [e]))) (hk : Keeps (ownB rx) wr w2) (ho : ∀ b, ownB v2 b → ownB rx b ∨ wr.heap.size ≤ b) :
    TwoL w0 w2 p rv sv v2 qx regs wait (l1 ++ [e]) l2 := by
  refine ⟨h.hS.keep hk (fun b h1 h2 => h.nS h.hr h2 h1), hs, h.hq.keep hk (fun b h1 h2 => h.ap b ⟨h2, h1⟩), h.hK.then hk (fun b hb => .inr (h.fr b hb)), h.fS, ?_, h.fq, ?_⟩
  · intro b hb
    rcases ho b hb with h3 | h3
    · exact h.fr b h3
    · exact Nat.le_trans h.hK.size h3
  · rintro b ⟨h1, h2⟩
    rcases ho b h1 with h3 | h3
    · exact h.ap b ⟨h3, h2⟩
    · have := (h.hq.own h2).1; omega

theorem TwoL.q (h : TwoL w0 wr p rv sv rx qx regs wait l1 l2) (hs : Sl w2 41 2 v2 (l2 ++ [e]).length (entV (l2 ++ [e]))) (hk : Keeps (ownB qx) wr w2) (ho : ∀ b, ownB v2 b → ownB qx b ∨ wr.heap.size ≤ b) :
    TwoL w0 w2 p rv sv rx v2 regs wait l1 (l2 ++ [e]) := by
  refine ⟨h.hS.keep hk (fun b h1 h2 => h.nS h.hq h2 h1), h.hr.keep hk (fun b h1 h2 => h.ap b ⟨h1, h2⟩), hs, h.hK.then hk (fun b hb => .inr (h.fq b hb)), h.fS, h.fr, ?_, ?_⟩
  · intro b hb
    rcases ho b hb with h3 | h3
    · exact h.fq b h3
    · exact Nat.le_trans h.hK.size h3
  · rintro b ⟨h1, h2⟩
    rcases ho b h2 with h3 | h3
    · exact h.ap b ⟨h1, h3⟩
    · have := (h.hr.own h1).1; omega

end

end Go.Proofs.Ytjifdalflepcoaa
