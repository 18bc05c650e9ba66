/-
  SideDoes (law04.go): what lies in memory, and SameLongs.
-/
import Derived.Test.YtjifdalflepcoaaSideSettlesM
namespace Go.Proofs.Ytjifdalflepcoaa
open Go.RowKit
set_option linter.unusedVariables false
set_option linter.unusedSimpArgs false

/-- A number in a slice. -/
theorem Rd.num {w : World} {ao : Option Addr} {l : List Int} (h : Rd w ao (l.map (Value.int .i64))) (i : Nat) (hi : i < l.length) :
    ∃ g o, ao = some ⟨g, o, none⟩ ∧ g < w.heap.size ∧ w.cell? ⟨g, o + i, none⟩ = some (.int .i64 (l.getD i 0)) := by
  obtain ⟨g, o, rfl, hg, hc⟩ := h (by intro e; simp at e; subst e; simp at hi)
  refine ⟨g, o, rfl, hg, ?_⟩
  rw [hc i (by simpa using hi)]
  simp [List.getD, hi]

set_option maxHeartbeats 2000000 in
set_option maxRecDepth 100000 in
theorem SameLongs_yes (a b : Option Addr) (ca cb : Nat) (l : List Int) (w : World) (h1 : Rd w a (l.map (Value.int .i64))) (h2 : Rd w b (l.map (Value.int .i64))) (hl : l.length ≤ 1000000) :
    Calls Try.prog 54 #[.slice a l.length ca, .slice b l.length cb] w fun e w' => e = .returned (.bool true) ∧ Keeps (fun _ => False) w w' := by
  have H1 := Lib.hid h1; have H2 := Lib.hid h2
  clear h1 h2
  go_enter Try.func54, Try.ntmps54
  go_wp2_with fail
  go_loopw [5] (fun i wr => ∃ k : Nat, k ≤ l.length ∧ i = .int .i64 k ∧ Keeps (fun _ => False) w wr) (fun i _ => l.length - (intOf i).toNat)
  case atStart => exact ⟨0, Nat.zero_le _, rfl, Keeps.refl _ _⟩
  case round =>
    obtain ⟨k, hk, rfl, hkk⟩ := hrel
    have HK := Lib.hid hkk; clear hkk
    by_cases hlt : k < l.length
    · obtain ⟨g, o, rfl, hgl, d0⟩ := (H1.out.keep HK.out (fun _ _ _ h => h)).num k hlt
      obtain ⟨g', o', rfl, hgl', e0⟩ := (H2.out.keep HK.out (fun _ _ _ h => h)).num k hlt
      generalize l.getD k 0 = v at *
      go_wp2_with fail
      refine wp_region_ro (.free 0 (.free 1 (.free 2 (.free 4 (.free 5 (.free 6 (.pure 3 (.pure 7 (.free 8 (.fin)))))))))) [] (fun w' => w'.cell? ⟨g, o + k, none⟩ = some (.int .i64 v) ∧ w'.cell? ⟨g', o' + k, none⟩ = some (.int .i64 v)) (by kernel_rfl) (by kernel_rfl) ⟨d0, e0⟩ ?_
      first | (refine wpRO_free rfl rfl _ (fun w' => by go_simp; exact Gives.mk _ _) (fun K hK => ?_); go_simp; refine hK _ ?_; clear hK K) | (refine wpRO_skipF rfl rfl (fun K hK => ?_); go_simp; refine hK _ ?_; clear hK K)
      first | (refine wpRO_free rfl rfl _ (fun w' => by go_simp; exact Gives.mk _ _) (fun K hK => ?_); go_simp; refine hK _ ?_; clear hK K) | (refine wpRO_skipF rfl rfl (fun K hK => ?_); go_simp; refine hK _ ?_; clear hK K)
      first | (refine wpRO_free rfl rfl _ (fun w' => by go_simp; exact Gives.mk _ _) (fun K hK => ?_); go_simp; refine hK _ ?_; clear hK K) | (refine wpRO_skipF rfl rfl (fun K hK => ?_); go_simp; refine hK _ ?_; clear hK K)
      first | (refine wpRO_free rfl rfl _ (fun w' => by go_simp; exact Gives.mk _ _) (fun K hK => ?_); go_simp; refine hK _ ?_; clear hK K) | (refine wpRO_skipF rfl rfl (fun K hK => ?_); go_simp; refine hK _ ?_; clear hK K)
      first | (refine wpRO_free rfl rfl _ (fun w' => by go_simp; exact Gives.mk _ _) (fun K hK => ?_); go_simp; refine hK _ ?_; clear hK K) | (refine wpRO_skipF rfl rfl (fun K hK => ?_); go_simp; refine hK _ ?_; clear hK K)
      first | (refine wpRO_free rfl rfl _ (fun w' => by go_simp; exact Gives.mk _ _) (fun K hK => ?_); go_simp; refine hK _ ?_; clear hK K) | (refine wpRO_skipF rfl rfl (fun K hK => ?_); go_simp; refine hK _ ?_; clear hK K)
      first | (refine wpRO_pure rfl rfl _ (fun w' hG => by obtain ⟨g0, g1⟩ := hG; exact gives_agg2 rfl (by decide +kernel) rfl (by assumption) (by assumption)) (fun K hK => ?_); go_simp; refine hK _ ?_; clear hK K) | (refine wpRO_pure rfl rfl _ (fun w' hG => by obtain ⟨g0, g1⟩ := hG; go_simp; exact Gives.mk _ _) (fun K hK => ?_); go_simp; refine hK _ ?_; clear hK K) | (refine wpRO_skip rfl rfl (fun K hK => ?_); go_simp; refine hK _ ?_; clear hK K)
      first | (refine wpRO_pure rfl rfl _ (fun w' hG => by obtain ⟨g0, g1⟩ := hG; exact gives_agg2 rfl (by decide +kernel) rfl (by assumption) (by assumption)) (fun K hK => ?_); go_simp; refine hK _ ?_; clear hK K) | (refine wpRO_pure rfl rfl _ (fun w' hG => by obtain ⟨g0, g1⟩ := hG; go_simp; exact Gives.mk _ _) (fun K hK => ?_); go_simp; refine hK _ ?_; clear hK K) | (refine wpRO_skip rfl rfl (fun K hK => ?_); go_simp; refine hK _ ?_; clear hK K)
      first | (refine wpRO_free rfl rfl _ (fun w' => by go_simp; exact Gives.mk _ _) (fun K hK => ?_); go_simp; refine hK _ ?_; clear hK K) | (refine wpRO_skipF rfl rfl (fun K hK => ?_); go_simp; refine hK _ ?_; clear hK K)
      refine wpRO_fin ?_
      go_wp2_with fail
      go_roundw
      case rel => exact ⟨k + 1, by omega, by go_num, HK.out.drew⟩
      case measure => simp [intOf]; omega
    · obtain rfl : k = l.length := by omega
      go_wp2_with fail
      go_ret
      exact ⟨rfl, HK.out⟩

/-- A Side, and two lists of entries beside it. -/
structure DD (w0 wr : World) (p : Nat) (rv sv rx qx : Value) (regs wait l1 l2 : List (Int × Int)) : Prop where
  hS : SideAt wr p rv sv regs wait
  hr : Sl wr 40 2 rx l1.length (entV l1)
  hq : Sl wr 40 2 qx l2.length (entV l2)
  hK : Keeps (fun _ => False) w0 wr
  fS : ∀ k, SideFp p rv sv k → w0.heap.size ≤ k
  fr : ∀ k, ownB rx k → w0.heap.size ≤ k
  fq : ∀ k, ownB qx k → w0.heap.size ≤ k
  ar : ∀ k, ownB rx k → ¬ SideFp p rv sv k
  aq : ∀ k, ownB qx k → ¬ SideFp p rv sv k
  ap : ∀ k, ownB rx k → ¬ ownB qx k

section
variable {w0 wr w2 : World} {p : Nat} {rv sv rx qx v2 : Value} {regs wait l1 l2 r2 q2 : List (Int × Int)} {e : Int × Int}

theorem DD.keep (h : DD w0 wr p rv sv rx qx regs wait l1 l2) (k : Keeps (fun _ => False) wr w2) : DD w0 w2 p rv sv rx qx regs wait l1 l2 :=
  ⟨h.hS.keep k (fun _ _ h => h), h.hr.keep k (fun _ _ h => h), h.hq.keep k (fun _ _ h => h), h.hK.trans k, h.fS, h.fr, h.fq, h.ar, h.aq, h.ap⟩

/-- The Side has turned. -/
theorem DD.side {rv' sv' : Value} (h : DD w0 wr p rv sv rx qx regs wait l1 l2) (hS : SideAt w2 p rv' sv' r2 q2) (hk : Keeps (SideFp p rv sv) wr w2) (hf : ∀ k, SideFp p rv' sv' k → SideFp p rv sv k ∨ wr.heap.size ≤ k) : DD w0 w2 p rv' sv' rx qx r2 q2 l1 l2 := by
  refine ⟨hS, h.hr.keep hk (fun g h1 => h.ar g h1), h.hq.keep hk (fun g h1 => h.aq g h1), h.hK.then hk (fun k hk => .inr (h.fS k hk)), fun k hk => ?_, h.fr, h.fq, fun k h1 h2 => ?_, fun k h1 h2 => ?_, h.ap⟩
  · rcases hf k hk with h1 | h1
    · exact h.fS k h1
    · exact Nat.le_trans h.hK.size h1
  · rcases hf k h2 with h3 | h3
    · exact h.ar k h1 h3
    · have := (h.hr.own h1).1; omega
  · rcases hf k h2 with h3 | h3
    · exact h.aq k h1 h3
    · have := (h.hq.own h1).1; omega

/-- The Side has been copied. -/
theorem DD.copy {p' : Nat} {rv' sv' : Value} (h : DD w0 wr p rv sv rx qx regs wait l1 l2) (hS : SideAt w2 p' rv' sv' regs wait) (hk : Keeps (fun _ => False) wr w2) (hf : ∀ k, SideFp p' rv' sv' k → wr.heap.size ≤ k) : DD w0 w2 p' rv' sv' rx qx regs wait l1 l2 := by
  refine ⟨hS, h.hr.keep hk (fun _ _ h => h), h.hq.keep hk (fun _ _ h => h), h.hK.trans hk, fun k hk => Nat.le_trans h.hK.size (hf k hk), h.fr, h.fq, fun k h1 h2 => ?_, fun k h1 h2 => ?_, h.ap⟩
  · have := (h.hr.own h1).1; have := hf k h2; omega
  · have := (h.hq.own h1).1; have := hf k h2; omega

/-- The first list is another one. -/
theorem DD.r (h : DD w0 wr p rv sv rx qx regs wait l1 l2) (hs : Sl w2 40 2 v2 r2.length (entV r2)) (hk : Keeps (ownB rx) wr w2) (ho : ∀ b, ownB v2 b → ownB rx b ∨ wr.heap.size ≤ b) : DD w0 w2 p rv sv v2 qx regs wait r2 l2 := by
  refine ⟨h.hS.keep hk (fun b h1 h2 => h.ar b h2 h1), hs, h.hq.keep hk (fun b h1 h2 => h.ap b h2 h1), h.hK.then hk (fun b hb => .inr (h.fr b hb)), h.fS, fun k hk => ?_, h.fq, fun k h1 h2 => ?_, h.aq, fun k h1 h2 => ?_⟩
  · rcases ho k hk with h1 | h1
    · exact h.fr k h1
    · exact Nat.le_trans h.hK.size h1
  · rcases ho k h1 with h3 | h3
    · exact h.ar k h3 h2
    · have := h.hS.fp_lt h2; omega
  · rcases ho k h1 with h3 | h3
    · exact h.ap k h3 h2
    · have := (h.hq.own h2).1; omega

/-- The second list is another one. -/
theorem DD.q (h : DD w0 wr p rv sv rx qx regs wait l1 l2) (hs : Sl w2 40 2 v2 q2.length (entV q2)) (hk : Keeps (ownB qx) wr w2) (ho : ∀ b, ownB v2 b → ownB qx b ∨ wr.heap.size ≤ b) : DD w0 w2 p rv sv rx v2 regs wait l1 q2 := by
  refine ⟨h.hS.keep hk (fun b h1 h2 => h.aq b h2 h1), h.hr.keep hk (fun b h1 h2 => h.ap b h1 h2), hs, h.hK.then hk (fun b hb => .inr (h.fq b hb)), h.fS, h.fr, fun k hk => ?_, h.ar, fun k h1 h2 => ?_, fun k h1 h2 => ?_⟩
  · rcases ho k hk with h1 | h1
    · exact h.fq k h1
    · exact Nat.le_trans h.hK.size h1
  · rcases ho k h1 with h3 | h3
    · exact h.aq k h3 h2
    · have := h.hS.fp_lt h2; omega
  · rcases ho k h2 with h3 | h3
    · exact h.ap k h1 h3
    · have := (h.hr.own h1).1; omega

/-- What waits is another list: appended to, and laid in. -/
theorem DD.wt (h : DD w0 wr p rv sv rx qx regs wait l1 l2) (hs : Sl w2 40 2 v2 q2.length (entV q2)) (hk : Keeps (ownB sv) wr w2) (ho : ∀ b, ownB v2 b → ownB sv b ∨ wr.heap.size ≤ b) : DD w0 (w2.setCell ⟨p, 1, none⟩ v2) p rv v2 rx qx regs q2 l1 l2 := by
  have kp := (Keeps.refl (· = p) w2).setCell (p := ⟨p, 1, none⟩) (.inl rfl) v2
  have hp2 := hk.blk h.hS.hp h.hS.pw
  have nv2 : ¬ ownB v2 p := fun hb => by
    obtain ⟨_, cur, hc⟩ := hs.own hb
    exact hp2.ne hc (by decide) rfl
  have nsp : ¬ ownB rv p := h.hS.pr
  refine h.side ⟨by simpa using hp2.setSame 1 v2, (h.hS.hr.keep hk (fun b h1 h2 => h.hS.ap b ⟨h1, h2⟩)).keep kp (by rintro b hb rfl; exact nsp hb), hs.keep kp (by rintro b hb rfl; exact nv2 hb), fun k hk => ?_⟩ ((hk.mono fun _ _ h => .inr (.inr h)).setCell (p := ⟨p, 1, none⟩) (.inl (.inl rfl)) _) (fun k hk => ?_)
  · rcases ho k hk.2 with h3 | h3
    · exact h.hS.ap k ⟨hk.1, h3⟩
    · have := (h.hS.hr.own hk.1).1; omega
  · rcases hk with h1 | h1 | h1
    · exact .inl (.inl h1)
    · exact .inl (.inr (.inl h1))
    · rcases ho k h1 with h3 | h3
      · exact .inl (.inr (.inr h3))
      · exact .inr h3

theorem DD.nS (h : DD w0 wr p rv sv rx qx regs wait l1 l2) {b T : Nat} {c : List Value} (hb : Blk wr b c T) (h1 : T ≠ 37) (h2 : T ≠ 40) : ¬ SideFp p rv sv b := by
  rintro (rfl | hf | hf)
  · exact hb.ne h.hS.hp h1 rfl
  · obtain ⟨_, cur, hc⟩ := h.hS.hr.own hf
    exact hb.ne hc h2 rfl
  · obtain ⟨_, cur, hc⟩ := h.hS.hw.own hf
    exact hb.ne hc h2 rfl

theorem DD.nr (h : DD w0 wr p rv sv rx qx regs wait l1 l2) {b T : Nat} {c : List Value} (hb : Blk wr b c T) (h2 : T ≠ 40) : ¬ ownB rx b := fun hf => by
  obtain ⟨_, cur, hc⟩ := h.hr.own hf
  exact hb.ne hc h2 rfl

theorem DD.nq (h : DD w0 wr p rv sv rx qx regs wait l1 l2) {b T : Nat} {c : List Value} (hb : Blk wr b c T) (h2 : T ≠ 40) : ¬ ownB qx b := fun hf => by
  obtain ⟨_, cur, hc⟩ := h.hq.own hf
  exact hb.ne hc h2 rfl

end

theorem entV_take : ∀ (l : List (Int × Int)) (n : Nat), entV (l.take n) = (entV l).take (n * 2)
  | [], n => by simp [entV]
  | e :: l, 0 => by simp [entV]
  | e :: l, n + 1 => by rw [List.take_succ_cons, entV_cons, entV_cons, entV_take l n, show (n + 1) * 2 = n * 2 + 1 + 1 by omega]; rfl

theorem entV_drop : ∀ (l : List (Int × Int)) (n : Nat), entV (l.drop n) = (entV l).drop (n * 2)
  | [], n => by simp [entV]
  | e :: l, 0 => by simp
  | e :: l, n + 1 => by rw [List.drop_succ_cons, entV_cons, entV_drop l n, show (n + 1) * 2 = n * 2 + 1 + 1 by omega]; rfl

/-- A slice of a slice of entries reads as its part. -/
theorem Rd.entTake {w : World} {g o : Nat} {cur : List Value} {W : List (Int × Int)} (hb : Blk w g cur 40) (hx : (cur.drop o).take (W.length * 2) = entV W) (i : Nat) (hi : i ≤ W.length) : Rd w (some ⟨g, o, none⟩) (entV (W.take i)) := by
  refine Rd.blk hb o _ ?_
  rw [entV_length, entV_take, ← hx, List.take_take, List.length_take]
  congr 1
  omega

theorem Rd.entDrop {w : World} {g o cap : Nat} {cur : List Value} {W : List (Int × Int)} (hb : Blk w g cur 40) (hx : (cur.drop o).take (W.length * 2) = entV W) (hc : W.length ≤ cap) (i : Nat) (hi : i ≤ W.length) :
    Rd w (if cap = i then some ⟨g, o, none⟩ else some ⟨g, o + i * 2, none⟩) (entV (W.drop i)) := by
  split
  · have : W.drop i = [] := List.drop_eq_nil_of_le (by omega)
    rw [this]; exact Rd.nil _ _
  · refine Rd.blk hb _ _ ?_
    rw [entV_length, entV_drop, ← hx, List.length_drop, List.drop_take, List.drop_drop, ← Nat.mul_sub_right_distrib]

/-- The place of the first entry of a guardian from k on; -1: there is none. -/
def fromG (x : Int) (l : List (Int × Int)) (k : Nat) : Int := if findG x (l.drop k) < (l.drop k).length then (k + findG x (l.drop k) : Nat) else -1

theorem fromG_end (x : Int) (l : List (Int × Int)) : fromG x l l.length = -1 := by unfold fromG; rw [if_neg]; simp

theorem fromG_zero (x : Int) (l : List (Int × Int)) : fromG x l 0 = idxG x l := by unfold fromG idxG; simp

theorem fromG_step {x : Int} {l : List (Int × Int)} {k : Nat} (h : k < l.length) : fromG x l k = if (l.getD k (0, 0)).1 = x then (k : Int) else fromG x l (k + 1) := by
  have hd : l.drop k = l.getD k (0, 0) :: l.drop (k + 1) := by rw [List.drop_eq_getElem_cons h]; simp [List.getD, h]
  unfold fromG
  rw [hd]
  generalize l.getD k (0, 0) = v
  by_cases hv : v.1 = x
  · simp [findG, hv]
  · simp only [findG, if_neg hv, List.length_cons]
    by_cases h2 : findG x (l.drop (k + 1)) < (l.drop (k + 1)).length
    · rw [if_pos h2, if_pos (by omega)]; omega
    · rw [if_neg h2, if_neg (by omega)]

/-- One step of SideDoes. -/
def sideStep (d g t : Int) (s : List (Int × Int) × List (Int × Int)) : List (Int × Int) × List (Int × Int) :=
  if d = 0 then (if 24 ≤ s.1.length + s.2.length then s else (s.1 ++ [(g, t)], s.2))
  else if d = 1 then (if findG g s.2 < s.2.length then (s.1, s.2.eraseIdx (findG g s.2)) else s)
  else if d = 2 then (if 24 ≤ s.1.length + s.2.length then s else (s.1, s.2 ++ [(g, t)]))
  else s

theorem sideStep_le {d g t : Int} {s : List (Int × Int) × List (Int × Int)} (h : s.1.length + s.2.length ≤ 24) : (sideStep d g t s).1.length + (sideStep d g t s).2.length ≤ 24 := by
  unfold sideStep
  repeat' split
  all_goals first | exact h | (simp only [List.length_append, List.length_cons, List.length_nil]; omega) | (simp only [List.length_eraseIdx]; split <;> omega)

end Go.Proofs.Ytjifdalflepcoaa
