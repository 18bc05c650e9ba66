/-
  What the functions of package side do to a Side in memory.
-/
import Derived.Test.YtjifdalflepcoabProg
import Derived.Test.YtjifdalflepcoabRegion
namespace Go.Proofs.Ytjifdalflepcoab
open Go.RowKit
set_option linter.unusedVariables false
set_option linter.unusedSimpArgs false

/-- Entries as cells. -/
def entV (l : List (Int × Int)) : List Value := l.flatMap fun e => [.int .i64 e.1, .int .i64 e.2]

theorem entV_length (l : List (Int × Int)) : (entV l).length = l.length * 2 := by
  induction l with
  | nil => rfl
  | cons e l ih => simp [entV] at ih ⊢; omega

/-- At block p lies a Side: what is registered, and what waits. -/
structure SideAt (w : World) (p : Nat) (rv wv : Value) (regs wait : List (Int × Int)) : Prop where
  hp : Blk w p [rv, wv] 129
  hr : Sl w 170 2 rv regs.length (entV regs)
  hw : Sl w 170 2 wv wait.length (entV wait)
  ap : ∀ k, ¬ (ownB rv k ∧ ownB wv k)

theorem SideAt.pr {w : World} {p : Nat} {rv wv : Value} {regs wait : List (Int × Int)} (h : SideAt w p rv wv regs wait) : ¬ ownB rv p := fun hk => by
  obtain ⟨_, cur, hc⟩ := h.hr.own hk
  exact (hc.ne h.hp (by decide)) rfl
theorem SideAt.pw {w : World} {p : Nat} {rv wv : Value} {regs wait : List (Int × Int)} (h : SideAt w p rv wv regs wait) : ¬ ownB wv p := fun hk => by
  obtain ⟨_, cur, hc⟩ := h.hw.own hk
  exact (hc.ne h.hp (by decide)) rfl

/-- The blocks of a Side. -/
def SideFp (p : Nat) (rv wv : Value) (k : Nat) : Prop := k = p ∨ ownB rv k ∨ ownB wv k

theorem SideAt.fp_lt {w : World} {p : Nat} {rv wv : Value} {regs wait : List (Int × Int)} (h : SideAt w p rv wv regs wait) {k : Nat} (hk : SideFp p rv wv k) : k < w.heap.size := by
  rcases hk with rfl | hk | hk
  · exact h.hp.lt
  · exact (h.hr.own hk).1
  · exact (h.hw.own hk).1

theorem SideAt.keep {w w' : World} {p : Nat} {rv wv : Value} {regs wait : List (Int × Int)} {S : Nat → Prop} (h : SideAt w p rv wv regs wait) (k : Keeps S w w') (hn : ∀ b, SideFp p rv wv b → ¬ S b) : SideAt w' p rv wv regs wait :=
  ⟨k.blk h.hp (hn p (.inl rfl)), h.hr.keep k (fun g hg => hn g (.inr (.inl hg))), h.hw.keep k (fun g hg => hn g (.inr (.inr hg))), h.ap⟩

/-- From world w, in which the Side at p is (rv, wv), to w': it holds these then; nothing else that was there has turned. -/
def SideTo (w : World) (p : Nat) (rv wv : Value) (w' : World) (regs wait : List (Int × Int)) : Prop :=
  ∃ rv' wv', SideAt w' p rv' wv' regs wait ∧ Keeps (SideFp p rv wv) w w' ∧ ∀ k, SideFp p rv' wv' k → SideFp p rv wv k ∨ w.heap.size ≤ k

set_option maxHeartbeats 1000000 in
set_option maxRecDepth 100000 in
theorem Full_c (p : Nat) (rv wv : Value) (regs wait : List (Int × Int)) (w : World) (h : SideAt w p rv wv regs wait) (h1 : regs.length ≤ 1000000) (h2 : wait.length ≤ 1000000) :
    Calls Try.prog 145 #[.pointer (some ⟨p, 0, none⟩)] w fun e w' => e = .returned (.bool (decide (24 ≤ regs.length + wait.length))) ∧ Keeps (fun _ => False) w w' := by
  obtain ⟨ro, rc, rfl, _, _, _⟩ := h.hr.rd
  obtain ⟨wo, wc, rfl, _, _, _⟩ := h.hw.rd
  have c0 : w.cell? ⟨p, 0, none⟩ = _ := h.hp.cell 0
  have c1 : w.cell? ⟨p, 1, none⟩ = _ := h.hp.cell 1
  simp only [List.getElem?_cons_zero, List.getElem?_cons_succ] at c0 c1
  have hw : IntKind.i64.wrap ((regs.length : Int) + (wait.length : Int)) = (regs.length : Int) + (wait.length : Int) := IntWalk.i64_in _ (by omega)
  go_enter Try.func145, Try.ntmps145
  go_wp2_with fail
  refine wp_region_ord [(0, 0), (1, 0), (2, 0), (5, 0), (6, 0), (7, 0), (3, 0), (4, 0), (8, 0), (9, 0), (10, 0), (11, 0), (12, 0)] (fun w' => w'.cell? ⟨p, 0, none⟩ = some (.slice ro regs.length rc) ∧ w'.cell? ⟨p, 1, none⟩ = some (.slice wo wait.length wc)) (by kernel_rfl) (by kernel_rfl) ⟨c0, c1⟩ ?_
  iterate 13 (refine wpOrd_pure rfl rfl _ (fun w' hG => by obtain ⟨g0, g1⟩ := hG; go_simp; exact Gives.mk _ _) (fun K hK => ?_); go_simp; refine hK _ ?_; clear hK K)
  refine wpOrd_end ?_
  go_wp2_with fail
  go_ret
  refine ⟨ret_bool ?_, (Keeps.refl _ _).drew⟩
  congr 1
  simp only [eq_iff_iff]
  omega

theorem info_entry : (Try.prog.info? 170).map (fun i => (i.zero, i.size, i.bytes)) = some (some (.agg #[.int .i64 0, .int .i64 0]), 2, 16) := by kernel_rfl

set_option maxHeartbeats 1000000 in
set_option maxRecDepth 100000 in
theorem Reg_full (p : Nat) (rv wv : Value) (regs wait : List (Int × Int)) (g t : Int) (w : World) (h : SideAt w p rv wv regs wait) (h1 : regs.length ≤ 1000000) (h2 : wait.length ≤ 1000000) (hf : 24 ≤ regs.length + wait.length) :
    Calls Try.prog 115 #[.pointer (some ⟨p, 0, none⟩), .agg #[.int .i64 g, .int .i64 t]] w fun e w' => e = .returned (.bool false) ∧ Keeps (fun _ => False) w w' := by
  have H := Lib.hid (h.keep ((Keeps.refl (fun _ => False) w).alloc (.cells #[.int .i64 g, .int .i64 t] 170)) (fun _ _ h => h)); clear h
  have hd : decide (24 ≤ regs.length + wait.length) = true := by simpa using hf
  go_enter Try.func115, Try.ntmps115
  go_wp2_with fail
  refine (Full_c p rv wv regs wait _ H.out h1 h2).mono ?_
  rintro e w1 ⟨rfl, hk⟩
  rw [hd]
  go_wp2_with fail
  go_ret
  exact ⟨rfl, ((Keeps.refl _ _).alloc _).trans hk⟩

set_option maxHeartbeats 1000000 in
set_option maxRecDepth 100000 in
theorem Reg_room (p : Nat) (rv wv : Value) (regs wait : List (Int × Int)) (g t : Int) (w : World) (h : SideAt w p rv wv regs wait) (h1 : regs.length ≤ 1000000) (h2 : wait.length ≤ 1000000) (hf : ¬ 24 ≤ regs.length + wait.length) :
    Calls Try.prog 115 #[.pointer (some ⟨p, 0, none⟩), .agg #[.int .i64 g, .int .i64 t]] w fun e w' => e = .returned (.bool true) ∧ SideTo w p rv wv w' (regs ++ [(g, t)]) wait := by
  obtain ⟨i0, hi, hz0, hz1, hz2⟩ := info_parts info_entry
  have Hi := Lib.hid hi; have Hz0 := Lib.hid hz0; have Hz1 := Lib.hid hz1; have Hz2 := Lib.hid hz2; clear hi hz0 hz1 hz2
  have HW := Lib.hid h
  have H := Lib.hid (h.keep ((Keeps.refl (fun _ => False) w).alloc (.cells #[.int .i64 g, .int .i64 t] 170)) (fun _ _ h => h))
  have HB := Lib.hid (Blk.newAt (w := w) (b := w.heap.size) (T := 170) #[.int .i64 g, .int .i64 t] rfl rfl); clear h
  have hd : decide (24 ≤ regs.length + wait.length) = false := by simpa using hf
  obtain ⟨ro, rc, rfl, _, _, _⟩ := HW.out.hr.rd
  go_enter Try.func115, Try.ntmps115
  go_wp2_with fail
  refine (Full_c p _ wv regs wait _ H.out h1 h2).mono ?_
  rintro e w1 ⟨rfl, hk⟩
  rw [hd]
  have HB1 := Lib.hid (hk.blk HB.out (fun h => h))
  have HW1 := Lib.hid (H.out.keep hk (fun _ _ h => h))
  have HK1 := Lib.hid (((Keeps.refl (SideFp p (.slice ro regs.length rc) wv) w).alloc (.cells #[.int .i64 g, .int .i64 t] 170)).trans (hk.mono fun _ _ h => h.elim))
  clear hk
  have c0 := HW1.out.hp.cell 0
  have b0 := HB1.out.cell 0; have b1 := HB1.out.cell 1
  have f0 := HW1.out.hp.free 0
  simp only [List.getElem?_cons_zero, List.getElem?_cons_succ] at c0 b0 b1
  go_wp2_with fail
  refine wp_region_ord [(0, 0), (1, 0), (2, 0), (3, 0), (4, 0), (5, 0), (6, 1), (7, 1), (8, 0), (9, 0), (10, 2)] (fun w' => w'.cell? ⟨p, 0, none⟩ = some (.slice ro regs.length rc) ∧ w'.cell? ⟨w.heap.size, 0, none⟩ = some (.int .i64 g) ∧ w'.cell? ⟨w.heap.size, 1, none⟩ = some (.int .i64 t)) (by kernel_rfl) (by kernel_rfl) ⟨c0, b0, b1⟩ ?_
  iterate 6 (refine wpOrd_pure rfl rfl _ (fun w' hG => by obtain ⟨g0, g1, g2⟩ := hG; go_simp; exact Gives.mk _ _) (fun K hK => ?_); go_simp; refine hK _ ?_; clear hK K)
  refine wpOrd_run rfl rfl (fun K hK => ?_); unfold gRun; go_simp; refine hK _ _ ?_ ?_
  · have k := (Keeps.refl (fun _ => False) w1).alloc (.cells #[.int .i64 g, .int .i64 t] 170)
    have b := k.blk HW1.out.hp (fun h => h)
    have b' := k.blk HB1.out (fun h => h)
    exact ⟨b.cell 0, b'.cell 0, b'.cell 1⟩
  clear hK K
  refine wpOrd_run rfl rfl (fun K hK => ?_)
  refine gRun_app (.tmp 11) (.tmp 13) 127 rfl 170 i0 (.agg #[.int .i64 0, .int .i64 0]) 2 16 Try.underlying127 Hi.out Hz0.out Hz1.out Hz2.out rfl (by decide) _ regs.length (entV regs) rfl ?ha ⟨w1.heap.size, 0, none⟩ 1 1 [.int .i64 g, .int .i64 t] rfl rfl ?hb ?hc ?hd ?he ?hf
  case ha => exact HW1.out.hr.keep (((Keeps.refl (fun _ => False) w1).alloc _).drew) (fun _ _ h => h)
  case hb => exact news_at w1 170 #[.int .i64 g, .int .i64 t]
  case hc => intro u hu; simp at hu; rcases hu with rfl | rfl <;> rfl
  case hd => unfold maxLen; omega
  case he => omega
  case hf =>
    intro v2 w2 hs2 hk2 ho2
    have hka : Keeps (fun _ => False) w1 ((w1.alloc (.cells #[.int .i64 g, .int .i64 t] 170)).drew) := ((Keeps.refl (fun _ => False) w1).alloc _).drew
    have hp2 := hk2.blk (hka.blk HW1.out.hp (fun h => h)) HW1.out.pr
    have hw2 := (HW1.out.hw.keep hka (fun _ _ h => h)).keep hk2 (fun b hb hr => HW1.out.ap b ⟨hr, hb⟩)
    have hb2 := hk2.blk (hka.blk HB1.out (fun h => h)) (fun hr => by have := (HW.out.hr.own hr).1; omega)
    refine hK _ _ ⟨hp2.cell 0, hb2.cell 0, hb2.cell 1⟩ ?_
    clear hK K
    have hs3 : Sl w2 170 2 v2 (regs ++ [(g, t)]).length (entV (regs ++ [(g, t)])) := by simpa [entV] using hs2
    obtain ⟨vo, vc, rfl, _, _, _⟩ := hs3.rd
    have HK2 : Hid (Keeps (SideFp p (.slice ro regs.length rc) wv) w w2) := (HK1.out.trans (hka.mono fun _ _ h => h.elim)).trans (hk2.mono fun k _ hk => .inr (.inl hk))
    have HO : Hid (∀ k, ownB (.slice vo (regs ++ [(g, t)]).length vc) k → ownB (.slice ro regs.length rc) k ∨ w.heap.size ≤ k) := fun k hk => by
      rcases ho2 k hk with h | h
      · exact .inl h
      · have := HK1.out.size; simp at h; exact .inr (by omega)
    have HP := Lib.hid hp2; have HW2 := Lib.hid hw2; have HS := Lib.hid hs3
    have HWL : Hid (∀ k, ownB wv k → k < w.heap.size) := fun k hk => (HW.out.hw.own hk).1
    clear hs2 hk2 ho2 hka hp2 hw2 hb2 hs3
    have d0 := HP.out.cell 0
    have e0 := HP.out.free 0
    simp only [List.getElem?_cons_zero] at d0
    iterate 2 (refine wpOrd_pure rfl rfl _ (fun w' hG => by obtain ⟨g0, g1, g2⟩ := hG; go_simp; exact Gives.mk _ _) (fun K hK => ?_); go_simp; refine hK _ ?_; clear hK K)
    refine wpOrd_last rfl rfl (fun K hK => ?_); unfold gRun; go_simp; refine hK _ _ ?_
    clear hK K
    refine wpOrd_end ?_
    go_wp2_with fail
    go_ret
    refine ⟨rfl, _, _, ⟨by simpa using HP.out.setSame 0 _, HS.out.keep ((Keeps.refl (· = p) w2).setCell (p := ⟨p, 0, none⟩) (.inl rfl) _) ?_, HW2.out.keep ((Keeps.refl (· = p) w2).setCell (p := ⟨p, 0, none⟩) (.inl rfl) _) ?_, ?_⟩, HK2.out.setCell (p := ⟨p, 0, none⟩) (.inl (.inl rfl)) _, ?_⟩
    · rintro b hb rfl
      obtain ⟨_, cur, hc⟩ := HS.out.own hb
      exact (hc.ne HP.out (by decide)) rfl
    · rintro b hb rfl
      obtain ⟨_, cur, hc⟩ := HW2.out.own hb
      exact (hc.ne HP.out (by decide)) rfl
    · rintro k ⟨h1, h2⟩
      rcases HO.out k h1 with h | h
      · exact HW.out.ap k ⟨h, h2⟩
      · have := HWL.out k h2; omega
    · rintro k (h | h | h)
      · exact .inl (.inl h)
      · rcases HO.out k h with h | h
        · exact .inl (.inr (.inl h))
        · exact .inr h
      · exact .inl (.inr (.inr h))

end Go.Proofs.Ytjifdalflepcoab
