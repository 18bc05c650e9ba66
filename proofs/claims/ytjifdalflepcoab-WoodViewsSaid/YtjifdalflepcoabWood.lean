/-
  What the functions of package wood do to a Wood in memory.
-/
import Derived.Test.YtjifdalflepcoabArena4
import Derived.Test.YtjifdalflepcoabArenaM
import Derived.Test.YtjifdalflepcoabCards
import Derived.Test.YtjifdalflepcoabSide3
import Derived.Test.YtjifdalflepcoabWo
namespace Go.Proofs.Ytjifdalflepcoab
open Go.RowKit
set_option linter.unusedVariables false
set_option linter.unusedSimpArgs false

/-- Where a wood lies. -/
structure WH where
  p : Nat
  pa : Nat
  g : Nat
  pc : Nat
  cb : Nat
  ps : Nat
  rv : Value
  wv : Value
  ro : Value

def WH.Own (h : WH) (k : Nat) : Prop := k = h.p ∨ (k = h.pa ∨ k = h.g) ∨ (k = h.pc ∨ k = h.cb) ∨ SideFp h.ps h.rv h.wv k ∨ ownB h.ro k

structure WoodAt (w : World) (h : WH) (O : Wo) : Prop where
  hp : Blk w h.p [.pointer (some ⟨h.pa, 0, none⟩), .pointer (some ⟨h.pc, 0, none⟩), .pointer (some ⟨h.ps, 0, none⟩), h.ro] 65
  ha : ArenaAt w h.pa h.g O.ar
  hc : CardsAt w h.pc h.cb O.ar.nur O.cd
  hs : SideAt w h.ps h.rv h.wv O.rg O.wt
  hr : Sl w 2 1 h.ro O.rt.length (O.rt.map (Value.int .i64))
  ap : ¬ ownB h.ro h.g
  ok : O.ok

section
variable {w w' : World} {h : WH} {O : Wo}

theorem WoodAt.own_lt (H : WoodAt w h O) {k : Nat} (hk : h.Own k) : k < w.heap.size := by
  rcases hk with rfl | (rfl | rfl) | (rfl | rfl) | hk | hk
  · exact H.hp.lt
  · exact H.ha.hp.lt
  · exact H.ha.hg.lt
  · exact H.hc.hp.lt
  · exact H.hc.hq.lt
  · exact H.hs.fp_lt hk
  · exact (H.hr.own hk).1

theorem WoodAt.keep {S : Nat → Prop} (H : WoodAt w h O) (k : Keeps S w w') (hn : ∀ b, h.Own b → ¬ S b) : WoodAt w' h O :=
  ⟨k.blk H.hp (hn _ (.inl rfl)), H.ha.keep k (hn _ (.inr (.inl (.inl rfl)))) (hn _ (.inr (.inl (.inr rfl)))), H.hc.keep k (hn _ (.inr (.inr (.inl (.inl rfl))))) (hn _ (.inr (.inr (.inl (.inr rfl))))),
    H.hs.keep k (fun b hb => hn b (.inr (.inr (.inr (.inl hb))))), H.hr.keep k (fun b hb => hn b (.inr (.inr (.inr (.inr hb))))), H.ap, H.ok⟩

/-- The type of a Side's blocks. -/
theorem SideAt.fp_type {w : World} {p b : Nat} {rv wv : Value} {regs wait : List (Int × Int)} (h : SideAt w p rv wv regs wait) (hb : SideFp p rv wv b) : ∃ c T, Blk w b c T ∧ (T = 129 ∨ T = 170) := by
  rcases hb with rfl | hb | hb
  · exact ⟨_, _, h.hp, .inl rfl⟩
  · obtain ⟨_, c, hc⟩ := h.hr.own hb; exact ⟨_, _, hc, .inr rfl⟩
  · obtain ⟨_, c, hc⟩ := h.hw.own hb; exact ⟨_, _, hc, .inr rfl⟩

theorem WoodAt.side_ne (H : WoodAt w h O) {b : Nat} {c : List Value} {T : TypeId} (hb : Blk w b c T) (h1 : T ≠ 129) (h2 : T ≠ 170) : ¬ SideFp h.ps h.rv h.wv b := fun hf => by
  obtain ⟨c', T', hc, hT⟩ := H.hs.fp_type hf
  rcases hT with rfl | rfl
  · exact hb.ne hc h1 rfl
  · exact hb.ne hc h2 rfl

theorem WoodAt.ro_ne (H : WoodAt w h O) {b : Nat} {c : List Value} {T : TypeId} (hb : Blk w b c T) (h1 : T ≠ 2) : ¬ ownB h.ro b := fun hf => by
  obtain ⟨_, c', hc⟩ := H.hr.own hf
  exact hb.ne hc h1 rfl

/-- The arena is another one. -/
theorem WoodAt.arena (H : WoodAt w h O) {A : Ar} (t : ArenaTo w h.pa h.g w' A) (hn : A.nur = O.ar.nur) : WoodAt w' h { O with ar := A } := by
  have k := t.k
  have n1 : ∀ {b : Nat} {c : List Value} {T : TypeId}, Blk w b c T → T ≠ 120 → T ≠ 2 → ¬ (b = h.pa ∨ b = h.g) := fun hb h1 h2 e => by
    rcases e with e | e
    · exact hb.ne H.ha.hp h1 e
    · exact hb.ne H.ha.hg h2 e
  refine ⟨k.blk H.hp (n1 H.hp (by decide) (by decide)), t.at_, ?_, H.hs.keep k (fun b hb => ?_), H.hr.keep k (fun b hb => ?_), H.ap, { H.ok with ha := t.at_.ok }⟩
  · show CardsAt w' h.pc h.cb A.nur O.cd
    rw [hn]; exact H.hc.keep k (n1 H.hc.hp (by decide) (by decide)) (n1 H.hc.hq (by decide) (by decide))
  · obtain ⟨c, T, hc, hT⟩ := H.hs.fp_type hb
    rcases hT with rfl | rfl
    · exact n1 hc (by decide) (by decide)
    · exact n1 hc (by decide) (by decide)
  · rintro (rfl | rfl)
    · exact H.ro_ne H.ha.hp (by decide) hb
    · exact H.ap hb

/-- The cards are others. -/
theorem WoodAt.cards (H : WoodAt w h O) {l : List Bool} (t : CardsAt w' h.pc h.cb O.ar.nur l) (hl : l.length ≤ 1000) (k : Keeps (· = h.cb) w w') : WoodAt w' h { O with cd := l } := by
  have n1 : ∀ {b : Nat} {c : List Value} {T : TypeId}, Blk w b c T → T ≠ 4 → ¬ (b = h.cb) := fun hb h1 e => hb.ne H.hc.hq h1 e
  refine ⟨k.blk H.hp (n1 H.hp (by decide)), H.ha.keep k (n1 H.ha.hp (by decide)) (n1 H.ha.hg (by decide)), t, H.hs.keep k (fun b hb => ?_), H.hr.keep k (fun b hb => ?_), H.ap, { H.ok with hc := hl }⟩
  · obtain ⟨c, T, hc, hT⟩ := H.hs.fp_type hb
    rcases hT with rfl | rfl
    · exact n1 hc (by decide)
    · exact n1 hc (by decide)
  · rintro rfl; exact H.ro_ne H.hc.hq (by decide) hb

theorem WoodAt.ptrs (H : WoodAt w h O) : w.cell? ⟨h.p, 0, none⟩ = some (.pointer (some ⟨h.pa, 0, none⟩)) ∧ w.cell? ⟨h.p, 1, none⟩ = some (.pointer (some ⟨h.pc, 0, none⟩)) ∧ w.cell? ⟨h.p, 2, none⟩ = some (.pointer (some ⟨h.ps, 0, none⟩)) ∧ w.cell? ⟨h.p, 3, none⟩ = some h.ro :=
  ⟨H.hp.cell 0, H.hp.cell 1, H.hp.cell 2, H.hp.cell 3⟩

/-- From world w, in which a wood lies at h, to w': there it is another one. -/
def WoodTo (w : World) (h : WH) (w' : World) (O : Wo) : Prop :=
  ∃ h', WoodAt w' h' O ∧ h'.p = h.p ∧ Keeps h.Own w w' ∧ ∀ k, h'.Own k → h.Own k ∨ w.heap.size ≤ k

theorem WoodAt.arenaTo (H : WoodAt w h O) {A : Ar} (t : ArenaTo w h.pa h.g w' A) (hn : A.nur = O.ar.nur) : WoodTo w h w' { O with ar := A } :=
  ⟨h, H.arena t hn, rfl, t.k.mono (fun k _ hk => .inr (.inl hk)), fun k hk => .inl hk⟩

theorem WoodTo.trans {O' : Wo} {w1 w2 : World} (t : WoodTo w h w1 O) (u : ∀ h1, WoodAt w1 h1 O → WoodTo w1 h1 w2 O') : WoodTo w h w2 O' := by
  obtain ⟨h1, H1, e1, k1, o1⟩ := t
  obtain ⟨h2, H2, e2, k2, o2⟩ := u h1 H1
  refine ⟨h2, H2, e2.trans e1, k1.then k2 o1, fun k hk => ?_⟩
  rcases o2 k hk with h | h
  · exact o1 k h
  · exact .inr (Nat.le_trans k1.size h)

theorem WoodTo.same (H : WoodAt w h O) (k : Keeps (fun _ => False) w w') : WoodTo w h w' O :=
  ⟨h, H.keep k (fun _ _ h => h), rfl, k.mono (fun _ _ h => h.elim), fun k hk => .inl hk⟩

theorem thingAt_no {A : Ar} {x : Int} (h : ¬ (x % 4 = 1 ∧ (A.thing (x / 4)).2.2 = 0)) : A.thingAt x = (0, 0, 0, 2) := if_neg h
theorem thingAt_yes {A : Ar} {x : Int} (h : x % 4 = 1 ∧ (A.thing (x / 4)).2.2 = 0) : A.thingAt x = (x / 4, (A.thing (x / 4)).1, (A.thing (x / 4)).2.1, 0) := if_pos h

theorem results_tmp4 {fn : Func} {t u v x : Tmp} (h : fn.results = #[.tmp t, .tmp u, .tmp v, .tmp x]) (tmps : Array Value) (P : Program) (w : World) :
    (results fn tmps).run P w = .ok (.tuple #[tmps.getD t undef, tmps.getD u undef, tmps.getD v undef, tmps.getD x undef]) w := by
  simp [results, h]

theorem ret_four {a b c d : Int} {y : Int × Int × Int × Int} (h : y = (a, b, c, d)) :
    Ending.returned (.tuple #[.int .i64 a, .int .i64 b, .int .i64 c, .int .i64 d]) = Ending.returned (.tuple #[.int .i64 y.1, .int .i64 y.2.1, .int .i64 y.2.2.1, .int .i64 y.2.2.2]) := by subst h; rfl

set_option maxHeartbeats 1000000 in
set_option maxRecDepth 100000 in
theorem thing_c (x : Int) (H : WoodAt w h O) :
    Calls Try.prog 91 #[.pointer (some ⟨h.p, 0, none⟩), .int .i64 x] w fun e w' =>
      e = .returned (.tuple #[.int .i64 (O.ar.thingAt x).1, .int .i64 (O.ar.thingAt x).2.1, .int .i64 (O.ar.thingAt x).2.2.1, .int .i64 (O.ar.thingAt x).2.2.2]) ∧ w = w' := by
  have HH := Lib.hid H
  obtain ⟨c0, -, -, -⟩ := H.ptrs
  have pl := H.hp.lt
  have HA := Lib.hid H.ha
  clear H
  by_cases hx : x % 4 = 1
  · by_cases hc : (O.ar.thing (x / 4)).2.2 = 0
    · have HE := Lib.hid (thingAt_yes ⟨hx, hc⟩)
      obtain ⟨⟨k, n, c⟩, hT⟩ : ∃ t, O.ar.thing (x / 4) = t := ⟨_, rfl⟩
      rw [hT] at hc HE
      dsimp only at hc HE
      subst hc
      have HT := Lib.hid hT; have HX := Lib.hid hx; clear hT hx
      go_enter Try.func91, Try.ntmps91
      go_wp2_with fail
      refine (At_yes x _ HX.out).mono ?_
      rintro e w1 ⟨rfl, rfl⟩
      go_wp2_with fail
      refine (Thing_c (x / 4) _ HA.out).mono ?_
      rintro e w1 ⟨rfl, rfl⟩
      rw [HT.out]
      dsimp only
      go_wp2_with fail
      ((try simp only [Exit.inBlock, Exit.then]); refine bodyPost_ret (results_tmp4 rfl _ _ _) rfl ?_)
      exact ⟨ret_four HE.out, rfl⟩
    · have HE := Lib.hid (thingAt_no (A := O.ar) (x := x) (fun h => hc h.2))
      obtain ⟨⟨k, n, c⟩, hT⟩ : ∃ t, O.ar.thing (x / 4) = t := ⟨_, rfl⟩
      rw [hT] at hc
      dsimp only at hc
      have hcb : (c != 0) = true := by simpa using hc
      have HT := Lib.hid hT; have HX := Lib.hid hx; clear hT hx hc
      go_enter Try.func91, Try.ntmps91
      go_wp2_with fail
      refine (At_yes x _ HX.out).mono ?_
      rintro e w1 ⟨rfl, rfl⟩
      go_wp2_with fail
      refine (Thing_c (x / 4) _ HA.out).mono ?_
      rintro e w1 ⟨rfl, rfl⟩
      rw [HT.out]
      dsimp only
      go_wp2_with fail
      ((try simp only [Exit.inBlock, Exit.then]); refine bodyPost_ret (results_tmp4 rfl _ _ _) rfl ?_)
      exact ⟨ret_four HE.out, rfl⟩
  · have HE := Lib.hid (thingAt_no (A := O.ar) (x := x) (fun h => hx h.1))
    have HX := Lib.hid hx; clear hx
    go_enter Try.func91, Try.ntmps91
    go_wp2_with fail
    refine (At_no x _ HX.out).mono ?_
    rintro e w1 ⟨rfl, rfl⟩
    go_wp2_with fail
    ((try simp only [Exit.inBlock, Exit.then]); refine bodyPost_ret (results_tmp4 rfl _ _ _) rfl ?_)
    exact ⟨ret_four HE.out, rfl⟩

set_option maxHeartbeats 1000000 in
set_option maxRecDepth 100000 in
theorem Kind_c (x : Int) (H : WoodAt w h O) :
    Calls Try.prog 55 #[.pointer (some ⟨h.p, 0, none⟩), .int .i64 x] w fun e w' =>
      e = .returned (.tuple #[.int .i64 (O.ar.thingAt x).2.1, .int .i64 (O.ar.thingAt x).2.2.1, .int .i64 (O.ar.thingAt x).2.2.2]) ∧ w = w' := by
  go_enter Try.func55, Try.ntmps55
  go_wp2_with fail
  refine (thing_c x H).mono ?_
  rintro e w1 ⟨rfl, rfl⟩
  go_wp2_with fail
  go_ret3
  exact ⟨rfl, rfl⟩

theorem get_kind {A : Ar} {x i : Int} (h : (A.thingAt x).2.2.2 ≠ 0 ∨ (A.thingAt x).2.1 = 5) : A.get x i = (0, 2) := if_pos h
theorem get_range {A : Ar} {x i : Int} (h : ¬ ((A.thingAt x).2.2.2 ≠ 0 ∨ (A.thingAt x).2.1 = 5)) (h2 : i < 0 ∨ (A.thingAt x).2.2.1 ≤ i) : A.get x i = (0, 1) := by unfold Ar.get; rw [if_neg h, if_pos h2]
theorem get_ok {A : Ar} {x i : Int} (h : ¬ ((A.thingAt x).2.2.2 ≠ 0 ∨ (A.thingAt x).2.1 = 5)) (h2 : ¬ (i < 0 ∨ (A.thingAt x).2.2.1 ≤ i)) : A.get x i = (A.load (x / 4 + 1 + i), 0) := by unfold Ar.get; rw [if_neg h, if_neg h2]

theorem thingAt_bounds (A : Ar) (x : Int) : 0 ≤ (A.thingAt x).2.2.1 ∧ (A.thingAt x).2.2.1 ≤ 12 := by
  unfold Ar.thingAt
  split
  · exact A.thing_fields _
  · decide

theorem thingAt_place {A : Ar} (hk : A.ok) {x : Int} (h : (A.thingAt x).2.2.2 = 0) : x % 4 = 1 ∧ (A.thing (x / 4)).2.2 = 0 ∧ 0 ≤ x / 4 ∧ x / 4 < A.ws.length ∧ (A.thingAt x).1 = x / 4 := by
  by_cases hc : x % 4 = 1 ∧ (A.thing (x / 4)).2.2 = 0
  · have := hk.use_lt (A.thing_use hc.2)
    refine ⟨hc.1, hc.2, this.1, this.2, ?_⟩
    rw [thingAt_yes hc]
  · rw [thingAt_no hc] at h; simp at h

set_option maxHeartbeats 1000000 in
set_option maxRecDepth 100000 in
theorem Get_c (x i : Int) (H : WoodAt w h O) :
    Calls Try.prog 45 #[.pointer (some ⟨h.p, 0, none⟩), .int .i64 x, .int .i64 i] w fun e w' =>
      e = .returned (.tuple #[.int .i64 (O.ar.get x i).1, .int .i64 (O.ar.get x i).2]) ∧ w = w' := by
  have HH := Lib.hid H
  obtain ⟨c0, -, -, -⟩ := H.ptrs
  have pl := H.hp.lt
  have HA := Lib.hid H.ha
  have hb := thingAt_bounds O.ar x
  have hpl := fun e => thingAt_place H.ok.ha (x := x) e
  have h4 := H.ok.ha.h4
  have gk := fun e => get_kind (A := O.ar) (x := x) (i := i) e
  have gr := fun e1 e2 => get_range (A := O.ar) (x := x) (i := i) e1 e2
  have go := fun e1 e2 => get_ok (A := O.ar) (x := x) (i := i) e1 e2
  have HTc := Lib.hid (thing_c x H)
  obtain ⟨⟨p, k, n, c⟩, hT⟩ : ∃ t, O.ar.thingAt x = t := ⟨_, rfl⟩
  rw [hT] at hb hpl gk gr go HTc
  dsimp only at hb hpl gk gr go HTc
  clear H hT
  by_cases hc : c = 0
  · obtain ⟨-, -, p0, p1, rfl⟩ := hpl hc
    subst hc
    by_cases hk : k = 5
    · have HG := Lib.hid (gk (.inr hk))
      subst hk
      clear gk gr go hpl
      go_enter Try.func45, Try.ntmps45
      go_wp2_with fail
      refine HTc.out.mono ?_
      rintro e w1 ⟨rfl, rfl⟩
      go_wp2_with fail
      go_ret2
      exact ⟨by rw [HG.out]; rfl, rfl⟩
    · have h1 : ¬ ((0 : Int) ≠ 0 ∨ k = 5) := fun h => by rcases h with h | h; exact h rfl; exact hk h
      have hkb : (k == 5) = false := by simpa using hk
      by_cases hi : i < 0 ∨ n ≤ i
      · have HG := Lib.hid (gr h1 hi)
        clear gk gr go hpl h1 hk
        by_cases hi0 : i < 0
        · have hd : decide (i < 0) = true := by simpa using hi0
          clear hi
          go_enter Try.func45, Try.ntmps45
          go_wp2_with fail
          refine HTc.out.mono ?_
          rintro e w1 ⟨rfl, rfl⟩
          go_wp2_with fail
          go_ret2
          exact ⟨by rw [HG.out]; rfl, rfl⟩
        · have hd : decide (i < 0) = false := by simpa using hi0
          have hd2 : decide (n ≤ i) = true := by simp; omega
          clear hi
          go_enter Try.func45, Try.ntmps45
          go_wp2_with fail
          refine HTc.out.mono ?_
          rintro e w1 ⟨rfl, rfl⟩
          go_wp2_with fail
          go_ret2
          exact ⟨by rw [HG.out]; rfl, rfl⟩
      · have HG := Lib.hid (go h1 hi)
        have hd : decide (i < 0) = false := by simp; omega
        have hd2 : decide (n ≤ i) = false := by simp; omega
        have hi0 : 0 ≤ i := by omega
        have hi1 : i < n := by omega
        clear gk gr go hpl h1 hk hi
        go_enter Try.func45, Try.ntmps45
        go_wp2_with fail
        refine HTc.out.mono ?_
        rintro e w1 ⟨rfl, rfl⟩
        go_wp2_with fail
        refine (Load_c (x / 4 + 1 + i) _ HA.out).mono ?_
        rintro e w1 ⟨rfl, rfl⟩
        go_wp2_with fail
        go_ret2
        exact ⟨by rw [HG.out]; rfl, rfl⟩
  · have HG := Lib.hid (gk (.inl hc))
    have hcb : (c != 0) = true := by simpa using hc
    clear gk gr go hpl hc
    go_enter Try.func45, Try.ntmps45
    go_wp2_with fail
    refine HTc.out.mono ?_
    rintro e w1 ⟨rfl, rfl⟩
    go_wp2_with fail
    go_ret2
    exact ⟨by rw [HG.out]; rfl, rfl⟩
end

end Go.Proofs.Ytjifdalflepcoab
