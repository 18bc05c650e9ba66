/-
  Parts of the proof, merged: what the functions do, and plain laws.
-/
import Derived.Test.YtjifdalflepcoabMCdsP4
import Derived.Laws.EntriesVeiled
import Derived.Test.YtjifdalflepcoabMCdsP1
import Derived.Test.YtjifdalflepcoabMCdsP0
import Derived.Test.YtjifdalflepcoabMCdsP2
import Derived.Test.YtjifdalflepcoabMCdsP3
namespace Go.Proofs.Ytjifdalflepcoab
open Go.RowKit
set_option linter.unusedVariables false
set_option linter.unusedSimpArgs false

/-- The cut, and what stands beside. -/
structure CS (w : World) (H : CH) (wv ev rv qv : Value) (rg : List (Int × Int)) (d : Md) : Prop where
  J : CutJ w H wv ev d.s d.c
  S : SideAt w H.ps rv qv rg d.q
  ok : ScOk d.s d.c
  q : QOk d.q
  nb : H.base = d.s.A.nur
  ql : d.q.length ≤ 1000000

def CSTo (w : World) (H : CH) (wv ev rv qv : Value) (rg : List (Int × Int)) (d : Md) (w' : World) : Prop :=
  ∃ wv' ev', CS w' H wv' ev' rv qv rg d ∧ Keeps (fun k => H.Own wv ev k ∨ SideFp H.ps rv qv k) w w' ∧ ∀ k, H.Own wv' ev' k → H.Own wv ev k ∨ w.heap.size ≤ k

/-- A number in memory. -/
def cellI (w : World) (b i : Nat) : Int := match w.cell? ⟨b, i, none⟩ with | some (.int _ n) => n | _ => 0

theorem cellI_of {w : World} {b i : Nat} {k : IntKind} {n : Int} (h : w.cell? ⟨b, i, none⟩ = some (.int k n)) : cellI w b i = n := by unfold cellI; rw [h]

section
variable {w w' : World} {H : CH} {wv ev rv qv : Value} {rg : List (Int × Int)} {d : Md} {s : Ms} {c : Int}

theorem CutJ.side_apart {wt : List (Int × Int)} (J : CutJ w H wv ev s c) (S : SideAt w H.ps rv qv rg wt) {k : Nat} (hk : H.Own wv ev k) : ¬ SideFp H.ps rv qv k := fun hs => by
  obtain ⟨_, T, h, hT⟩ := J.own_type hk
  obtain ⟨_, U, h', hU⟩ := S.fp_type hs
  refine h.ne h' ?_ rfl
  rcases hT with rfl | rfl | rfl | rfl | rfl <;> rcases hU with rfl | rfl <;> decide

theorem CS.keep {S : Nat → Prop} (C : CS w H wv ev rv qv rg d) (k : Keeps S w w') (h1 : ∀ b, H.Own wv ev b → ¬ S b) (h2 : ∀ b, SideFp H.ps rv qv b → ¬ S b) : CS w' H wv ev rv qv rg d :=
  ⟨C.J.keep k h1, C.S.keep k h2, C.ok, C.q, C.nb, C.ql⟩

theorem CS.same (C : CS w H wv ev rv qv rg d) (k : Keeps (fun _ => False) w w') : CS w' H wv ev rv qv rg d := C.keep k (fun _ _ h => h) (fun _ _ h => h)

theorem CSTo.refl (C : CS w H wv ev rv qv rg d) (k : Keeps (fun _ => False) w w') : CSTo w H wv ev rv qv rg d w' := ⟨wv, ev, C.same k, k.mono (fun _ _ h => h.elim), fun _ h => .inl h⟩

theorem CSTo.join {w1 : World} {wv1 ev1 : Value} (k1 : Keeps (fun k => H.Own wv ev k ∨ SideFp H.ps rv qv k) w w1) (o1 : ∀ k, H.Own wv1 ev1 k → H.Own wv ev k ∨ w.heap.size ≤ k) (t : CSTo w1 H wv1 ev1 rv qv rg d w') : CSTo w H wv ev rv qv rg d w' := by
  obtain ⟨a2, b2, J2, k2, o2⟩ := t
  refine ⟨a2, b2, J2, k1.then k2 (fun k hk => ?_), fun k hk => ?_⟩
  · rcases hk with hk | hk
    · exact (o1 k hk).imp .inl id
    · exact .inl (.inr hk)
  · rcases o2 k hk with h | h
    · exact o1 k h
    · exact .inr (Nat.le_trans k1.size h)

/-- Only the cut is another one. -/
theorem CS.cut (C : CS w H wv ev rv qv rg d) (t : CutTo w H wv ev s c w') (h : ScOk s c) (hn : s.A.nur = d.s.A.nur) : CSTo w H wv ev rv qv rg ⟨s, c, d.q⟩ w' := by
  obtain ⟨a, b, J, k, o⟩ := t
  exact ⟨a, b, ⟨J, C.S.keep k (fun b hb hk => C.J.side_apart C.S hk hb), h, C.q, by rw [hn]; exact C.nb, C.ql⟩, k.mono (fun _ _ h => .inl h), o⟩

theorem CutJ.setC (J : CutJ w H wv ev s c) (c2 : Int) : CutTo w H wv ev s c2 (w.setCell ⟨H.pc, 2, none⟩ (.int .i64 c2)) := by
  have set := (Keeps.refl (· = H.pc) w).setCell (p := ⟨H.pc, 2, none⟩) (.inl rfl) (.int .i64 c2)
  have ne : ∀ {b : Nat} {l : List Value} {T : TypeId}, Blk w b l T → T ≠ 173 → ¬ b = H.pc := fun hb hT => hb.ne J.hc hT
  exact ⟨wv, ev, ⟨set.blk J.hp (ne J.hp (by decide)), J.ha.keep set (ne J.ha.hp (by decide)) (ne J.ha.hg (by decide)), by simpa using J.hc.setSame 2 (.int .i64 c2), J.hw.keep set (fun b hb => by obtain ⟨_, l, h⟩ := J.hw.own hb; exact ne h (by decide)),
    J.he.keep set (fun b hb => by obtain ⟨_, l, h⟩ := J.he.own hb; exact ne h (by decide)), J.ap⟩, set.mono (fun k _ hk => .inr (.inr (.inr (.inl hk)))), fun k hk => .inl hk⟩

/-! What the cut tells of guardians and things. -/

def mLivV (pc : Nat) : Value := .agg #[.func (.func 146) #[.pointer (some ⟨pc, 0, none⟩)] #[], .func (.func 117) #[.pointer (some ⟨pc, 0, none⟩)] #[], .func (.func 147) #[.pointer (some ⟨pc, 0, none⟩)] #[]]

set_option maxHeartbeats 1000000 in
set_option maxRecDepth 100000 in
theorem mLiving_c (J : CutJ w H wv ev s c) :
    Calls Try.prog 150 #[.pointer (some ⟨H.pc, 0, none⟩)] w fun e w' => e = .returned (mLivV H.pc) ∧ Keeps (fun _ => False) w w' := by
  have cl := J.hc.lt
  clear J
  go_enter Try.func150, Try.ntmps150
  go_wp2_with fail
  go_wp2_with fail
  refine bodyPost_ret (v := mLivV H.pc) (by simp [mLivV, results, Try.results150, go_sem]) rfl ⟨rfl, ?_⟩
  exact (Keeps.refl _ _).alloc _

/-- Bring, as Wake has it. -/
def mWakeL (H : CH) (wv ev : Value) (wk ep : List Int) (c : Int) : Liv Try.prog H.ps Ar where
  J := fun w A F => CutJ w H wv ev ⟨A, wk, ep⟩ c ∧ F = H.Own wv ev
  D := fun _ x => R64 x
  DK := fun _ x => R64 x
  alive := mAlive
  keep := fun A q x => ((mKp A x).1, q, (mKp A x).2)
  now := mNow
  fa := 146
  fk := 117
  fn := 147
  a1 := #[.pointer (some ⟨H.pc, 0, none⟩)]
  a2 := #[]
  k1 := #[.pointer (some ⟨H.pc, 0, none⟩)]
  k2 := #[]
  n1 := #[.pointer (some ⟨H.pc, 0, none⟩)]
  n2 := #[]
  ea := fun args w => by kernel_rfl
  ek := fun args w => by kernel_rfl
  en := fun args w => by kernel_rfl
  J_keep := fun h k hn => ⟨h.1.keep k (by rw [← h.2]; exact hn), h.2⟩
  J_lt := fun h hk => h.1.own_lt (by rw [← h.2]; exact hk)
  alive_c := fun w t F x hJ _ => (mAlive_c x hJ.1).mono (by rintro e w' ⟨rfl, rfl⟩; exact ⟨rfl, Keeps.refl _ _⟩)
  now_c := fun w t F x hJ _ => (mNow_c x hJ.1).mono (by rintro e w' ⟨rfl, rfl⟩; exact ⟨rfl, Keeps.refl _ _⟩)
  keep_c := fun w t F rv qv regs wait x hJ hS hA hx _ _ => by
    obtain ⟨hJ, rfl⟩ := hJ
    refine (mBring_c x hJ).mono ?_
    rintro e w' ⟨rfl, t⟩
    obtain ⟨a, b, J2, k2, o2⟩ := hJ.arenaTo t
    exact ⟨rfl, H.Own wv ev, ⟨hJ.arena t, rfl⟩, hS.keep k2 (fun b hb hk => hA b ⟨hk, hb⟩), hA, k2.mono (fun _ _ h => .inl h), fun k hk => .inl hk⟩
  DK_D := fun h => h
  DK_keep := fun _ h => h
  D_keep := fun _ h => h
  D_new := fun h => mNow_R64 h
  D_wait := fun _ h => h
  keep_len := rfl

/-- In the midst of a drain. -/
def DrainIn (w : World) (H : CH) (wv ev rv qv : Value) (rg : List (Int × Int)) (d : Md) (m : Value) (wr : World) : Prop :=
  (∃ (n : Nat) (d1 : Md), m = .bool true ∧ CSTo w H wv ev rv qv rg d1 wr ∧ mDrain 2000 d = mDrain (n + 1) d1 ∧ 1998 ≤ n + d1.c ∧ (n = 1999 ∨ d1.c < d1.s.A.grn)) ∨
    (m = .bool false ∧ CSTo w H wv ev rv qv rg (mDrain 2000 d) wr)

def drainMu (H : CH) (m : Value) (wr : World) : Nat := (4000 - cellI wr H.pc 2 - cellI wr H.pa 3).toNat + match m with | .bool true => 1 | _ => 0

theorem drainMu_of (C : CS w H wv ev rv qv rg d) (b : Bool) : drainMu H (.bool b) w = (4000 - d.c - d.s.A.grn).toNat + if b then 1 else 0 := by
  unfold drainMu
  rw [cellI_of C.J.cells.2.2.1, cellI_of C.J.ha.cells.2.2.2]
  cases b <;> simp

/-- In the midst of the scan. -/
def ScanI (w : World) (H : CH) (wv ev rv qv : Value) (rg : List (Int × Int)) (d : Md) (wr : World) : Prop :=
  ∃ (n : Nat) (s : Ms) (c : Int), CSTo w H wv ev rv qv rg ⟨s, c, d.q⟩ wr ∧ mScan 2000 d.s d.c = mScan n s c ∧ 1300 ≤ n + c

set_option maxHeartbeats 4000000 in
set_option maxRecDepth 100000 in
theorem mDrain_c (C : CS w H wv ev rv qv rg d) :
    Calls Try.prog 119 #[.pointer (some ⟨H.pc, 0, none⟩)] w fun e w' => e = .returned (.tuple #[]) ∧ CSTo w H wv ev rv qv rg (mDrain 2000 d) w' := by
  have HC := Lib.hid C
  clear C
  go_enter Try.func119, Try.ntmps119
  go_wp2_with fail
  go_loopw [2] (fun m wr => DrainIn w H wv ev rv qv rg d m wr) (fun m wr => drainMu H m wr)
  case atStart => exact .inl ⟨1999, d, rfl, CSTo.refl HC.out (Keeps.refl _ _), rfl, by have := HC.out.ok.c0; omega, .inl rfl⟩
  case round =>
    rcases hrel with ⟨n, d1, rfl, ht, he, hn, hg⟩ | ⟨rfl, ht⟩
    · obtain ⟨wv1, ev1, C1, k1, o1⟩ := ht
      have HMU := Lib.hid (drainMu_of C1 true)
      have HC1 := Lib.hid C1; have K1 := Lib.hid k1; have O1 := Lib.hid o1; have HE := Lib.hid he; have HN := Lib.hid hn; have HGR := Lib.hid hg
      clear C1 k1 o1 he hn hg
      obtain ⟨w1, rfl⟩ : ∃ x : World, x = wr := ⟨wr, rfl⟩
      go_wp2_with fail
      go_loopw [12] (fun _ wr => ScanI w1 H wv1 ev1 rv qv rg d1 wr) (fun _ wr => (3000 - cellI wr H.pc 2).toNat)
      case atStart => exact ⟨2000, d1.s, d1.c, CSTo.refl HC1.out (Keeps.refl _ _), rfl, by have := HC1.out.ok.c0; omega⟩
      case round =>
        obtain ⟨m, s2, c2, ⟨wv2, ev2, C2, k2, o2⟩, he2, hm2⟩ := hrel
        have HC2 := Lib.hid C2; have K2 := Lib.hid k2; have O2 := Lib.hid o2; have HE2 := Lib.hid he2; have HM2 := Lib.hid hm2
        have q2 := C2.J.cells.2.2.1
        have HQ := Lib.hid (cellI_of q2)
        have cl := C2.J.hc.lt
        have b0 := C2.ok.c0; have b1 := C2.ok.c1; have g3 := C2.ok.ok.h3; have g4 := C2.ok.ok.h4
        dsimp only at q2 b0 b1 g3 g4 HQ
        clear C2 k2 o2 he2 hm2
        by_cases hlt : c2 < s2.A.grn
        · have hd : decide (c2 < (s2.A.grn : Int)) = true := by simpa using hlt
          have HLT := Lib.hid hlt
          have hf := s2.A.thing_fields c2
          have hsum : IntKind.i64.wrap (c2 + (1 + (s2.A.thing c2).2.1)) = c2 + (1 + (s2.A.thing c2).2.1) := IntWalk.i64_in _ (by omega)
          have HF := Lib.hid hf
          clear hlt hf
          go_wp2_with fail
          refine wp_region_ro (.free 0 (.free 1 (.free 2 (.free 4 (.pure 3 (.run 5 (.free 6 (.fin)))))))) [] (fun w' => w'.cell? ⟨H.pc, 2, none⟩ = some (.int .i64 c2)) (by kernel_rfl) (by kernel_rfl) q2 ?_
          first | (refine wpRO_free rfl rfl _ (fun w' => by go_simp; exact Gives.mk _ _) (fun K hK => ?_); go_simp; refine hK _ ?_; clear hK K) | (refine wpRO_skipF rfl rfl (fun K hK => ?_); go_simp; refine hK _ ?_; clear hK K)
          first | (refine wpRO_free rfl rfl _ (fun w' => by go_simp; exact Gives.mk _ _) (fun K hK => ?_); go_simp; refine hK _ ?_; clear hK K) | (refine wpRO_skipF rfl rfl (fun K hK => ?_); go_simp; refine hK _ ?_; clear hK K)
          first | (refine wpRO_free rfl rfl _ (fun w' => by go_simp; exact Gives.mk _ _) (fun K hK => ?_); go_simp; refine hK _ ?_; clear hK K) | (refine wpRO_skipF rfl rfl (fun K hK => ?_); go_simp; refine hK _ ?_; clear hK K)
          first | (refine wpRO_free rfl rfl _ (fun w' => by go_simp; exact Gives.mk _ _) (fun K hK => ?_); go_simp; refine hK _ ?_; clear hK K) | (refine wpRO_skipF rfl rfl (fun K hK => ?_); go_simp; refine hK _ ?_; clear hK K)
          first | (refine wpRO_pure rfl rfl _ (fun w' hG => by obtain g0 := hG; exact gives_agg2 rfl (by decide +kernel) rfl (by assumption) (by assumption)) (fun K hK => ?_); go_simp; refine hK _ ?_; clear hK K) | (refine wpRO_pure rfl rfl _ (fun w' hG => by obtain g0 := hG; go_simp; exact Gives.mk _ _) (fun K hK => ?_); go_simp; refine hK _ ?_; clear hK K) | (refine wpRO_skip rfl rfl (fun K hK => ?_); go_simp; refine hK _ ?_; clear hK K)
          refine wpRO_run rfl rfl (fun K hK => ?_); unfold gRun; go_simp
          refine (mTop_c (HC2.out.same ((Keeps.refl (fun _ => False) wr).drew)).J HC2.out.nb).mono ?_
          rintro e w3 ⟨rfl, hk⟩
          have HC3 := Lib.hid (HC2.out.same ((Keeps.refl (fun _ => False) wr).drew.trans hk))
          have K3 := Lib.hid (K2.out.trans (((Keeps.refl (fun _ => False) wr).drew.trans hk).mono (fun _ _ h => h.elim)))
          refine hK _ _ (fun _ => HC3.out.J.cells.2.2.1) ?_
          clear hK K hk q2 cl
          first | (refine wpRO_free rfl rfl _ (fun w' => by go_simp; exact Gives.mk _ _) (fun K hK => ?_); go_simp; refine hK _ ?_; clear hK K) | (refine wpRO_skipF rfl rfl (fun K hK => ?_); go_simp; refine hK _ ?_; clear hK K)
          refine wpRO_fin ?_
          have q2 := HC3.out.J.cells.2.2.1; have cl := HC3.out.J.hc.lt
          dsimp only at q2
          go_wp2_with fail
          refine wp_region_ro (.free 0 (.free 1 (.free 2 (.free 4 (.free 5 (.free 6 (.free 7 (.pure 3 (.pure 8 (.run 9 (.free 10 (.free 11 (.free 12 (.run 13 (.swi [] (.fin)))))))))))))))) [13] (fun w' => w'.cell? ⟨H.pc, 2, none⟩ = some (.int .i64 c2)) (by kernel_rfl) (by kernel_rfl) q2 ?_
          first | (refine wpRO_free rfl rfl _ (fun w' => by go_simp; exact Gives.mk _ _) (fun K hK => ?_); go_simp; refine hK _ ?_; clear hK K) | (refine wpRO_skipF rfl rfl (fun K hK => ?_); go_simp; refine hK _ ?_; clear hK K)
          first | (refine wpRO_free rfl rfl _ (fun w' => by go_simp; exact Gives.mk _ _) (fun K hK => ?_); go_simp; refine hK _ ?_; clear hK K) | (refine wpRO_skipF rfl rfl (fun K hK => ?_); go_simp; refine hK _ ?_; clear hK K)
          first | (refine wpRO_free rfl rfl _ (fun w' => by go_simp; exact Gives.mk _ _) (fun K hK => ?_); go_simp; refine hK _ ?_; clear hK K) | (refine wpRO_skipF rfl rfl (fun K hK => ?_); go_simp; refine hK _ ?_; clear hK K)
          first | (refine wpRO_free rfl rfl _ (fun w' => by go_simp; exact Gives.mk _ _) (fun K hK => ?_); go_simp; refine hK _ ?_; clear hK K) | (refine wpRO_skipF rfl rfl (fun K hK => ?_); go_simp; refine hK _ ?_; clear hK K)
          first | (refine wpRO_free rfl rfl _ (fun w' => by go_simp; exact Gives.mk _ _) (fun K hK => ?_); go_simp; refine hK _ ?_; clear hK K) | (refine wpRO_skipF rfl rfl (fun K hK => ?_); go_simp; refine hK _ ?_; clear hK K)
          first | (refine wpRO_free rfl rfl _ (fun w' => by go_simp; exact Gives.mk _ _) (fun K hK => ?_); go_simp; refine hK _ ?_; clear hK K) | (refine wpRO_skipF rfl rfl (fun K hK => ?_); go_simp; refine hK _ ?_; clear hK K)
          first | (refine wpRO_free rfl rfl _ (fun w' => by go_simp; exact Gives.mk _ _) (fun K hK => ?_); go_simp; refine hK _ ?_; clear hK K) | (refine wpRO_skipF rfl rfl (fun K hK => ?_); go_simp; refine hK _ ?_; clear hK K)
          first | (refine wpRO_pure rfl rfl _ (fun w' hG => by obtain g0 := hG; exact gives_agg2 rfl (by decide +kernel) rfl (by assumption) (by assumption)) (fun K hK => ?_); go_simp; refine hK _ ?_; clear hK K) | (refine wpRO_pure rfl rfl _ (fun w' hG => by obtain g0 := hG; go_simp; exact Gives.mk _ _) (fun K hK => ?_); go_simp; refine hK _ ?_; clear hK K) | (refine wpRO_skip rfl rfl (fun K hK => ?_); go_simp; refine hK _ ?_; clear hK K)
          first | (refine wpRO_pure rfl rfl _ (fun w' hG => by obtain g0 := hG; exact gives_agg2 rfl (by decide +kernel) rfl (by assumption) (by assumption)) (fun K hK => ?_); go_simp; refine hK _ ?_; clear hK K) | (refine wpRO_pure rfl rfl _ (fun w' hG => by obtain g0 := hG; go_simp; exact Gives.mk _ _) (fun K hK => ?_); go_simp; refine hK _ ?_; clear hK K) | (refine wpRO_skip rfl rfl (fun K hK => ?_); go_simp; refine hK _ ?_; clear hK K)
          refine wpRO_run rfl rfl (fun K hK => ?_); unfold gRun; go_simp
          have HC4 := Lib.hid (HC3.out.same ((Keeps.refl (fun _ => False) w3).drew))
          have K4 := Lib.hid (K3.out.trans ((Keeps.refl (fun _ => False) w3).drew.mono (fun _ _ h => h.elim)))
          refine (mLook_c c2 HC4.out.J b0 b1 (by have := HC4.out.ok.ms.len; dsimp only at this ⊢; omega)).mono ?_
          rintro e w5 ⟨rfl, t⟩
          obtain ⟨wv5, ev5, J5, k5, o5⟩ := t
          have HJ5 := Lib.hid J5
          have K5 := Lib.hid k5; have O5 := Lib.hid o5
          refine hK _ _ (fun _ => J5.cells.2.2.1) ?_
          clear hK K J5 k5 o5 q2 cl
          have q2 := HJ5.out.cells.2.2.1; have cl := HJ5.out.hc.lt; have fz := HJ5.out.hc.free 2
          first | (refine wpRO_free rfl rfl _ (fun w' => by go_simp; exact Gives.mk _ _) (fun K hK => ?_); go_simp; refine hK _ ?_; clear hK K) | (refine wpRO_skipF rfl rfl (fun K hK => ?_); go_simp; refine hK _ ?_; clear hK K)
          first | (refine wpRO_free rfl rfl _ (fun w' => by go_simp; exact Gives.mk _ _) (fun K hK => ?_); go_simp; refine hK _ ?_; clear hK K) | (refine wpRO_skipF rfl rfl (fun K hK => ?_); go_simp; refine hK _ ?_; clear hK K)
          first | (refine wpRO_free rfl rfl _ (fun w' => by go_simp; exact Gives.mk _ _) (fun K hK => ?_); go_simp; refine hK _ ?_; clear hK K) | (refine wpRO_skipF rfl rfl (fun K hK => ?_); go_simp; refine hK _ ?_; clear hK K)
          refine wpRO_chg rfl rfl rfl (fun K hK => ?_); unfold gRun; go_simp
          refine hK _ _ ?_
          clear hK K
          refine wpRO_swi (fun _ => True) trivial (wpRO_fin ?_)
          clear q2 cl fz
          have T6 := Lib.hid (CutTo.join K5.out O5.out (HJ5.out.setC (c2 + (1 + (s2.A.thing c2).2.1))))
          have T7 := Lib.hid (CSTo.join K4.out O2.out (HC4.out.cut T6.out (HC4.out.ok.look HLT.out) (Sm.look HC4.out.ok.ok c2).nur))
          obtain ⟨wv7, ev7, C7, -, -⟩ := T7.out
          have HC7 := Lib.hid (cellI_of C7.J.cells.2.2.1)
          clear C7
          go_wp2_with fail
          go_roundw
          case rel =>
            refine ⟨m - 1, _, _, T7.out, ?_, ?_⟩
            · rw [HE2.out]
              obtain ⟨m, rfl⟩ : ∃ k, m = k + 1 := ⟨m - 1, by have := HM2.out; have := HLT.out; omega⟩
              exact mScan_step m HLT.out
            · have := HM2.out; have := HF.out; have := HLT.out; omega
          case measure =>
            have h1 := HQ.out; have h2 := HC7.out; have h3 := HF.out
            dsimp only at h2
            rw [h1, h2]; omega
        · have hstop := mScan_stop m hlt
          have hd : decide (c2 < (s2.A.grn : Int)) = false := by simpa using hlt
          have HSC := Lib.hid (HE2.out.trans hstop)
          have HLT := Lib.hid hlt
          clear hlt hstop HQ HE2 HM2
          go_wp2_with fail
          refine wp_region_ro (.free 0 (.free 1 (.free 2 (.free 4 (.pure 3 (.run 5 (.free 6 (.fin)))))))) [] (fun w' => w'.cell? ⟨H.pc, 2, none⟩ = some (.int .i64 c2)) (by kernel_rfl) (by kernel_rfl) q2 ?_
          first | (refine wpRO_free rfl rfl _ (fun w' => by go_simp; exact Gives.mk _ _) (fun K hK => ?_); go_simp; refine hK _ ?_; clear hK K) | (refine wpRO_skipF rfl rfl (fun K hK => ?_); go_simp; refine hK _ ?_; clear hK K)
          first | (refine wpRO_free rfl rfl _ (fun w' => by go_simp; exact Gives.mk _ _) (fun K hK => ?_); go_simp; refine hK _ ?_; clear hK K) | (refine wpRO_skipF rfl rfl (fun K hK => ?_); go_simp; refine hK _ ?_; clear hK K)
          first | (refine wpRO_free rfl rfl _ (fun w' => by go_simp; exact Gives.mk _ _) (fun K hK => ?_); go_simp; refine hK _ ?_; clear hK K) | (refine wpRO_skipF rfl rfl (fun K hK => ?_); go_simp; refine hK _ ?_; clear hK K)
          first | (refine wpRO_free rfl rfl _ (fun w' => by go_simp; exact Gives.mk _ _) (fun K hK => ?_); go_simp; refine hK _ ?_; clear hK K) | (refine wpRO_skipF rfl rfl (fun K hK => ?_); go_simp; refine hK _ ?_; clear hK K)
          first | (refine wpRO_pure rfl rfl _ (fun w' hG => by obtain g0 := hG; exact gives_agg2 rfl (by decide +kernel) rfl (by assumption) (by assumption)) (fun K hK => ?_); go_simp; refine hK _ ?_; clear hK K) | (refine wpRO_pure rfl rfl _ (fun w' hG => by obtain g0 := hG; go_simp; exact Gives.mk _ _) (fun K hK => ?_); go_simp; refine hK _ ?_; clear hK K) | (refine wpRO_skip rfl rfl (fun K hK => ?_); go_simp; refine hK _ ?_; clear hK K)
          refine wpRO_run rfl rfl (fun K hK => ?_); unfold gRun; go_simp
          refine (mTop_c (HC2.out.same ((Keeps.refl (fun _ => False) wr).drew)).J HC2.out.nb).mono ?_
          rintro e w3 ⟨rfl, hk⟩
          have HC3 := Lib.hid (HC2.out.same ((Keeps.refl (fun _ => False) wr).drew.trans hk))
          have K3 := Lib.hid (K2.out.trans (((Keeps.refl (fun _ => False) wr).drew.trans hk).mono (fun _ _ h => h.elim)))
          refine hK _ _ (fun _ => HC3.out.J.cells.2.2.1) ?_
          clear hK K hk q2 cl
          first | (refine wpRO_free rfl rfl _ (fun w' => by go_simp; exact Gives.mk _ _) (fun K hK => ?_); go_simp; refine hK _ ?_; clear hK K) | (refine wpRO_skipF rfl rfl (fun K hK => ?_); go_simp; refine hK _ ?_; clear hK K)
          refine wpRO_fin ?_
          clear HC2 K2
          obtain ⟨eo, ec, hev, -, -, -⟩ := HC3.out.J.he.rd
          dsimp only at hev
          subst hev
          have q4 := HC3.out.J.cells.2.2.2.2.1; have cl := HC3.out.J.hc.lt
          try dsimp only at q4
          have heb := HC3.out.ok.ms.eb; have hel := HC3.out.ok.ms.len
          try dsimp only at heb hel
          have HEB := Lib.hid heb
          clear heb
          go_wp2_with fail
          go_loopw [31] (fun u wr => ∃ k : Nat, k ≤ s2.ep.length ∧ u = .int .i64 k ∧ ArenaTo w3 H.pa H.g wr (mEph s2.A (s2.ep.take k))) (fun u _ => s2.ep.length - (intOf u).toNat)
          case atStart => exact ⟨0, Nat.zero_le _, rfl, ArenaTo.refl HC3.out.J.ha (Keeps.refl _ _)⟩
          case round =>
            clear q4 cl
            obtain ⟨k, hk, rfl, t⟩ := hrel
            have T := Lib.hid t
            have JR := Lib.hid (HC3.out.J.arena t)
            clear t
            by_cases hlt : k < s2.ep.length
            · obtain ⟨_, _, e', rd, -, -⟩ := JR.out.he.rd
              cases e'
              obtain ⟨ge, oe, rfl, d0⟩ := rd.int k hlt
              have hgl := (JR.out.he.own rfl).1
              have hin := HEB.out (s2.ep.getD k 0) (by rw [List.getD_eq_getElem?_getD, List.getElem?_eq_getElem hlt]; exact List.getElem_mem hlt)
              have HTK := Lib.hid (show mEph s2.A (s2.ep.take (k + 1)) = mEph1 (mEph s2.A (s2.ep.take k)) (s2.ep.getD k 0) by
                unfold mEph
                rw [← List.take_append_getElem hlt, List.foldl_append, List.getD_eq_getElem?_getD, List.getElem?_eq_getElem hlt]; rfl)
              generalize s2.ep.getD k 0 = i at *
              generalize mEph s2.A (s2.ep.take k) = B at *
              have hi1 : IntKind.i64.wrap (i + 1) = i + 1 := IntWalk.i64_in _ (by omega)
              have hi2 : IntKind.i64.wrap (i + 2) = i + 2 := IntWalk.i64_in _ (by omega)
              have c0 := JR.out.cells.1; have p0 := JR.out.cells.2.2.2.2.2.1; have pl := JR.out.hp.lt; have cl := JR.out.hc.lt
              clear rd
              go_wp2_with fail
              refine (Load_c (i + 1) _ JR.out.ha).mono ?_
              rintro e w4 ⟨rfl, rfl⟩
              go_wp2_with fail
              refine (mAlive_c (B.load (i + 1)) JR.out).mono ?_
              rintro e w4 ⟨rfl, rfl⟩
              clear c0 p0 pl cl d0
              cases hal : mAlive B (B.load (i + 1))
              · have HAL := Lib.hid hal
                clear hal
                go_wp2_with fail
                go_roundw
                case rel => exact ⟨k + 1, hlt, by go_num, by rw [HTK.out, mEph1, if_neg (by rw [HAL.out]; decide)]; exact T.out⟩
                case measure => simp [intOf]; omega
              · have HAL := Lib.hid hal
                clear hal
                go_wp2_with fail
                refine (mField_c (i + 1) JR.out).mono ?_
                rintro e w4 ⟨rfl, t⟩
                have T4 := Lib.hid t
                have J4 := Lib.hid (JR.out.arena t)
                clear t
                go_wp2_with fail
                refine (mField_c (i + 2) J4.out).mono ?_
                rintro e w5 ⟨rfl, t⟩
                have T5 := Lib.hid (T.out.trans (T4.out.trans t))
                clear t
                go_wp2_with fail
                go_roundw
                case rel => exact ⟨k + 1, hlt, by go_num, by rw [HTK.out, mEph1, if_pos HAL.out]; exact T5.out⟩
                case measure => simp [intOf]; omega
            · obtain rfl : k = s2.ep.length := by omega
              rw [List.take_length] at T JR
              have hsm := Sm.eph s2.ep HC3.out.ok.ok
              have C4 := Lib.hid (show CS wr H wv2 (.slice eo s2.ep.length ec) rv qv rg ⟨{ s2 with A := mEph s2.A s2.ep }, c2, d1.q⟩ from by
                obtain ⟨a, b, J4, k4, o4⟩ := HC3.out.J.arenaTo T.out
                exact ⟨JR.out, HC3.out.S.keep k4 (fun b hb hk => HC3.out.J.side_apart HC3.out.S hk hb), HC3.out.ok.arena hsm.ok, HC3.out.q, by rw [HC3.out.nb]; exact congrArg (fun x : Nat => (x : Int)) hsm.nur.symm, HC3.out.ql⟩)
              have KA := Lib.hid (show Keeps (H.Own wv2 (.slice eo s2.ep.length ec)) w3 wr from T.out.k.mono (fun k _ hk => hk.elim (fun h => .inr (.inl h)) (fun h => .inr (.inr (.inl h)))))
              clear T JR hsm
              generalize hA2 : mEph s2.A s2.ep = A2 at C4
              have HA2 := Lib.hid hA2
              clear hA2
              have c0 := C4.out.J.cells.1; have p2 := C4.out.J.cells.2.2.2.2.2.2.2.1; have pl := C4.out.J.hp.lt; have cl := C4.out.J.hc.lt
              go_wp2_with fail
              refine wp_region_ro (.free 0 (.free 1 (.free 2 (.free 7 (.pure 3 (.free 4 (.free 5 (.pure 6 (.run 8 (.run 9 (.swi [] (.fin)))))))))))) [9] (fun w' => w'.cell? ⟨H.pc, 0, none⟩ = some (.pointer (some ⟨H.p, 0, none⟩)) ∧ w'.cell? ⟨H.p, 2, none⟩ = some (.pointer (some ⟨H.ps, 0, none⟩))) (by kernel_rfl) (by kernel_rfl) ⟨c0, p2⟩ ?_
              first | (refine wpRO_free rfl rfl _ (fun w' => by go_simp; exact Gives.mk _ _) (fun K hK => ?_); go_simp; refine hK _ ?_; clear hK K) | (refine wpRO_skipF rfl rfl (fun K hK => ?_); go_simp; refine hK _ ?_; clear hK K)
              first | (refine wpRO_free rfl rfl _ (fun w' => by go_simp; exact Gives.mk _ _) (fun K hK => ?_); go_simp; refine hK _ ?_; clear hK K) | (refine wpRO_skipF rfl rfl (fun K hK => ?_); go_simp; refine hK _ ?_; clear hK K)
              first | (refine wpRO_free rfl rfl _ (fun w' => by go_simp; exact Gives.mk _ _) (fun K hK => ?_); go_simp; refine hK _ ?_; clear hK K) | (refine wpRO_skipF rfl rfl (fun K hK => ?_); go_simp; refine hK _ ?_; clear hK K)
              first | (refine wpRO_free rfl rfl _ (fun w' => by go_simp; exact Gives.mk _ _) (fun K hK => ?_); go_simp; refine hK _ ?_; clear hK K) | (refine wpRO_skipF rfl rfl (fun K hK => ?_); go_simp; refine hK _ ?_; clear hK K)
              first | (refine wpRO_pure rfl rfl _ (fun w' hG => by obtain ⟨g0, g1⟩ := hG; exact gives_agg2 rfl (by decide +kernel) rfl (by assumption) (by assumption)) (fun K hK => ?_); go_simp; refine hK _ ?_; clear hK K) | (refine wpRO_pure rfl rfl _ (fun w' hG => by obtain ⟨g0, g1⟩ := hG; go_simp; exact Gives.mk _ _) (fun K hK => ?_); go_simp; refine hK _ ?_; clear hK K) | (refine wpRO_skip rfl rfl (fun K hK => ?_); go_simp; refine hK _ ?_; clear hK K)
              first | (refine wpRO_free rfl rfl _ (fun w' => by go_simp; exact Gives.mk _ _) (fun K hK => ?_); go_simp; refine hK _ ?_; clear hK K) | (refine wpRO_skipF rfl rfl (fun K hK => ?_); go_simp; refine hK _ ?_; clear hK K)
              first | (refine wpRO_free rfl rfl _ (fun w' => by go_simp; exact Gives.mk _ _) (fun K hK => ?_); go_simp; refine hK _ ?_; clear hK K) | (refine wpRO_skipF rfl rfl (fun K hK => ?_); go_simp; refine hK _ ?_; clear hK K)
              first | (refine wpRO_pure rfl rfl _ (fun w' hG => by obtain ⟨g0, g1⟩ := hG; exact gives_agg2 rfl (by decide +kernel) rfl (by assumption) (by assumption)) (fun K hK => ?_); go_simp; refine hK _ ?_; clear hK K) | (refine wpRO_pure rfl rfl _ (fun w' hG => by obtain ⟨g0, g1⟩ := hG; go_simp; exact Gives.mk _ _) (fun K hK => ?_); go_simp; refine hK _ ?_; clear hK K) | (refine wpRO_skip rfl rfl (fun K hK => ?_); go_simp; refine hK _ ?_; clear hK K)
              refine wpRO_run rfl rfl (fun K hK => ?_); unfold gRun; go_simp
              refine (mLiving_c (C4.out.J.same ((Keeps.refl (fun _ => False) wr).drew))).mono ?_
              rintro e w4 ⟨rfl, hk⟩
              have C5 := Lib.hid (C4.out.same ((Keeps.refl (fun _ => False) wr).drew.trans hk))
              have K5 := Lib.hid ((Keeps.refl (fun _ => False) wr).drew.trans hk)
              refine hK _ _ (fun _ => ⟨C5.out.J.cells.1, C5.out.J.cells.2.2.2.2.2.2.2.1⟩) ?_
              clear hK K hk c0 p2 pl cl C4
              skip
              refine wpRO_chg rfl rfl rfl (fun K hK => ?_); unfold gRun; go_simp
              refine (Wake_c H.ps (mWakeL H wv2 (.slice eo s2.ep.length ec) s2.wk s2.ep c2) mKp (fun _ _ _ => rfl) A2 (H.Own wv2 (.slice eo s2.ep.length ec)) rv qv rg d1.q w4 (fun _ _ h _ => h) ⟨C5.out.J, rfl⟩ C5.out.S (fun k hk => C5.out.J.side_apart C5.out.S hk.1 hk.2) C5.out.ql (fun e he => C5.out.q e he)).mono ?_
              rintro e w6 ⟨rfl, F6, hJ6, hS6, -, hk6, -, -⟩
              refine hK _ _ ?_
              clear hK K
              refine wpRO_swi (fun _ => True) trivial (wpRO_fin ?_)
              obtain ⟨⟨A3, q3, b3⟩, hW⟩ : ∃ t, wakeM mAlive mKp A2 d1.q = t := ⟨_, rfl⟩
              have hsw := Sm.wake d1.q C5.out.ok.ok
              have hqw := QOk.wake d1.q (A := A2) C5.out.q
              have hlw := wakeM_len mAlive mKp d1.q A2
              dsimp only at hsw hqw hlw
              replace hJ6 : CutJ w6 H wv2 (.slice eo s2.ep.length ec) ⟨(wakeM mAlive mKp A2 d1.q).1, s2.wk, s2.ep⟩ c2 := hJ6.1
              replace hS6 : SideAt w6 H.ps rv qv rg (wakeM mAlive mKp A2 d1.q).2.1 := hS6
              replace hk6 : Keeps (fun b => H.Own wv2 (.slice eo s2.ep.length ec) b ∨ SideFp H.ps rv qv b) w4 w6 := hk6
              rw [hW] at hsw hqw hlw hJ6 hS6
              dsimp only at hsw hqw hlw hJ6 hS6
              have HRD := Lib.hid (mRound_of HSC.out HA2.out hW)
              have C6 := Lib.hid (show CS w6 H wv2 (.slice eo s2.ep.length ec) rv qv rg (mRound d1) by
                rw [HRD.out]
                exact ⟨hJ6, hS6, C5.out.ok.arena hsw.ok, hqw, by rw [hsw.nur]; exact C5.out.nb, by dsimp only; rw [hlw]; exact C5.out.ql⟩)
              have T6 := Lib.hid (show CSTo w H wv ev rv qv rg (mRound d1) w6 from CSTo.join K1.out O1.out ⟨wv2, _, C6.out, by
                have k1 : Keeps (fun k => H.Own wv1 ev1 k ∨ SideFp H.ps rv qv k) w1 w3 := K3.out
                have k2 : Keeps (fun k => H.Own wv2 (.slice eo s2.ep.length ec) k ∨ SideFp H.ps rv qv k) w3 w6 := ((KA.out.mono (fun _ _ h => .inl h)).trans (K5.out.mono (fun _ _ h => h.elim))).trans hk6
                exact k1.then k2 (fun k hk => by
                  rcases hk with hk | hk
                  · exact (O2.out k hk).imp .inl id
                  · exact .inl (.inr hk)), O2.out⟩)
              have HG := Lib.hid (show (mRound d1).s.A.grn = A3.grn ∧ (mRound d1).c = c2 by rw [HRD.out]; exact ⟨rfl, rfl⟩)
              clear hW hsw hqw hlw hJ6 hS6 hk6 C5 K5 KA HA2 HSC HRD hel
              have q2 := C6.out.J.cells.2.2.1; have cl := C6.out.J.hc.lt
              rw [HG.out.2] at q2
              go_wp2_with fail
              refine wp_region_ro (.free 0 (.free 1 (.free 2 (.free 4 (.pure 3 (.run 5 (.free 6 (.free 7 (.fin))))))))) [] (fun w' => w'.cell? ⟨H.pc, 2, none⟩ = some (.int .i64 c2)) (by kernel_rfl) (by kernel_rfl) q2 ?_
              first | (refine wpRO_free rfl rfl _ (fun w' => by go_simp; exact Gives.mk _ _) (fun K hK => ?_); go_simp; refine hK _ ?_; clear hK K) | (refine wpRO_skipF rfl rfl (fun K hK => ?_); go_simp; refine hK _ ?_; clear hK K)
              first | (refine wpRO_free rfl rfl _ (fun w' => by go_simp; exact Gives.mk _ _) (fun K hK => ?_); go_simp; refine hK _ ?_; clear hK K) | (refine wpRO_skipF rfl rfl (fun K hK => ?_); go_simp; refine hK _ ?_; clear hK K)
              first | (refine wpRO_free rfl rfl _ (fun w' => by go_simp; exact Gives.mk _ _) (fun K hK => ?_); go_simp; refine hK _ ?_; clear hK K) | (refine wpRO_skipF rfl rfl (fun K hK => ?_); go_simp; refine hK _ ?_; clear hK K)
              first | (refine wpRO_free rfl rfl _ (fun w' => by go_simp; exact Gives.mk _ _) (fun K hK => ?_); go_simp; refine hK _ ?_; clear hK K) | (refine wpRO_skipF rfl rfl (fun K hK => ?_); go_simp; refine hK _ ?_; clear hK K)
              first | (refine wpRO_pure rfl rfl _ (fun w' hG => by obtain g0 := hG; exact gives_agg2 rfl (by decide +kernel) rfl (by assumption) (by assumption)) (fun K hK => ?_); go_simp; refine hK _ ?_; clear hK K) | (refine wpRO_pure rfl rfl _ (fun w' hG => by obtain g0 := hG; go_simp; exact Gives.mk _ _) (fun K hK => ?_); go_simp; refine hK _ ?_; clear hK K) | (refine wpRO_skip rfl rfl (fun K hK => ?_); go_simp; refine hK _ ?_; clear hK K)
              refine wpRO_run rfl rfl (fun K hK => ?_); unfold gRun; go_simp
              refine (mTop_c (C6.out.same ((Keeps.refl (fun _ => False) w6).drew)).J C6.out.nb).mono ?_
              rintro e w7 ⟨rfl, hk⟩
              have K7 := Lib.hid ((Keeps.refl (fun _ => False) w6).drew.trans hk)
              have C7 := Lib.hid (C6.out.same K7.out)
              refine hK _ _ (fun _ => by have := C7.out.J.cells.2.2.1; rw [HG.out.2] at this; exact this) ?_
              clear hK K hk q2 cl
              rw [HG.out.1]
              have T7 := Lib.hid (show CSTo w H wv ev rv qv rg (mRound d1) w7 by
                obtain ⟨a, b, c, k, o⟩ := T6.out
                exact ⟨a, b, c.same K7.out, k.trans (K7.out.mono (fun _ _ h => h.elim)), o⟩)
              have HRO := Lib.hid (ScOk.round HC1.out.ok); have HSR := Lib.hid (Sm.round d1 HC1.out.ok.ok).grn
              have HD1 := Lib.hid (And.intro HC1.out.ok.c1 (And.intro HC1.out.ok.ok.h3 HC1.out.ok.ok.h4))
              have HD2 := Lib.hid (And.intro C7.out.ok.c1 (And.intro C7.out.ok.ok.h3 C7.out.ok.ok.h4))
              by_cases hmore : c2 < A3.grn
              · have hd : decide (c2 < (A3.grn : Int)) = true := by simpa using hmore
                have HM := Lib.hid (show (mRound d1).c < (mRound d1).s.A.grn by rw [HG.out.1, HG.out.2]; exact hmore)
                have HMU7 := Lib.hid (drainMu_of C7.out true)
                clear hmore

                first | (refine wpRO_free rfl rfl _ (fun w' => by go_simp; exact Gives.mk _ _) (fun K hK => ?_); go_simp; refine hK _ ?_; clear hK K) | (refine wpRO_skipF rfl rfl (fun K hK => ?_); go_simp; refine hK _ ?_; clear hK K)
                first | (refine wpRO_free rfl rfl _ (fun w' => by go_simp; exact Gives.mk _ _) (fun K hK => ?_); go_simp; refine hK _ ?_; clear hK K) | (refine wpRO_skipF rfl rfl (fun K hK => ?_); go_simp; refine hK _ ?_; clear hK K)
                refine wpRO_fin ?_
                go_wp2_with fail
                go_roundw
                case rel =>
                  refine .inl ⟨n - 1, mRound d1, rfl, T7.out, ?_, ?_, .inr HM.out⟩
                  · rw [HE.out]
                    obtain ⟨n, rfl⟩ : ∃ k, n = k + 1 := ⟨n - 1, by have := HN.out; have := HD1.out; omega⟩
                    exact mDrain_more _ HM.out
                  · have h1 := HN.out; have h2 := HRO.out; have h3 := HGR.out; have h4 := HD1.out
                    rcases h3 with h3 | h3
                    · have := h2.1.c0; omega
                    · have := h2.2.2 h3; omega
                case measure =>
                  have h1 := HMU.out; have h2 := HMU7.out; have h3 := HRO.out; have h4 := HSR.out; have h5 := HM.out; have h6 := HD1.out; have h7 := HD2.out
                  rw [h1, h2]
                  have := h3.2.1
                  by_cases hq : d1.c < d1.s.A.grn
                  · have := h3.2.2 hq; simp only [if_true]; omega
                  · simp only [if_true]; omega
              · have hd : decide (c2 < (A3.grn : Int)) = false := by simpa using hmore
                have HM := Lib.hid (show ¬ (mRound d1).c < (mRound d1).s.A.grn by rw [HG.out.1, HG.out.2]; exact hmore)
                have HMU7 := Lib.hid (drainMu_of C7.out false)
                clear hmore

                first | (refine wpRO_free rfl rfl _ (fun w' => by go_simp; exact Gives.mk _ _) (fun K hK => ?_); go_simp; refine hK _ ?_; clear hK K) | (refine wpRO_skipF rfl rfl (fun K hK => ?_); go_simp; refine hK _ ?_; clear hK K)
                first | (refine wpRO_free rfl rfl _ (fun w' => by go_simp; exact Gives.mk _ _) (fun K hK => ?_); go_simp; refine hK _ ?_; clear hK K) | (refine wpRO_skipF rfl rfl (fun K hK => ?_); go_simp; refine hK _ ?_; clear hK K)
                refine wpRO_fin ?_
                go_wp2_with fail
                go_roundw
                case rel => exact .inr ⟨rfl, by rw [HE.out, mDrain_last _ HM.out]; exact T7.out⟩
                case measure =>
                  have h1 := HMU.out; have h2 := HMU7.out; have h3 := HRO.out; have h4 := HSR.out; have h6 := HD1.out; have h7 := HD2.out
                  rw [h1, h2]
                  have := h3.2.1
                  simp only [if_true, Bool.false_eq_true, if_false]; omega
    · have HT := Lib.hid ht
      clear ht
      go_wp2_with fail
      go_end0
      exact ⟨rfl, HT.out⟩
end

end Go.Proofs.Ytjifdalflepcoab

namespace Go.Proofs.Ytjifdalflepcoab
open Go.RowKit
set_option linter.unusedVariables false
set_option linter.unusedSimpArgs false

section
variable {w w' : World} {H : CH} {wv ev rv qv : Value} {rg : List (Int × Int)} {d : Md} {s : Ms} {c : Int}

/-- A variable that leads to the cut. -/
abbrev PcAt (w : World) (b : Nat) (H : CH) : Prop := Blk w b [.pointer (some ⟨H.pc, 0, none⟩)] 171

def SavedRet (w : World) (H : CH) (e : Ending) (w' : World) : Prop :=
  ∃ b, e = .returned (.agg #[.func (.func 146) #[.pointer (some ⟨H.pc, 0, none⟩)] #[], .func (.func 151) #[] #[.pointer (some ⟨b, 0, none⟩)], .func (.func 147) #[.pointer (some ⟨H.pc, 0, none⟩)] #[]]) ∧
    PcAt w' b H ∧ Keeps (fun _ => False) w w' ∧ w.heap.size ≤ b

set_option maxHeartbeats 1000000 in
set_option maxRecDepth 100000 in
theorem mSaved_c (J : CutJ w H wv ev s c) :
    Calls Try.prog 121 #[.pointer (some ⟨H.pc, 0, none⟩)] w (SavedRet w H) := by
  have HJ := Lib.hid J
  clear J
  go_enter Try.func121, Try.ntmps121
  go_wp2_with fail
  generalize hwa : (w.alloc (.cells #[.pointer (some ⟨H.pc, 0, none⟩)] 171)).alloc (.cells #[.nilFunc, .nilFunc, .nilFunc] 178) = wa
  have HB := Lib.hid (show PcAt wa w.heap.size H by rw [← hwa]; exact Blk.alloc (Blk.newAt _ rfl rfl) _)
  have HR := Lib.hid (show Blk wa (w.heap.size + 1) [.nilFunc, .nilFunc, .nilFunc] 178 by rw [← hwa]; exact Blk.newAt _ (by simp) rfl)
  have HK := Lib.hid (show Keeps (fun _ => False) w wa by rw [← hwa]; exact ((Keeps.refl _ _).alloc _).alloc _)
  clear hwa
  refine (mLiving_c (HJ.out.same HK.out)).mono ?_
  rintro e w1 ⟨rfl, hk⟩
  have HB1 := Lib.hid (hk.blk HB.out (fun h => h)); have HR1 := Lib.hid (hk.blk HR.out (fun h => h)); have HK1 := Lib.hid (HK.out.trans hk)
  clear hk HB HR HK
  unfold mLivV
  have r0 := HR1.out.cell 0; have r1 := HR1.out.cell 1; have r2 := HR1.out.cell 2; have rl := HR1.out.lt; have f0 := HR1.out.free 0; have f1 := HR1.out.free 1; have f2 := HR1.out.free 2
  simp only [List.getElem?_cons_zero, List.getElem?_cons_succ] at r0 r1 r2
  go_wp2_with fail
  have hb3 := (((HR1.out.setSame 0 (.func (.func 146) #[.pointer (some ⟨H.pc, 0, none⟩)] #[])).setSame 1 (.func (.func 151) #[] #[.pointer (some ⟨w.heap.size, 0, none⟩)])).setSame 2 (.func (.func 147) #[.pointer (some ⟨H.pc, 0, none⟩)] #[])).alloc (.cells #[.func (.func 146) #[.pointer (some ⟨H.pc, 0, none⟩)] #[], .func (.func 151) #[] #[.pointer (some ⟨w.heap.size, 0, none⟩)], .func (.func 147) #[.pointer (some ⟨H.pc, 0, none⟩)] #[]] 178)
  have hk3 := ((((Keeps.refl (· = w.heap.size + 1) w1).setCell (p := ⟨w.heap.size + 1, 0, none⟩) (.inl rfl) (.func (.func 146) #[.pointer (some ⟨H.pc, 0, none⟩)] #[])).setCell (p := ⟨w.heap.size + 1, 1, none⟩) (.inl rfl) (.func (.func 151) #[] #[.pointer (some ⟨w.heap.size, 0, none⟩)])).setCell (p := ⟨w.heap.size + 1, 2, none⟩) (.inl rfl) (.func (.func 147) #[.pointer (some ⟨H.pc, 0, none⟩)] #[])).alloc (.cells #[.func (.func 146) #[.pointer (some ⟨H.pc, 0, none⟩)] #[], .func (.func 151) #[] #[.pointer (some ⟨w.heap.size, 0, none⟩)], .func (.func 147) #[.pointer (some ⟨H.pc, 0, none⟩)] #[]] 178)
  have l0 := hb3.cell 0; have l1 := hb3.cell 1; have l2 := hb3.cell 2
  simp only [List.getElem?_cons_zero, List.getElem?_cons_succ, List.set_cons_zero, List.set_cons_succ] at l0 l1 l2
  refine bodyPost_ret (v := .agg #[.func (.func 146) #[.pointer (some ⟨H.pc, 0, none⟩)] #[], .func (.func 151) #[] #[.pointer (some ⟨w.heap.size, 0, none⟩)], .func (.func 147) #[.pointer (some ⟨H.pc, 0, none⟩)] #[]]) (by simp [results, Try.results121, go_sem, l0, l1, l2]) rfl ⟨w.heap.size, rfl, hk3.blk HB1.out (by omega), HK1.out.then hk3 (fun k hk => .inr (by omega)), Nat.le_refl _⟩

set_option maxHeartbeats 1000000 in
set_option maxRecDepth 100000 in
theorem mSaved1_c (x : Int) (b : Nat) (C : CS w H wv ev rv qv rg d) (hb : PcAt w b H) :
    Calls Try.prog 151 #[.int .i64 x, .pointer (some ⟨b, 0, none⟩)] w fun e w' => e = .returned (.int .i64 (mNow (mBring d.s.A x) x)) ∧ CSTo w H wv ev rv qv rg (mDrain 2000 ⟨{ d.s with A := mBring d.s.A x }, d.c, d.q⟩) w' := by
  have HC := Lib.hid C; have HB := Lib.hid hb
  have b0 := hb.cell 0; have bl := hb.lt
  simp only [List.getElem?_cons_zero] at b0
  clear C hb
  go_enter Try.func151, Try.ntmps151
  go_wp2_with fail
  refine (mBring_c x HC.out.J).mono ?_
  rintro e w1 ⟨rfl, t⟩
  have hsm := Sm.bring HC.out.ok.ok x
  obtain ⟨a1, b1, J1, k1, o1⟩ := HC.out.J.arenaTo t
  have C1 := Lib.hid (show CS w1 H wv ev rv qv rg ⟨{ d.s with A := mBring d.s.A x }, d.c, d.q⟩ from
    ⟨HC.out.J.arena t, HC.out.S.keep k1 (fun b hb hk => HC.out.J.side_apart HC.out.S hk hb), HC.out.ok.arena hsm.ok, HC.out.q, by rw [HC.out.nb]; exact congrArg (fun x : Nat => (x : Int)) hsm.nur.symm, HC.out.ql⟩)
  have K1 := Lib.hid (show Keeps (H.Own wv ev) w w1 from k1)
  have HB1 := Lib.hid (show PcAt w1 b H from k1.blk HB.out (fun h => by
    obtain ⟨_, T, h', hT⟩ := HC.out.J.own_type h
    refine HB.out.ne h' ?_ rfl
    rcases hT with rfl | rfl | rfl | rfl | rfl <;> decide))
  clear b0 bl t hsm J1 k1 o1
  have b0 := HB1.out.cell 0; have bl := HB1.out.lt
  simp only [List.getElem?_cons_zero] at b0
  go_wp2_with fail
  refine (mDrain_c C1.out).mono ?_
  rintro e w2 ⟨rfl, t⟩
  have T2 := Lib.hid (CSTo.join (K1.out.mono (fun _ _ h => .inl h)) (fun k hk => .inl hk) t)
  clear t b0 bl
  go_wp2_with fail
  go_ret
  exact ⟨rfl, T2.out⟩

/-- What Settle has of the cut. -/
def mSettleL (H : CH) (b : Nat) : Liv Try.prog H.ps Mt where
  J := fun w t F => ∃ wv ev, CutJ w H wv ev t.1 t.2 ∧ ScOk t.1 t.2 ∧ H.base = t.1.A.nur ∧ PcAt w b H ∧ F = fun k => H.Own wv ev k ∨ k = b
  D := fun _ x => R64 x
  DK := fun _ x => R64 x
  alive := mtAlive
  keep := mtKeep
  now := mtNow
  fa := 146
  fk := 151
  fn := 147
  a1 := #[.pointer (some ⟨H.pc, 0, none⟩)]
  a2 := #[]
  k1 := #[]
  k2 := #[.pointer (some ⟨b, 0, none⟩)]
  n1 := #[.pointer (some ⟨H.pc, 0, none⟩)]
  n2 := #[]
  ea := fun args w => by kernel_rfl
  ek := fun args w => by kernel_rfl
  en := fun args w => by kernel_rfl
  J_keep := fun h k hn => by
    obtain ⟨wv, ev, h1, h2, h3, h4, rfl⟩ := h
    exact ⟨wv, ev, h1.keep k (fun b hb => hn b (.inl hb)), h2, h3, k.blk h4 (hn _ (.inr rfl)), rfl⟩
  J_lt := fun h hk => by
    obtain ⟨wv, ev, h1, h2, h3, h4, rfl⟩ := h
    rcases hk with hk | rfl
    · exact h1.own_lt hk
    · exact h4.lt
  alive_c := fun w t F x hJ _ => by
    obtain ⟨wv, ev, h1, -⟩ := hJ
    exact (mAlive_c x h1).mono (by rintro e w' ⟨rfl, rfl⟩; exact ⟨rfl, Keeps.refl _ _⟩)
  now_c := fun w t F x hJ _ => by
    obtain ⟨wv, ev, h1, -⟩ := hJ
    exact (mNow_c x h1).mono (by rintro e w' ⟨rfl, rfl⟩; exact ⟨rfl, Keeps.refl _ _⟩)
  keep_c := fun w t F rv qv regs wait x hJ hS hA hx hq hl => by
    obtain ⟨wv, ev, h1, h2, h3, h4, rfl⟩ := hJ
    refine (mSaved1_c (d := ⟨t.1, t.2, wait⟩) x b ⟨h1, hS, h2, fun e he => hq e he, h3, hl⟩ h4).mono ?_
    rintro e w' ⟨rfl, wv', ev', C', k', o'⟩
    refine ⟨rfl, _, ⟨wv', ev', C'.J, C'.ok, C'.nb, k'.blk h4 (fun h => ?_), rfl⟩, C'.S, fun k hk => ?_, k'.mono (fun k _ hk => hk.elim (fun h => .inl (.inl h)) .inr), fun k hk => ?_⟩
    · rcases h with h | h
      · obtain ⟨_, T, h', hT⟩ := h1.own_type h
        refine h4.ne h' ?_ rfl
        rcases hT with rfl | rfl | rfl | rfl | rfl <;> decide
      · exact hA b ⟨.inr rfl, h⟩
    · rcases hk with ⟨hk | hk, hs⟩
      · exact C'.J.side_apart C'.S hk hs
      · exact hA k ⟨.inr hk, hs⟩
    · rcases hk with hk | hk
      · exact (o' k hk).imp .inl id
      · exact .inl (.inr hk)
  DK_D := fun h => h
  DK_keep := fun _ h => h
  D_keep := fun _ h => h
  D_new := fun h => mNow_R64 h
  D_wait := fun {t wait x} _ h => QOk.drain 2000 (d := ⟨{ t.1 with A := mBring t.1.A x }, t.2, wait⟩) h
  keep_len := mDrain_len _ _

/-! Fields that lead to what is dead. -/

set_option maxHeartbeats 1000000 in
set_option maxRecDepth 100000 in
theorem mFix_c (i : Int) (q : Bool) (b : Nat) (J : CutJ w H wv ev s c) (hb : PcAt w b H) :
    Calls Try.prog 152 #[.int .i64 i, .bool q, .pointer (some ⟨b, 0, none⟩)] w fun e w' => e = .returned (.tuple #[]) ∧ ArenaTo w H.pa H.g w' (mFix s.A i q) := by
  have HJ := Lib.hid J; have HB := Lib.hid hb
  have b0 := hb.cell 0; have bl := hb.lt
  simp only [List.getElem?_cons_zero] at b0
  clear J hb
  obtain ⟨c0, -, -, -, -, p0, -, -, -⟩ := HJ.out.cells
  have pl := HJ.out.hp.lt; have cl := HJ.out.hc.lt
  have HD := Lib.hid (HJ.out.same ((Keeps.refl (fun _ => False) w).drew))
  cases q
  · go_enter Try.func152, Try.ntmps152
    go_wp2_with fail
    refine wp_region_ro (.free 7 (.free 16 (.pure 0 (.free 1 (.free 2 (.pure 3 (.free 4 (.free 5 (.pure 6 (.pure 8 (.pure 9 (.free 10 (.free 11 (.pure 12 (.free 13 (.free 14 (.pure 15 (.run 17 (.run 18 (.run 19 (.swi [] (.fin)))))))))))))))))))))) [19] (fun w' => w'.cell? ⟨b, 0, none⟩ = some (.pointer (some ⟨H.pc, 0, none⟩)) ∧ w'.cell? ⟨H.pc, 0, none⟩ = some (.pointer (some ⟨H.p, 0, none⟩)) ∧ w'.cell? ⟨H.p, 0, none⟩ = some (.pointer (some ⟨H.pa, 0, none⟩))) (by kernel_rfl) (by kernel_rfl) ⟨b0, c0, p0⟩ ?_
    first | (refine wpRO_free rfl rfl _ (fun w' => by go_simp; exact Gives.mk _ _) (fun K hK => ?_); go_simp; refine hK _ ?_; clear hK K) | (refine wpRO_skipF rfl rfl (fun K hK => ?_); go_simp; refine hK _ ?_; clear hK K)
    first | (refine wpRO_free rfl rfl _ (fun w' => by go_simp; exact Gives.mk _ _) (fun K hK => ?_); go_simp; refine hK _ ?_; clear hK K) | (refine wpRO_skipF rfl rfl (fun K hK => ?_); go_simp; refine hK _ ?_; clear hK K)
    first | (refine wpRO_pure rfl rfl _ (fun w' hG => by obtain ⟨g0, g1, g2⟩ := hG; exact gives_agg2 rfl (by decide +kernel) rfl (by assumption) (by assumption)) (fun K hK => ?_); go_simp; refine hK _ ?_; clear hK K) | (refine wpRO_pure rfl rfl _ (fun w' hG => by obtain ⟨g0, g1, g2⟩ := hG; go_simp; exact Gives.mk _ _) (fun K hK => ?_); go_simp; refine hK _ ?_; clear hK K) | (refine wpRO_skip rfl rfl (fun K hK => ?_); go_simp; refine hK _ ?_; clear hK K)
    first | (refine wpRO_free rfl rfl _ (fun w' => by go_simp; exact Gives.mk _ _) (fun K hK => ?_); go_simp; refine hK _ ?_; clear hK K) | (refine wpRO_skipF rfl rfl (fun K hK => ?_); go_simp; refine hK _ ?_; clear hK K)
    first | (refine wpRO_free rfl rfl _ (fun w' => by go_simp; exact Gives.mk _ _) (fun K hK => ?_); go_simp; refine hK _ ?_; clear hK K) | (refine wpRO_skipF rfl rfl (fun K hK => ?_); go_simp; refine hK _ ?_; clear hK K)
    first | (refine wpRO_pure rfl rfl _ (fun w' hG => by obtain ⟨g0, g1, g2⟩ := hG; exact gives_agg2 rfl (by decide +kernel) rfl (by assumption) (by assumption)) (fun K hK => ?_); go_simp; refine hK _ ?_; clear hK K) | (refine wpRO_pure rfl rfl _ (fun w' hG => by obtain ⟨g0, g1, g2⟩ := hG; go_simp; exact Gives.mk _ _) (fun K hK => ?_); go_simp; refine hK _ ?_; clear hK K) | (refine wpRO_skip rfl rfl (fun K hK => ?_); go_simp; refine hK _ ?_; clear hK K)
    first | (refine wpRO_free rfl rfl _ (fun w' => by go_simp; exact Gives.mk _ _) (fun K hK => ?_); go_simp; refine hK _ ?_; clear hK K) | (refine wpRO_skipF rfl rfl (fun K hK => ?_); go_simp; refine hK _ ?_; clear hK K)
    first | (refine wpRO_free rfl rfl _ (fun w' => by go_simp; exact Gives.mk _ _) (fun K hK => ?_); go_simp; refine hK _ ?_; clear hK K) | (refine wpRO_skipF rfl rfl (fun K hK => ?_); go_simp; refine hK _ ?_; clear hK K)
    first | (refine wpRO_pure rfl rfl _ (fun w' hG => by obtain ⟨g0, g1, g2⟩ := hG; exact gives_agg2 rfl (by decide +kernel) rfl (by assumption) (by assumption)) (fun K hK => ?_); go_simp; refine hK _ ?_; clear hK K) | (refine wpRO_pure rfl rfl _ (fun w' hG => by obtain ⟨g0, g1, g2⟩ := hG; go_simp; exact Gives.mk _ _) (fun K hK => ?_); go_simp; refine hK _ ?_; clear hK K) | (refine wpRO_skip rfl rfl (fun K hK => ?_); go_simp; refine hK _ ?_; clear hK K)
    first | (refine wpRO_pure rfl rfl _ (fun w' hG => by obtain ⟨g0, g1, g2⟩ := hG; exact gives_agg2 rfl (by decide +kernel) rfl (by assumption) (by assumption)) (fun K hK => ?_); go_simp; refine hK _ ?_; clear hK K) | (refine wpRO_pure rfl rfl _ (fun w' hG => by obtain ⟨g0, g1, g2⟩ := hG; go_simp; exact Gives.mk _ _) (fun K hK => ?_); go_simp; refine hK _ ?_; clear hK K) | (refine wpRO_skip rfl rfl (fun K hK => ?_); go_simp; refine hK _ ?_; clear hK K)
    first | (refine wpRO_pure rfl rfl _ (fun w' hG => by obtain ⟨g0, g1, g2⟩ := hG; exact gives_agg2 rfl (by decide +kernel) rfl (by assumption) (by assumption)) (fun K hK => ?_); go_simp; refine hK _ ?_; clear hK K) | (refine wpRO_pure rfl rfl _ (fun w' hG => by obtain ⟨g0, g1, g2⟩ := hG; go_simp; exact Gives.mk _ _) (fun K hK => ?_); go_simp; refine hK _ ?_; clear hK K) | (refine wpRO_skip rfl rfl (fun K hK => ?_); go_simp; refine hK _ ?_; clear hK K)
    first | (refine wpRO_free rfl rfl _ (fun w' => by go_simp; exact Gives.mk _ _) (fun K hK => ?_); go_simp; refine hK _ ?_; clear hK K) | (refine wpRO_skipF rfl rfl (fun K hK => ?_); go_simp; refine hK _ ?_; clear hK K)
    first | (refine wpRO_free rfl rfl _ (fun w' => by go_simp; exact Gives.mk _ _) (fun K hK => ?_); go_simp; refine hK _ ?_; clear hK K) | (refine wpRO_skipF rfl rfl (fun K hK => ?_); go_simp; refine hK _ ?_; clear hK K)
    first | (refine wpRO_pure rfl rfl _ (fun w' hG => by obtain ⟨g0, g1, g2⟩ := hG; exact gives_agg2 rfl (by decide +kernel) rfl (by assumption) (by assumption)) (fun K hK => ?_); go_simp; refine hK _ ?_; clear hK K) | (refine wpRO_pure rfl rfl _ (fun w' hG => by obtain ⟨g0, g1, g2⟩ := hG; go_simp; exact Gives.mk _ _) (fun K hK => ?_); go_simp; refine hK _ ?_; clear hK K) | (refine wpRO_skip rfl rfl (fun K hK => ?_); go_simp; refine hK _ ?_; clear hK K)
    first | (refine wpRO_free rfl rfl _ (fun w' => by go_simp; exact Gives.mk _ _) (fun K hK => ?_); go_simp; refine hK _ ?_; clear hK K) | (refine wpRO_skipF rfl rfl (fun K hK => ?_); go_simp; refine hK _ ?_; clear hK K)
    first | (refine wpRO_free rfl rfl _ (fun w' => by go_simp; exact Gives.mk _ _) (fun K hK => ?_); go_simp; refine hK _ ?_; clear hK K) | (refine wpRO_skipF rfl rfl (fun K hK => ?_); go_simp; refine hK _ ?_; clear hK K)
    first | (refine wpRO_pure rfl rfl _ (fun w' hG => by obtain ⟨g0, g1, g2⟩ := hG; exact gives_agg2 rfl (by decide +kernel) rfl (by assumption) (by assumption)) (fun K hK => ?_); go_simp; refine hK _ ?_; clear hK K) | (refine wpRO_pure rfl rfl _ (fun w' hG => by obtain ⟨g0, g1, g2⟩ := hG; go_simp; exact Gives.mk _ _) (fun K hK => ?_); go_simp; refine hK _ ?_; clear hK K) | (refine wpRO_skip rfl rfl (fun K hK => ?_); go_simp; refine hK _ ?_; clear hK K)
    refine wpRO_run rfl rfl (fun K hK => ?_); unfold gRun; go_simp
    refine (Load_c i _ HD.out.ha).mono ?_
    rintro e w1 ⟨rfl, rfl⟩
    refine hK _ _ (fun h => h) ?_
    clear hK K
    refine wpRO_run rfl rfl (fun K hK => ?_); unfold gRun; go_simp
    refine (mNow_c (s.A.load i) HD.out).mono ?_
    rintro e w1 ⟨rfl, rfl⟩
    refine hK _ _ (fun h => h) ?_
    clear hK K
    skip
    refine wpRO_chg rfl rfl rfl (fun K hK => ?_); unfold gRun; go_simp
    have HR := Lib.hid (mNow_R64 (A := s.A) (HD.out.ha.ok.load i))
    refine (Store_c i _ _ HD.out.ha HR.out).mono ?_
    rintro e w3 ⟨rfl, t⟩
    have T2 := Lib.hid (ArenaTo.from_same (w := w) ((Keeps.refl (fun _ => False) w).drew) t)
    clear t
    refine hK _ _ ?_
    clear hK K c0 p0 pl cl
    refine wpRO_swi (fun _ => True) trivial (wpRO_fin ?_)
    go_wp2_with fail
    go_end0
    exact ⟨rfl, T2.out⟩
  · go_enter Try.func152, Try.ntmps152
    go_wp2_with fail
    refine wp_region_ro (.free 7 (.pure 0 (.free 1 (.free 2 (.pure 3 (.free 4 (.free 5 (.pure 6 (.run 8 (.run 9 (.swi [] (.fin)))))))))))) [9] (fun w' => w'.cell? ⟨b, 0, none⟩ = some (.pointer (some ⟨H.pc, 0, none⟩)) ∧ w'.cell? ⟨H.pc, 0, none⟩ = some (.pointer (some ⟨H.p, 0, none⟩)) ∧ w'.cell? ⟨H.p, 0, none⟩ = some (.pointer (some ⟨H.pa, 0, none⟩))) (by kernel_rfl) (by kernel_rfl) ⟨b0, c0, p0⟩ ?_
    first | (refine wpRO_free rfl rfl _ (fun w' => by go_simp; exact Gives.mk _ _) (fun K hK => ?_); go_simp; refine hK _ ?_; clear hK K) | (refine wpRO_skipF rfl rfl (fun K hK => ?_); go_simp; refine hK _ ?_; clear hK K)
    first | (refine wpRO_pure rfl rfl _ (fun w' hG => by obtain ⟨g0, g1, g2⟩ := hG; exact gives_agg2 rfl (by decide +kernel) rfl (by assumption) (by assumption)) (fun K hK => ?_); go_simp; refine hK _ ?_; clear hK K) | (refine wpRO_pure rfl rfl _ (fun w' hG => by obtain ⟨g0, g1, g2⟩ := hG; go_simp; exact Gives.mk _ _) (fun K hK => ?_); go_simp; refine hK _ ?_; clear hK K) | (refine wpRO_skip rfl rfl (fun K hK => ?_); go_simp; refine hK _ ?_; clear hK K)
    first | (refine wpRO_free rfl rfl _ (fun w' => by go_simp; exact Gives.mk _ _) (fun K hK => ?_); go_simp; refine hK _ ?_; clear hK K) | (refine wpRO_skipF rfl rfl (fun K hK => ?_); go_simp; refine hK _ ?_; clear hK K)
    first | (refine wpRO_free rfl rfl _ (fun w' => by go_simp; exact Gives.mk _ _) (fun K hK => ?_); go_simp; refine hK _ ?_; clear hK K) | (refine wpRO_skipF rfl rfl (fun K hK => ?_); go_simp; refine hK _ ?_; clear hK K)
    first | (refine wpRO_pure rfl rfl _ (fun w' hG => by obtain ⟨g0, g1, g2⟩ := hG; exact gives_agg2 rfl (by decide +kernel) rfl (by assumption) (by assumption)) (fun K hK => ?_); go_simp; refine hK _ ?_; clear hK K) | (refine wpRO_pure rfl rfl _ (fun w' hG => by obtain ⟨g0, g1, g2⟩ := hG; go_simp; exact Gives.mk _ _) (fun K hK => ?_); go_simp; refine hK _ ?_; clear hK K) | (refine wpRO_skip rfl rfl (fun K hK => ?_); go_simp; refine hK _ ?_; clear hK K)
    first | (refine wpRO_free rfl rfl _ (fun w' => by go_simp; exact Gives.mk _ _) (fun K hK => ?_); go_simp; refine hK _ ?_; clear hK K) | (refine wpRO_skipF rfl rfl (fun K hK => ?_); go_simp; refine hK _ ?_; clear hK K)
    first | (refine wpRO_free rfl rfl _ (fun w' => by go_simp; exact Gives.mk _ _) (fun K hK => ?_); go_simp; refine hK _ ?_; clear hK K) | (refine wpRO_skipF rfl rfl (fun K hK => ?_); go_simp; refine hK _ ?_; clear hK K)
    first | (refine wpRO_pure rfl rfl _ (fun w' hG => by obtain ⟨g0, g1, g2⟩ := hG; exact gives_agg2 rfl (by decide +kernel) rfl (by assumption) (by assumption)) (fun K hK => ?_); go_simp; refine hK _ ?_; clear hK K) | (refine wpRO_pure rfl rfl _ (fun w' hG => by obtain ⟨g0, g1, g2⟩ := hG; go_simp; exact Gives.mk _ _) (fun K hK => ?_); go_simp; refine hK _ ?_; clear hK K) | (refine wpRO_skip rfl rfl (fun K hK => ?_); go_simp; refine hK _ ?_; clear hK K)
    refine wpRO_run rfl rfl (fun K hK => ?_); unfold gRun; go_simp
    refine (Gone_c _).mono ?_
    rintro e w1 ⟨rfl, rfl⟩
    refine hK _ _ (fun h => h) ?_
    clear hK K
    skip
    refine wpRO_chg rfl rfl rfl (fun K hK => ?_); unfold gRun; go_simp
    refine (Store_c i 3 _ HD.out.ha (by unfold R64; omega)).mono ?_
    rintro e w3 ⟨rfl, t⟩
    have T2 := Lib.hid (ArenaTo.from_same (w := w) ((Keeps.refl (fun _ => False) w).drew) t)
    clear t
    refine hK _ _ ?_
    clear hK K c0 p0 pl cl
    refine wpRO_swi (fun _ => True) trivial (wpRO_fin ?_)
    go_wp2_with fail
    go_end0
    exact ⟨rfl, T2.out⟩
end

end Go.Proofs.Ytjifdalflepcoab

namespace Go.Proofs.Ytjifdalflepcoab
open Go.RowKit
set_option linter.unusedVariables false
set_option linter.unusedSimpArgs false

def mGoneW1 (A : Ar) (i : Int) : Ar := mFix A (i + 1) (!mAlive A (A.load (i + 1)))

theorem mGoneW_snoc {A : Ar} {l : List Int} {k : Nat} (h : k < l.length) : mGoneW A (l.take (k + 1)) = mGoneW1 (mGoneW A (l.take k)) (l.getD k 0) := by
  unfold mGoneW
  rw [← List.take_append_getElem h, List.foldl_append, List.getD_eq_getElem?_getD, List.getElem?_eq_getElem h]; rfl

theorem mGoneE_snoc {A : Ar} {l : List Int} {k : Nat} (h : k < l.length) : (l.take (k + 1)).foldl mGoneE1 A = mGoneE1 ((l.take k).foldl mGoneE1 A) (l.getD k 0) := by
  rw [← List.take_append_getElem h, List.foldl_append, List.getD_eq_getElem?_getD, List.getElem?_eq_getElem h]; rfl

section
variable {w w' : World} {H : CH} {wv ev rv qv : Value} {rg : List (Int × Int)} {d : Md} {s : Ms} {c : Int}

theorem CutJ.var (J : CutJ w H wv ev s c) {b : Nat} (hb : PcAt w b H) {A : Ar} (t : ArenaTo w H.pa H.g w' A) : PcAt w' b H := t.k.blk hb (fun h => by
  rcases h with h | h
  · exact hb.ne J.ha.hp (by decide) h
  · exact hb.ne J.ha.hg (by decide) h)

set_option maxHeartbeats 4000000 in
set_option maxRecDepth 100000 in
theorem mGone_c (J : CutJ w H wv ev s c) (hs : MsOk s 100000) :
    Calls Try.prog 122 #[.pointer (some ⟨H.pc, 0, none⟩)] w fun e w' => e = .returned (.tuple #[]) ∧ ArenaTo w H.pa H.g w' (mGone s) := by
  obtain ⟨wo, wc, hwv, -, -, -⟩ := J.hw.rd
  obtain ⟨eo, ec, hev, -, -, -⟩ := J.he.rd
  subst hwv; subst hev
  have HJ0 := Lib.hid J
  have hwb := hs.wb; have heb := hs.eb; have hl := hs.len
  have HWB := Lib.hid hwb; have HEB := Lib.hid heb
  clear J hwb heb hs
  generalize hwx : w.alloc (.cells #[.pointer (some ⟨H.pc, 0, none⟩)] 171) = wx
  have HK := Lib.hid (show Keeps (fun _ => False) w wx by rw [← hwx]; exact (Keeps.refl _ _).alloc _)
  have HB := Lib.hid (show PcAt wx w.heap.size H by rw [← hwx]; exact Blk.newAt _ rfl rfl)
  have HX := Lib.hid hwx
  have HJ := Lib.hid (HJ0.out.same HK.out)
  clear hwx
  have q3 := HJ0.out.cells.2.2.2.1; have cl := HJ0.out.hc.lt
  go_enter Try.func122, Try.ntmps122
  go_wp2_with fail
  rw [HX.out]
  go_loopw [14] (fun u wr => ∃ k : Nat, k ≤ s.wk.length ∧ u = .int .i64 k ∧ ArenaTo wx H.pa H.g wr (mGoneW s.A (s.wk.take k))) (fun u _ => s.wk.length - (intOf u).toNat)
  case atStart => exact ⟨0, Nat.zero_le _, rfl, ArenaTo.refl HJ.out.ha (Keeps.refl _ _)⟩
  case round =>
    clear q3 cl
    obtain ⟨k, hk, rfl, t⟩ := hrel
    have T := Lib.hid t
    have JR := Lib.hid (HJ.out.arena t)
    have BR := Lib.hid (HJ.out.var HB.out t)
    clear t
    have b0 := BR.out.cell 0; have bl := BR.out.lt
    simp only [List.getElem?_cons_zero] at b0
    have c0 := JR.out.cells.1; have p0 := JR.out.cells.2.2.2.2.2.1; have pl := JR.out.hp.lt; have cl := JR.out.hc.lt
    by_cases hlt : k < s.wk.length
    · obtain ⟨_, _, e', rd, -, -⟩ := JR.out.hw.rd
      cases e'
      obtain ⟨ge, oe, rfl, d0⟩ := rd.int k hlt
      have hgl := (JR.out.hw.own rfl).1
      have hin := HWB.out (s.wk.getD k 0) (by rw [List.getD_eq_getElem?_getD, List.getElem?_eq_getElem hlt]; exact List.getElem_mem hlt)
      have HTK := Lib.hid (mGoneW_snoc (A := s.A) hlt)
      generalize s.wk.getD k 0 = i at *
      generalize mGoneW s.A (s.wk.take k) = B at *
      have hi1 : IntKind.i64.wrap (i + 1) = i + 1 := IntWalk.i64_in _ (by omega)
      clear rd
      go_wp2_with fail
      have JD := Lib.hid (JR.out.same ((Keeps.refl (fun _ => False) wr).drew))
      have BD := Lib.hid (((Keeps.refl (fun _ => False) wr).drew).blk BR.out (fun h => h))
      refine wp_region_ro (.free 0 (.free 1 (.free 2 (.free 11 (.free 12 (.pure 3 (.pure 4 (.free 5 (.free 6 (.pure 7 (.free 8 (.free 9 (.pure 10 (.run 13 (.run 14 (.swi [16] (.free 15 (.run 16 (.swi [] (.fin)))))))))))))))))))) [14, 15, 16] (fun w' => w'.cell? ⟨w.heap.size, 0, none⟩ = some (.pointer (some ⟨H.pc, 0, none⟩)) ∧ w'.cell? ⟨H.pc, 0, none⟩ = some (.pointer (some ⟨H.p, 0, none⟩)) ∧ w'.cell? ⟨H.p, 0, none⟩ = some (.pointer (some ⟨H.pa, 0, none⟩))) (by kernel_rfl) (by kernel_rfl) ⟨b0, c0, p0⟩ ?_
      first | (refine wpRO_free rfl rfl _ (fun w' => by go_simp; exact Gives.mk _ _) (fun K hK => ?_); go_simp; refine hK _ ?_; clear hK K) | (refine wpRO_skipF rfl rfl (fun K hK => ?_); go_simp; refine hK _ ?_; clear hK K)
      first | (refine wpRO_free rfl rfl _ (fun w' => by go_simp; exact Gives.mk _ _) (fun K hK => ?_); go_simp; refine hK _ ?_; clear hK K) | (refine wpRO_skipF rfl rfl (fun K hK => ?_); go_simp; refine hK _ ?_; clear hK K)
      first | (refine wpRO_free rfl rfl _ (fun w' => by go_simp; exact Gives.mk _ _) (fun K hK => ?_); go_simp; refine hK _ ?_; clear hK K) | (refine wpRO_skipF rfl rfl (fun K hK => ?_); go_simp; refine hK _ ?_; clear hK K)
      first | (refine wpRO_free rfl rfl _ (fun w' => by go_simp; exact Gives.mk _ _) (fun K hK => ?_); go_simp; refine hK _ ?_; clear hK K) | (refine wpRO_skipF rfl rfl (fun K hK => ?_); go_simp; refine hK _ ?_; clear hK K)
      first | (refine wpRO_free rfl rfl _ (fun w' => by go_simp; exact Gives.mk _ _) (fun K hK => ?_); go_simp; refine hK _ ?_; clear hK K) | (refine wpRO_skipF rfl rfl (fun K hK => ?_); go_simp; refine hK _ ?_; clear hK K)
      first | (refine wpRO_pure rfl rfl _ (fun w' hG => by obtain ⟨g0, g1, g2⟩ := hG; exact gives_agg2 rfl (by decide +kernel) rfl (by assumption) (by assumption)) (fun K hK => ?_); go_simp; refine hK _ ?_; clear hK K) | (refine wpRO_pure rfl rfl _ (fun w' hG => by obtain ⟨g0, g1, g2⟩ := hG; go_simp; exact Gives.mk _ _) (fun K hK => ?_); go_simp; refine hK _ ?_; clear hK K) | (refine wpRO_skip rfl rfl (fun K hK => ?_); go_simp; refine hK _ ?_; clear hK K)
      first | (refine wpRO_pure rfl rfl _ (fun w' hG => by obtain ⟨g0, g1, g2⟩ := hG; exact gives_agg2 rfl (by decide +kernel) rfl (by assumption) (by assumption)) (fun K hK => ?_); go_simp; refine hK _ ?_; clear hK K) | (refine wpRO_pure rfl rfl _ (fun w' hG => by obtain ⟨g0, g1, g2⟩ := hG; go_simp; exact Gives.mk _ _) (fun K hK => ?_); go_simp; refine hK _ ?_; clear hK K) | (refine wpRO_skip rfl rfl (fun K hK => ?_); go_simp; refine hK _ ?_; clear hK K)
      first | (refine wpRO_free rfl rfl _ (fun w' => by go_simp; exact Gives.mk _ _) (fun K hK => ?_); go_simp; refine hK _ ?_; clear hK K) | (refine wpRO_skipF rfl rfl (fun K hK => ?_); go_simp; refine hK _ ?_; clear hK K)
      first | (refine wpRO_free rfl rfl _ (fun w' => by go_simp; exact Gives.mk _ _) (fun K hK => ?_); go_simp; refine hK _ ?_; clear hK K) | (refine wpRO_skipF rfl rfl (fun K hK => ?_); go_simp; refine hK _ ?_; clear hK K)
      first | (refine wpRO_pure rfl rfl _ (fun w' hG => by obtain ⟨g0, g1, g2⟩ := hG; exact gives_agg2 rfl (by decide +kernel) rfl (by assumption) (by assumption)) (fun K hK => ?_); go_simp; refine hK _ ?_; clear hK K) | (refine wpRO_pure rfl rfl _ (fun w' hG => by obtain ⟨g0, g1, g2⟩ := hG; go_simp; exact Gives.mk _ _) (fun K hK => ?_); go_simp; refine hK _ ?_; clear hK K) | (refine wpRO_skip rfl rfl (fun K hK => ?_); go_simp; refine hK _ ?_; clear hK K)
      first | (refine wpRO_free rfl rfl _ (fun w' => by go_simp; exact Gives.mk _ _) (fun K hK => ?_); go_simp; refine hK _ ?_; clear hK K) | (refine wpRO_skipF rfl rfl (fun K hK => ?_); go_simp; refine hK _ ?_; clear hK K)
      first | (refine wpRO_free rfl rfl _ (fun w' => by go_simp; exact Gives.mk _ _) (fun K hK => ?_); go_simp; refine hK _ ?_; clear hK K) | (refine wpRO_skipF rfl rfl (fun K hK => ?_); go_simp; refine hK _ ?_; clear hK K)
      first | (refine wpRO_pure rfl rfl _ (fun w' hG => by obtain ⟨g0, g1, g2⟩ := hG; exact gives_agg2 rfl (by decide +kernel) rfl (by assumption) (by assumption)) (fun K hK => ?_); go_simp; refine hK _ ?_; clear hK K) | (refine wpRO_pure rfl rfl _ (fun w' hG => by obtain ⟨g0, g1, g2⟩ := hG; go_simp; exact Gives.mk _ _) (fun K hK => ?_); go_simp; refine hK _ ?_; clear hK K) | (refine wpRO_skip rfl rfl (fun K hK => ?_); go_simp; refine hK _ ?_; clear hK K)
      refine wpRO_run rfl rfl (fun K hK => ?_); unfold gRun; go_simp
      refine (Load_c (i + 1) _ JD.out.ha).mono ?_
      rintro e w1 ⟨rfl, rfl⟩
      refine hK _ _ (fun h => h) ?_
      clear hK K
      refine wpRO_chg rfl rfl rfl (fun K hK => ?_); unfold gRun; go_simp
      refine (mAlive_c (B.load (i + 1)) JD.out).mono ?_
      rintro e w1 ⟨rfl, rfl⟩
      refine hK _ _ ?_
      clear hK K
      refine wpRO_swi (fun _ => True) trivial ?_
      first | (refine wpRO_free rfl rfl _ (fun w' => by go_simp; exact Gives.mk _ _) (fun K hK => ?_); go_simp; refine hK _ ?_; clear hK K) | (refine wpRO_skipF rfl rfl (fun K hK => ?_); go_simp; refine hK _ ?_; clear hK K)
      refine wpRO_chg rfl rfl rfl (fun K hK => ?_); unfold gRun; go_simp
      refine (mFix_c (i + 1) (!mAlive B (B.load (i + 1))) w.heap.size JD.out BD.out).mono ?_
      rintro e w2 ⟨rfl, t⟩
      have T2 := Lib.hid (T.out.trans (ArenaTo.from_same ((Keeps.refl (fun _ => False) wr).drew) t))
      clear t
      refine hK _ _ ?_
      clear hK K
      refine wpRO_swi (fun _ => True) trivial (wpRO_fin ?_)
      clear b0 bl c0 p0 pl cl d0
      go_wp2_with fail
      go_roundw
      case rel => exact ⟨k + 1, hlt, by go_num, by rw [HTK.out]; exact T2.out⟩
      case measure => simp [intOf]; omega
    · obtain rfl : k = s.wk.length := by omega
      rw [List.take_length] at T JR
      have HW0 := Lib.hid (show mGone s = s.ep.foldl mGoneE1 (mGoneW s.A s.wk) from rfl)
      generalize mGoneW s.A s.wk = B at *
      obtain ⟨w1, rfl⟩ : ∃ x : World, x = wr := ⟨wr, rfl⟩
      have q4 := JR.out.cells.2.2.2.2.1
      try dsimp only at q4
      go_wp2_with fail
      go_loopw [41] (fun u wr => ∃ k : Nat, k ≤ s.ep.length ∧ u = .int .i64 k ∧ ArenaTo w1 H.pa H.g wr ((s.ep.take k).foldl mGoneE1 B)) (fun u _ => s.ep.length - (intOf u).toNat)
      case atStart => exact ⟨0, Nat.zero_le _, rfl, ArenaTo.refl JR.out.ha (Keeps.refl _ _)⟩
      case round =>
        clear b0 bl c0 p0 pl cl q4
        obtain ⟨k, hk, rfl, t⟩ := hrel
        have T4 := Lib.hid t
        have JQ := Lib.hid (JR.out.arena t)
        have BQ := Lib.hid (JR.out.var BR.out t)
        clear t
        have b0 := BQ.out.cell 0; have bl := BQ.out.lt
        simp only [List.getElem?_cons_zero] at b0
        have c0 := JQ.out.cells.1; have p0 := JQ.out.cells.2.2.2.2.2.1; have pl := JQ.out.hp.lt; have cl := JQ.out.hc.lt
        by_cases hlt2 : k < s.ep.length
        · obtain ⟨_, _, e', rd, -, -⟩ := JQ.out.he.rd
          cases e'
          obtain ⟨ge, oe, rfl, d0⟩ := rd.int k hlt2
          have hgl := (JQ.out.he.own rfl).1
          have hin := HEB.out (s.ep.getD k 0) (by rw [List.getD_eq_getElem?_getD, List.getElem?_eq_getElem hlt2]; exact List.getElem_mem hlt2)
          have HTK := Lib.hid (mGoneE_snoc (A := B) hlt2)
          generalize s.ep.getD k 0 = i at *
          generalize (s.ep.take k).foldl mGoneE1 B = D at *
          have hi1 : IntKind.i64.wrap (i + 1) = i + 1 := IntWalk.i64_in _ (by omega)
          have hi2 : IntKind.i64.wrap (i + 2) = i + 2 := IntWalk.i64_in _ (by omega)
          clear rd
          go_wp2_with fail
          have JD := Lib.hid (JQ.out.same ((Keeps.refl (fun _ => False) wr).drew))
          have BD := Lib.hid (((Keeps.refl (fun _ => False) wr).drew).blk BQ.out (fun h => h))
          refine wp_region_ro (.free 8 (.free 9 (.pure 0 (.pure 1 (.free 2 (.free 3 (.pure 4 (.free 5 (.free 6 (.pure 7 (.run 10 (.run 11 (.swi [] (.free 12 (.free 13 (.fin)))))))))))))))) [11, 12, 13] (fun w' => w'.cell? ⟨w.heap.size, 0, none⟩ = some (.pointer (some ⟨H.pc, 0, none⟩)) ∧ w'.cell? ⟨H.pc, 0, none⟩ = some (.pointer (some ⟨H.p, 0, none⟩)) ∧ w'.cell? ⟨H.p, 0, none⟩ = some (.pointer (some ⟨H.pa, 0, none⟩))) (by kernel_rfl) (by kernel_rfl) ⟨b0, c0, p0⟩ ?_
          first | (refine wpRO_free rfl rfl _ (fun w' => by go_simp; exact Gives.mk _ _) (fun K hK => ?_); go_simp; refine hK _ ?_; clear hK K) | (refine wpRO_skipF rfl rfl (fun K hK => ?_); go_simp; refine hK _ ?_; clear hK K)
          first | (refine wpRO_free rfl rfl _ (fun w' => by go_simp; exact Gives.mk _ _) (fun K hK => ?_); go_simp; refine hK _ ?_; clear hK K) | (refine wpRO_skipF rfl rfl (fun K hK => ?_); go_simp; refine hK _ ?_; clear hK K)
          first | (refine wpRO_pure rfl rfl _ (fun w' hG => by obtain ⟨g0, g1, g2⟩ := hG; exact gives_agg2 rfl (by decide +kernel) rfl (by assumption) (by assumption)) (fun K hK => ?_); go_simp; refine hK _ ?_; clear hK K) | (refine wpRO_pure rfl rfl _ (fun w' hG => by obtain ⟨g0, g1, g2⟩ := hG; go_simp; exact Gives.mk _ _) (fun K hK => ?_); go_simp; refine hK _ ?_; clear hK K) | (refine wpRO_skip rfl rfl (fun K hK => ?_); go_simp; refine hK _ ?_; clear hK K)
          first | (refine wpRO_pure rfl rfl _ (fun w' hG => by obtain ⟨g0, g1, g2⟩ := hG; exact gives_agg2 rfl (by decide +kernel) rfl (by assumption) (by assumption)) (fun K hK => ?_); go_simp; refine hK _ ?_; clear hK K) | (refine wpRO_pure rfl rfl _ (fun w' hG => by obtain ⟨g0, g1, g2⟩ := hG; go_simp; exact Gives.mk _ _) (fun K hK => ?_); go_simp; refine hK _ ?_; clear hK K) | (refine wpRO_skip rfl rfl (fun K hK => ?_); go_simp; refine hK _ ?_; clear hK K)
          first | (refine wpRO_free rfl rfl _ (fun w' => by go_simp; exact Gives.mk _ _) (fun K hK => ?_); go_simp; refine hK _ ?_; clear hK K) | (refine wpRO_skipF rfl rfl (fun K hK => ?_); go_simp; refine hK _ ?_; clear hK K)
          first | (refine wpRO_free rfl rfl _ (fun w' => by go_simp; exact Gives.mk _ _) (fun K hK => ?_); go_simp; refine hK _ ?_; clear hK K) | (refine wpRO_skipF rfl rfl (fun K hK => ?_); go_simp; refine hK _ ?_; clear hK K)
          first | (refine wpRO_pure rfl rfl _ (fun w' hG => by obtain ⟨g0, g1, g2⟩ := hG; exact gives_agg2 rfl (by decide +kernel) rfl (by assumption) (by assumption)) (fun K hK => ?_); go_simp; refine hK _ ?_; clear hK K) | (refine wpRO_pure rfl rfl _ (fun w' hG => by obtain ⟨g0, g1, g2⟩ := hG; go_simp; exact Gives.mk _ _) (fun K hK => ?_); go_simp; refine hK _ ?_; clear hK K) | (refine wpRO_skip rfl rfl (fun K hK => ?_); go_simp; refine hK _ ?_; clear hK K)
          first | (refine wpRO_free rfl rfl _ (fun w' => by go_simp; exact Gives.mk _ _) (fun K hK => ?_); go_simp; refine hK _ ?_; clear hK K) | (refine wpRO_skipF rfl rfl (fun K hK => ?_); go_simp; refine hK _ ?_; clear hK K)
          first | (refine wpRO_free rfl rfl _ (fun w' => by go_simp; exact Gives.mk _ _) (fun K hK => ?_); go_simp; refine hK _ ?_; clear hK K) | (refine wpRO_skipF rfl rfl (fun K hK => ?_); go_simp; refine hK _ ?_; clear hK K)
          first | (refine wpRO_pure rfl rfl _ (fun w' hG => by obtain ⟨g0, g1, g2⟩ := hG; exact gives_agg2 rfl (by decide +kernel) rfl (by assumption) (by assumption)) (fun K hK => ?_); go_simp; refine hK _ ?_; clear hK K) | (refine wpRO_pure rfl rfl _ (fun w' hG => by obtain ⟨g0, g1, g2⟩ := hG; go_simp; exact Gives.mk _ _) (fun K hK => ?_); go_simp; refine hK _ ?_; clear hK K) | (refine wpRO_skip rfl rfl (fun K hK => ?_); go_simp; refine hK _ ?_; clear hK K)
          refine wpRO_run rfl rfl (fun K hK => ?_); unfold gRun; go_simp
          refine (Load_c (i + 1) _ JD.out.ha).mono ?_
          rintro e w2 ⟨rfl, rfl⟩
          refine hK _ _ (fun h => h) ?_
          clear hK K
          refine wpRO_chg rfl rfl rfl (fun K hK => ?_); unfold gRun; go_simp
          refine (mAlive_c (D.load (i + 1)) JD.out).mono ?_
          rintro e w2 ⟨rfl, rfl⟩
          refine hK _ _ ?_
          clear hK K
          refine wpRO_swi (fun _ => True) trivial ?_
          first | (refine wpRO_free rfl rfl _ (fun w' => by go_simp; exact Gives.mk _ _) (fun K hK => ?_); go_simp; refine hK _ ?_; clear hK K) | (refine wpRO_skipF rfl rfl (fun K hK => ?_); go_simp; refine hK _ ?_; clear hK K)
          first | (refine wpRO_free rfl rfl _ (fun w' => by go_simp; exact Gives.mk _ _) (fun K hK => ?_); go_simp; refine hK _ ?_; clear hK K) | (refine wpRO_skipF rfl rfl (fun K hK => ?_); go_simp; refine hK _ ?_; clear hK K)
          refine wpRO_fin ?_
          clear b0 bl c0 p0 pl cl d0
          generalize hdd : (!mAlive D (D.load (i + 1))) = dd
          have HDD := Lib.hid hdd
          clear hdd
          go_wp2_with fail
          refine (mFix_c (i + 1) dd w.heap.size JD.out BD.out).mono ?_
          rintro e w3 ⟨rfl, t⟩
          have T3 := Lib.hid (T4.out.trans (ArenaTo.from_same ((Keeps.refl (fun _ => False) wr).drew) t))
          have J3 := Lib.hid (JD.out.arena t)
          have B3 := Lib.hid (JD.out.var BD.out t)
          clear t
          go_wp2_with fail
          refine (mFix_c (i + 2) dd w.heap.size J3.out B3.out).mono ?_
          rintro e w4 ⟨rfl, t⟩
          have T5 := Lib.hid (T3.out.trans t)
          clear t
          go_wp2_with fail
          go_roundw
          case rel => exact ⟨k + 1, hlt2, by go_num, by rw [HTK.out, mGoneE1, HDD.out]; exact T5.out⟩
          case measure => simp [intOf]; omega
        · obtain rfl : k = s.ep.length := by omega
          rw [List.take_length, ← HW0.out] at T4
          have T6 := Lib.hid (ArenaTo.from_same HK.out (T.out.trans T4.out))
          clear T4 JQ BQ
          go_wp2_with fail
          go_end0
          exact ⟨rfl, T6.out⟩
end

end Go.Proofs.Ytjifdalflepcoab

namespace Go.Proofs.Ytjifdalflepcoab
open Go.RowKit
set_option linter.unusedVariables false
set_option linter.unusedSimpArgs false

theorem mRoots_snoc : ∀ (l : List Int) (A : Ar) (x : Int), mRoots A (l ++ [x]) = (mBring (mRoots A l).1 x, (mRoots A l).2 ++ [mNow (mBring (mRoots A l).1 x) x])
  | [], A, x => rfl
  | y :: l, A, x => by
    show ((mRoots (mBring A y) (l ++ [x])).1, mNow (mBring A y) y :: (mRoots (mBring A y) (l ++ [x])).2) = _
    rw [mRoots_snoc l]
    rfl

theorem mRoots_len : ∀ (l : List Int) (A : Ar), (mRoots A l).2.length = l.length
  | [], A => rfl
  | y :: l, A => by
    show (mNow (mBring A y) y :: (mRoots (mBring A y) l).2).length = _
    rw [List.length_cons, mRoots_len l, List.length_cons]

theorem Sm.roots : ∀ (l : List Int) {A : Ar}, A.ok → Sm A (mRoots A l).1
  | [], A, h => Sm.refl h
  | y :: l, A, h => (Sm.bring h y).trans (Sm.roots l (Sm.bring h y).ok)

/-- The roots, k of which lead to what was brought over. -/
def rootsN (A : Ar) (rt : List Int) (k : Nat) : List Int := (mRoots A (rt.take k)).2 ++ rt.drop k

theorem rootsN_len {A : Ar} {rt : List Int} {k : Nat} (h : k ≤ rt.length) : (rootsN A rt k).length = rt.length := by
  unfold rootsN
  rw [List.length_append, mRoots_len, List.length_take, List.length_drop]; omega

theorem rootsN_get {A : Ar} {rt : List Int} {k : Nat} (h : k < rt.length) : (rootsN A rt k).getD k 0 = rt.getD k 0 := by
  unfold rootsN
  have hl : (mRoots A (rt.take k)).2.length = k := by rw [mRoots_len, List.length_take]; omega
  rw [List.getD_eq_getElem?_getD, List.getElem?_append_right (by omega), hl, Nat.sub_self, List.getElem?_drop, Nat.add_zero, List.getD_eq_getElem?_getD]

theorem rootsN_step {A : Ar} {rt : List Int} {k : Nat} (h : k < rt.length) : (mRoots A (rt.take (k + 1))).1 = mBring (mRoots A (rt.take k)).1 (rt.getD k 0) ∧
    (rootsN A rt k).set k (mNow (mBring (mRoots A (rt.take k)).1 (rt.getD k 0)) (rt.getD k 0)) = rootsN A rt (k + 1) := by
  have e : rt.getD k 0 = rt[k] := by rw [List.getD_eq_getElem?_getD, List.getElem?_eq_getElem h]; rfl
  have hs := mRoots_snoc (rt.take k) A (rt[k])
  rw [List.take_append_getElem h] at hs
  have hl : (mRoots A (rt.take k)).2.length = k := by rw [mRoots_len, List.length_take]; omega
  rw [e]
  refine ⟨by rw [hs], ?_⟩
  unfold rootsN
  rw [hs, List.set_append_right _ _ (by omega), hl, Nat.sub_self, List.drop_eq_getElem_cons h, List.set_cons_zero, List.append_assoc]
  rfl

/-- A cut is being made: the wood lay at h in the world w0. -/
structure MC (w0 : World) (h : WH) (w : World) (pc : Nat) (n0 : Int) (wv ev rv qv : Value) (cd : List Bool) (rt : List Int) (rg : List (Int × Int)) (d : Md) : Prop where
  C : CS w ⟨h.p, h.pa, h.g, h.pc, h.ps, h.ro, pc, n0⟩ wv ev rv qv rg d
  hc : CardsAt w h.pc h.cb n0 cd
  hr : Sl w 2 1 h.ro rt.length (rt.map (Value.int .i64))
  ap : ¬ ownB h.ro h.g
  K : Keeps h.Own w0 w
  own : ∀ k, ((CH.mk h.p h.pa h.g h.pc h.ps h.ro pc n0).Own wv ev k ∨ SideFp h.ps rv qv k) → h.Own k ∨ w0.heap.size ≤ k

section
variable {w0 w w' : World} {h : WH} {pc : Nat} {n0 : Int} {wv ev rv qv : Value} {cd : List Bool} {rt : List Int} {rg : List (Int × Int)} {d d' : Md}

theorem MC.type (M : MC w0 h w pc n0 wv ev rv qv cd rt rg d) {b : Nat} {l : List Value} {T : TypeId} (hb : Blk w b l T) (h1 : T ≠ 65 ∧ T ≠ 120 ∧ T ≠ 2 ∧ T ≠ 173 ∧ T ≠ 3 ∧ T ≠ 129 ∧ T ≠ 170) :
    ¬ ((CH.mk h.p h.pa h.g h.pc h.ps h.ro pc n0).Own wv ev b ∨ SideFp h.ps rv qv b) := by
  rintro (hk | hk)
  · obtain ⟨_, U, h', hU⟩ := M.C.J.own_type hk
    refine hb.ne h' ?_ rfl
    rcases hU with rfl | rfl | rfl | rfl | rfl
    · exact h1.1
    · exact h1.2.1
    · exact h1.2.2.1
    · exact h1.2.2.2.1
    · exact h1.2.2.2.2.1
  · obtain ⟨_, U, h', hU⟩ := M.C.S.fp_type hk
    refine hb.ne h' ?_ rfl
    rcases hU with rfl | rfl
    · exact h1.2.2.2.2.2.1
    · exact h1.2.2.2.2.2.2

theorem MC.roots_ne (M : MC w0 h w pc n0 wv ev rv qv cd rt rg d) {b : Nat} (hb : ownB h.ro b) : ¬ ((CH.mk h.p h.pa h.g h.pc h.ps h.ro pc n0).Own wv ev b ∨ SideFp h.ps rv qv b) := by
  obtain ⟨_, l, hbl⟩ := M.hr.own hb
  rintro ((hk | hk | hk | hk | hk | hk) | hk)
  · exact hbl.ne M.C.J.hp (by decide) hk
  · exact hbl.ne M.C.J.ha.hp (by decide) hk
  · subst hk; exact M.ap hb
  · exact hbl.ne M.C.J.hc (by decide) hk
  · obtain ⟨_, l', h'⟩ := M.C.J.hw.own hk; exact hbl.ne h' (by decide) rfl
  · obtain ⟨_, l', h'⟩ := M.C.J.he.own hk; exact hbl.ne h' (by decide) rfl
  · obtain ⟨_, U, h', hU⟩ := M.C.S.fp_type hk
    refine hbl.ne h' ?_ rfl
    rcases hU with rfl | rfl <;> decide

theorem MC.step (M : MC w0 h w pc n0 wv ev rv qv cd rt rg d) (t : CSTo w ⟨h.p, h.pa, h.g, h.pc, h.ps, h.ro, pc, n0⟩ wv ev rv qv rg d' w') : ∃ wv' ev', MC w0 h w' pc n0 wv' ev' rv qv cd rt rg d' ∧ ∀ k, (CH.mk h.p h.pa h.g h.pc h.ps h.ro pc n0).Own wv' ev' k → (CH.mk h.p h.pa h.g h.pc h.ps h.ro pc n0).Own wv ev k ∨ w.heap.size ≤ k := by
  obtain ⟨a, b, C', k, o⟩ := t
  refine ⟨a, b, ⟨C', M.hc.keep k (M.type M.hc.hp (by decide)) (M.type M.hc.hq (by decide)), M.hr.keep k (fun b hb => M.roots_ne hb), M.ap, M.K.then k (fun k hk => M.own k hk), fun k hk => ?_⟩, o⟩
  rcases hk with hk | hk
  · rcases o k hk with h1 | h1
    · exact M.own k (.inl h1)
    · exact .inr (Nat.le_trans M.K.size h1)
  · exact M.own k (.inr hk)

theorem MC.same (M : MC w0 h w pc n0 wv ev rv qv cd rt rg d) (k : Keeps (fun _ => False) w w') : MC w0 h w' pc n0 wv ev rv qv cd rt rg d :=
  ⟨M.C.same k, M.hc.keep k (fun h => h) (fun h => h), M.hr.keep k (fun _ _ h => h), M.ap, M.K.trans (k.mono fun _ _ h => h.elim), M.own⟩

/-- What the cut has of its own was made since. -/
def OwnI (h : WH) (pc : Nat) (n0 : Int) (sz : Nat) (wv ev : Value) : Prop := ∀ k, (CH.mk h.p h.pa h.g h.pc h.ps h.ro pc n0).Own wv ev k → (k = h.p ∨ k = h.pa ∨ k = h.g ∨ k = pc) ∨ sz ≤ k

theorem OwnI.nil (h : WH) (pc : Nat) (n0 : Int) (sz : Nat) : OwnI h pc n0 sz (.slice none 0 0) (.slice none 0 0) := by
  rintro k (h | h | h | h | h | h)
  · exact .inl (.inl h)
  · exact .inl (.inr (.inl h))
  · exact .inl (.inr (.inr (.inl h)))
  · exact .inl (.inr (.inr (.inr h)))
  · exact (nil_own h).elim
  · exact (nil_own h).elim

theorem OwnI.step {sz : Nat} {wv' ev' : Value} (hI : OwnI h pc n0 sz wv ev) (o : ∀ k, (CH.mk h.p h.pa h.g h.pc h.ps h.ro pc n0).Own wv' ev' k → (CH.mk h.p h.pa h.g h.pc h.ps h.ro pc n0).Own wv ev k ∨ w.heap.size ≤ k) (hsz : sz ≤ w.heap.size) : OwnI h pc n0 sz wv' ev' := fun k hk => by
  rcases o k hk with h1 | h1
  · exact hI k h1
  · exact .inr (Nat.le_trans hsz h1)

/-- A list of places that was made before. -/
theorem MC.list_apart (M : MC w0 h w pc n0 wv ev rv qv cd rt rg d) {sz n : Nat} {v : Value} {xs : List Value} (hI : OwnI h pc n0 sz wv ev) (hs : Sl w 3 1 v n xs) (hlt : ∀ b, ownB v b → b < sz) {b : Nat} (hb : ownB v b) :
    ¬ ((CH.mk h.p h.pa h.g h.pc h.ps h.ro pc n0).Own wv ev b ∨ SideFp h.ps rv qv b) := by
  obtain ⟨_, l, h'⟩ := hs.own hb
  rintro (hk | hk)
  · rcases hI b hk with (h1 | h1 | h1 | h1) | h1
    · exact h'.ne M.C.J.hp (by decide) h1
    · exact h'.ne M.C.J.ha.hp (by decide) h1
    · exact h'.ne M.C.J.ha.hg (by decide) h1
    · exact h'.ne M.C.J.hc (by decide) h1
    · have := hlt b hb; omega
  · obtain ⟨_, U, h2, hU⟩ := M.C.S.fp_type hk
    refine h'.ne h2 ?_ rfl
    rcases hU with rfl | rfl <;> decide

/-- One root is another one. -/
theorem MC.root (M : MC w0 h w pc n0 wv ev rv qv cd rt rg d) {g o cap k : Nat} {x : Int} (e : h.ro = .slice (some ⟨g, o, none⟩) rt.length cap) (hk : k < rt.length) :
    MC w0 h (w.setCell ⟨g, o + k, none⟩ (.int .i64 x)) pc n0 wv ev rv qv cd (rt.set k x) rg d := by
  have hown : ownB h.ro g := by rw [e]; rfl
  have kk : Keeps (ownB h.ro) w (w.setCell ⟨g, o + k, none⟩ (.int .i64 x)) := (Keeps.refl _ _).setCell (p := ⟨g, o + k, none⟩) (.inl hown) _
  have ne : ∀ {b : Nat} {c : List Value} {T : TypeId}, Blk w b c T → T ≠ 2 → ¬ ownB h.ro b := fun hb h1 hf => by
    obtain ⟨_, c', hc⟩ := M.hr.own hf
    exact hb.ne hc h1 rfl
  refine ⟨M.C.keep kk (fun b hb ho => M.roots_ne ho (.inl hb)) (fun b hb ho => M.roots_ne ho (.inr hb)), M.hc.keep kk (ne M.hc.hp (by decide)) (ne M.hc.hq (by decide)), ?_, M.ap, M.K.trans (kk.mono (fun k _ hk => .inr (.inr (.inr (.inr hk))))), M.own⟩
  have hs := M.hr
  rw [e] at hs ⊢
  have := hs.set (j := k) (u := .int .i64 x) (by omega)
  rw [List.length_set, List.map_set]
  exact this

theorem MC.rootCells (M : MC w0 h w pc n0 wv ev rv qv cd rt rg d) (h12 : rt.length = 12) : ∃ g o cap, h.ro = .slice (some ⟨g, o, none⟩) 12 cap ∧ g < w.heap.size ∧ (∀ k, w.frozen? ⟨g, k, none⟩ = false) ∧ ∀ k, k < rt.length → w.cell? ⟨g, o + k, none⟩ = some (.int .i64 (rt.getD k 0)) := by
  obtain ⟨ao, cap, e, hrd, -, -⟩ := M.hr.rd
  obtain ⟨g, o, rfl, hg, hc⟩ := hrd (by intro e; have := congrArg List.length e; rw [List.length_map, h12] at this; cases this)
  have hown : ownB h.ro g := by rw [e]; rfl
  obtain ⟨-, cur, hb⟩ := M.hr.own hown
  refine ⟨g, o, cap, by rw [e, h12], hg, fun k => hb.free k, fun k hk => ?_⟩
  rw [hc k (by simpa using hk)]
  simp [List.getD, hk]

/-- Behind Settle. -/
structure ME (w0 : World) (h : WH) (w : World) (pc : Nat) (n0 : Int) (wv ev rv qv : Value) (cd : List Bool) (rt : List Int) (rg wt : List (Int × Int)) (s : Ms) (c : Int) : Prop where
  J : CutJ w ⟨h.p, h.pa, h.g, h.pc, h.ps, h.ro, pc, n0⟩ wv ev s c
  S : SideAt w h.ps rv qv rg wt
  hc : CardsAt w h.pc h.cb n0 cd
  hr : Sl w 2 1 h.ro rt.length (rt.map (Value.int .i64))
  ap : ¬ ownB h.ro h.g
  K : Keeps h.Own w0 w
  own : ∀ k, SideFp h.ps rv qv k → h.Own k ∨ w0.heap.size ≤ k

theorem ME.arena {wt : List (Int × Int)} {s : Ms} {c : Int} {A : Ar} (M : ME w0 h w pc n0 wv ev rv qv cd rt rg wt s c) (t : ArenaTo w h.pa h.g w' A) : ME w0 h w' pc n0 wv ev rv qv cd rt rg wt { s with A := A } c := by
  have n1 : ∀ {b : Nat} {c : List Value} {T : TypeId}, Blk w b c T → T ≠ 120 → T ≠ 2 → ¬ (b = h.pa ∨ b = h.g) := fun hb h1 h2 e => by
    rcases e with e | e
    · exact hb.ne M.J.ha.hp h1 e
    · exact hb.ne M.J.ha.hg h2 e
  refine ⟨M.J.arena t, M.S.keep t.k (fun b hb => ?_), M.hc.keep t.k (n1 M.hc.hp (by decide) (by decide)) (n1 M.hc.hq (by decide) (by decide)), M.hr.keep t.k (fun b hb => ?_), M.ap, M.K.trans (t.k.mono (fun k _ hk => .inr (.inl hk))), M.own⟩
  · obtain ⟨c, T, hc, hT⟩ := M.S.fp_type hb
    rcases hT with rfl | rfl
    · exact n1 hc (by decide) (by decide)
    · exact n1 hc (by decide) (by decide)
  · obtain ⟨_, l, hb'⟩ := M.hr.own hb
    rintro (rfl | rfl)
    · exact hb'.ne M.J.ha.hp (by decide) rfl
    · exact M.ap hb

theorem ME.cards {wt : List (Int × Int)} {s : Ms} {c : Int} {l : List Bool} (M : ME w0 h w pc n0 wv ev rv qv cd rt rg wt s c) (t : CardsAt w' h.pc h.cb n0 l) (k : Keeps (· = h.cb) w w') : ME w0 h w' pc n0 wv ev rv qv l rt rg wt s c := by
  have n1 : ∀ {b : Nat} {c : List Value} {T : TypeId}, Blk w b c T → T ≠ 4 → ¬ (b = h.cb) := fun hb h1 e => hb.ne M.hc.hq h1 e
  refine ⟨M.J.keep k (fun b hb => ?_), M.S.keep k (fun b hb => ?_), t, M.hr.keep k (fun b hb => ?_), M.ap, M.K.trans (k.mono (fun k _ hk => .inr (.inr (.inl (.inr hk))))), M.own⟩
  · obtain ⟨_, T, hc, hT⟩ := M.J.own_type hb
    refine n1 hc ?_
    rcases hT with rfl | rfl | rfl | rfl | rfl <;> decide
  · obtain ⟨c, T, hc, hT⟩ := M.S.fp_type hb
    refine n1 hc ?_
    rcases hT with rfl | rfl <;> decide
  · obtain ⟨_, l, hb'⟩ := M.hr.own hb
    exact n1 hb' (by decide)

theorem ME.done {wt : List (Int × Int)} {s : Ms} {c : Int} (M : ME w0 h w pc n0 wv ev rv qv cd rt rg wt s c) (hn : n0 = s.A.nur) (hok : (Wo.mk s.A cd rt rg wt).ok) : WoodTo w0 h w ⟨s.A, cd, rt, rg, wt⟩ := by
  refine ⟨⟨h.p, h.pa, h.g, h.pc, h.cb, h.ps, rv, qv, h.ro⟩, ⟨M.J.hp, M.J.ha, by dsimp only; rw [← hn]; exact M.hc, M.S, M.hr, M.ap, hok⟩, rfl, M.K, ?_⟩
  rintro k (hk | hk | hk | hk | hk)
  · exact .inl (.inl hk)
  · exact .inl (.inr (.inl hk))
  · exact .inl (.inr (.inr (.inl hk)))
  · exact M.own k hk
  · exact .inl (.inr (.inr (.inr (.inr hk))))
end

theorem list_bounds (A : Ar) : ∀ (n : Nat) (i j : Int), ∀ p ∈ A.list n i j, i ≤ p ∧ p < j
  | 0, i, j, p, h => by unfold Ar.list at h; cases h
  | n + 1, i, j, p, h => by
    unfold Ar.list at h
    split at h
    · split at h
      · rename_i h1 h2
        have hf := A.thing_fields i
        rcases List.mem_cons.1 h with rfl | h
        · omega
        · have := list_bounds A n _ _ p h; omega
      · cases h
    · cases h

theorem Sm.goneW {A : Ar} : ∀ (l : List Int) {B : Ar}, Sm A B → Sm A (mGoneW B l)
  | [], B, h => h
  | i :: l, B, h => Sm.goneW l (h.trans (Sm.fix h.ok (i + 1) _))

theorem Sm.goneE {A : Ar} : ∀ (l : List Int) {B : Ar}, Sm A B → Sm A (l.foldl mGoneE1 B)
  | [], B, h => h
  | i :: l, B, h => Sm.goneE l ((h.trans (Sm.fix h.ok (i + 1) _)).trans (Sm.fix (Sm.fix h.ok (i + 1) _).ok (i + 2) _))

theorem Sm.gone {s : Ms} (h : s.A.ok) : Sm s.A (mGone s) := Sm.goneE s.ep (Sm.goneW s.wk (Sm.refl h))

theorem mDirty_snoc {base : Int} {cd : List Bool} {s : Ms} {l : List Int} {k : Nat} (h : k < l.length) : mDirty base cd s (l.take (k + 1)) = if dirtyL base cd (l.getD k 0) = true then mLook (mDirty base cd s (l.take k)) (l.getD k 0) else mDirty base cd s (l.take k) := by
  unfold mDirty
  rw [← List.take_append_getElem h, List.foldl_append, List.getD_eq_getElem?_getD, List.getElem?_eq_getElem h]; rfl

end Go.Proofs.Ytjifdalflepcoab

namespace Go.Proofs.Ytjifdalflepcoab
open Go.RowKit
set_option linter.unusedVariables false
set_option linter.unusedSimpArgs false

def MinorRet (w : World) (h : WH) (O : Wo) (e : Ending) (w' : World) : Prop := e = .returned (.int .i64 (mCut O).1) ∧ WoodTo w h w' (mCut O).2

section
variable {w w' : World} {h : WH} {O : Wo}

set_option maxHeartbeats 8000000 in
set_option maxRecDepth 100000 in
theorem minorCut_c {W : Wd} {φ : Int → Int} (R : Rep O W φ) (H : WoodAt w h O) :
    Calls Try.prog 75 #[.pointer (some ⟨h.p, 0, none⟩)] w (MinorRet w h O) := by
  have HH := Lib.hid H
  have hok := H.ok
  obtain ⟨p0, p1, p2, p3⟩ := H.ptrs
  have pl := H.hp.lt
  have o1 := hok.ha.h1; have o2 := hok.ha.h2; have o3 := hok.ha.h3; have o4 := hok.ha.h4
  have HR := Lib.hid R
  clear H R
  have HOK := Lib.hid hok
  clear hok
  go_enter Try.func75, Try.ntmps75
  go_wp2_with fail
  refine (Used_c w HH.out.ha).mono ?_
  rintro e w1 ⟨rfl, hk⟩
  have H1 := Lib.hid (HH.out.keep hk (fun _ _ h => h)); have K1 := Lib.hid hk
  clear p0 p1 p2 p3 pl hk
  obtain ⟨p0, p1, p2, p3⟩ := H1.out.ptrs
  have pl := H1.out.hp.lt
  go_wp2_with fail
  refine (Free_c w1 H1.out.ha).mono ?_
  rintro e w2 ⟨rfl, hk⟩
  have H2 := Lib.hid (H1.out.keep hk (fun _ _ h => h)); have K2 := Lib.hid (K1.out.trans hk)
  clear p0 p1 p2 p3 pl hk H1 K1
  by_cases hfull : (O.ar.yng : Int) > (O.ar.ws.length : Int) - O.ar.grn
  · have HE := Lib.hid (show mCut O = (3, O) by unfold mCut; rw [if_pos hfull])
    have hd : decide (((O.ar.ws.length - O.ar.grn : Nat) : Int) < (O.ar.yng : Int)) = true := by simp; omega
    have hd2 : decide (O.ar.ws.length - O.ar.grn < O.ar.yng) = true := by simp; omega
    clear hfull
    go_wp2_with fail
    go_ret
    refine ⟨by rw [HE.out]; rfl, ?_⟩
    rw [HE.out]
    exact WoodTo.same HH.out K2.out
  · have hd : decide (((O.ar.ws.length - O.ar.grn : Nat) : Int) < (O.ar.yng : Int)) = false := by simp; omega
    have hd2 : decide (O.ar.ws.length - O.ar.grn < O.ar.yng) = false := by simp; omega
    have HF := Lib.hid hfull
    clear hfull
    obtain ⟨p0, p1, p2, p3⟩ := H2.out.ptrs
    have pl := H2.out.hp.lt
    go_wp2_with fail
    clear hd hd2
    refine (Bounds_c w2 H2.out.ha).mono ?_
    rintro e w3 ⟨rfl, hk⟩
    have H3 := Lib.hid (H2.out.keep hk (fun _ _ h => h)); have K3 := Lib.hid (K2.out.trans hk)
    clear p0 p1 p2 p3 pl hk H2 K2
    obtain ⟨p0, p1, p2, p3⟩ := H3.out.ptrs
    have pl := H3.out.hp.lt
    go_wp2_with fail
    generalize hwb : w3.alloc (.cells #[.pointer (some ⟨h.p, 0, none⟩), .int .i64 O.ar.nur, .int .i64 0, .slice none 0 0, .slice none 0 0] 173) = wb
    have KB := Lib.hid (show Keeps (fun _ => False) w3 wb by rw [← hwb]; exact (Keeps.refl _ _).alloc _)
    have HB := Lib.hid (show Blk wb w3.heap.size [.pointer (some ⟨h.p, 0, none⟩), .int .i64 O.ar.nur, .int .i64 0, .slice none 0 0, .slice none 0 0] 173 by rw [← hwb]; exact Blk.newAt _ rfl rfl)
    have MB := Lib.hid (show MC w h wb w3.heap.size O.ar.nur (.slice none 0 0) (.slice none 0 0) h.rv h.wv O.cd O.rt O.rg ⟨⟨O.ar, [], []⟩, 0, O.wt⟩ by
      have HBW := H3.out.keep KB.out (fun _ _ h => h)
      have hok := HOK.out
      refine ⟨⟨⟨HBW.hp, HBW.ha, HB.out, Sl.nil _ _ _, Sl.nil _ _ _, fun k hk => nil_own hk.1⟩, HBW.hs, ⟨hok.ha, ⟨by simp, (fun i hi => by cases hi), (fun i hi => by cases hi)⟩, by show (0 : Int) ≤ 0; omega, by show (0 : Int) ≤ 1300; omega⟩, fun e he => hok.hw e he, rfl, by have := hok.hq; dsimp only; omega⟩, HBW.hc, HBW.hr, HBW.ap, (K3.out.trans KB.out).mono (fun _ _ h => h.elim), ?_⟩
      rintro k ((rfl | rfl | rfl | rfl | hk | hk) | hk)
      · exact .inl (.inl rfl)
      · exact .inl (.inr (.inl (.inl rfl)))
      · exact .inl (.inr (.inl (.inr rfl)))
      · exact .inr K3.out.size
      · exact (nil_own hk).elim
      · exact (nil_own hk).elim
      · exact .inl (.inr (.inr (.inr (.inl hk)))))
    clear hwb p0 p1 p2 p3 pl H3 HB KB
    generalize w3.heap.size = pc at *
    go_wp2_with fail
    refine (Things_c wb MB.out.C.J.ha).mono ?_
    rintro e w4 ⟨ao, ac, bo, bc, rfl, -, hls, hk, -, hlo⟩
    have M4 := Lib.hid (MB.out.same hk); have HLS := Lib.hid hls; have HLO := Lib.hid hlo
    have HLT := Lib.hid (fun b hb => (hls.own (k := b) hb).1)
    clear hls hlo hk
    have cl := M4.out.C.J.hc.lt
    go_wp2_with fail
    refine (mTop_c M4.out.C.J M4.out.C.nb).mono ?_
    rintro e w5 ⟨rfl, hk⟩
    have HSZ5 := Lib.hid hk.size
    have M5 := Lib.hid (M4.out.same hk); have HLS5 := Lib.hid (HLS.out.keep hk (fun _ _ h => h))
    clear hk cl HLS
    have q2 := M5.out.C.J.cells.2.2.1; have cl := M5.out.C.J.hc.lt; have fz := M5.out.C.J.hc.free 2
    have q3 := M5.out.C.J.cells.2.2.2.2.2.2.2.2; have pl := M5.out.C.J.hp.lt
    dsimp only at q2 q3
    obtain ⟨gr, og, rcap, ero, -, -, -⟩ := M5.out.rootCells HOK.out.h12
    have HRO := Lib.hid ero
    rw [ero] at q3
    clear ero
    have HA5 := Lib.hid M5.out.C.ok.ok
    have hsto := (M5.out.C.J.setC (O.ar.grn : Int))
    obtain ⟨wv6, ev6, M6', o6⟩ := M5.out.step (M5.out.C.cut hsto ⟨M5.out.C.ok.ok, M5.out.C.ok.ms.more (by dsimp only; omega), by omega, by omega⟩ rfl)
    have M6 := Lib.hid M6'
    have HI6 := Lib.hid ((OwnI.nil h pc O.ar.nur w4.heap.size).step o6 HSZ5.out)
    have HLS6 := Lib.hid (HLS5.out.keep ((Keeps.refl (· = pc) w5).setCell (p := ⟨pc, 2, none⟩) (.inl rfl) (.int .i64 (O.ar.grn : Int))) (fun b hb e => by
      obtain ⟨_, l, h'⟩ := HLS5.out.own hb
      exact h'.ne M5.out.C.J.hc (by decide) e))
    clear M6' hsto o6
    dsimp only at M6 HLS6
    go_wp2_with fail
    have HSZ6 := Lib.hid (show w5.heap.size ≤ (w5.setCell ⟨pc, 2, none⟩ (.int .i64 (O.ar.grn : Int))).heap.size by simp)
    generalize w5.setCell ⟨pc, 2, none⟩ (.int .i64 (O.ar.grn : Int)) = w6 at *
    clear M5 HLS5 q2 q3 cl fz pl MB M4
    go_loopw [65] (fun u wr => ∃ k : Nat, k ≤ 12 ∧ u = .int .i64 k ∧ ∃ wv ev, MC w h wr pc O.ar.nur wv ev h.rv h.wv O.cd (rootsN O.ar O.rt k) O.rg ⟨⟨(mRoots O.ar (O.rt.take k)).1, [], []⟩, O.ar.grn, O.wt⟩ ∧ OwnI h pc O.ar.nur w4.heap.size wv ev ∧ w4.heap.size ≤ wr.heap.size ∧ Sl wr 3 1 (.slice bo O.ar.things.2.length bc) O.ar.things.2.length (O.ar.things.2.map (Value.int .i64))) (fun u _ => 12 - (intOf u).toNat)
    case atStart => exact ⟨0, Nat.zero_le _, rfl, _, _, M6.out, HI6.out, by have := HSZ5.out; have := HSZ6.out; omega, HLS6.out⟩
    case round =>
      clear M6 HLS6 HI6 ev6 wv6
      obtain ⟨k, hk, rfl, wv, ev, hM, hI, hsz, hls⟩ := hrel
      have M := Lib.hid hM; have HLS := Lib.hid hls; have HI := Lib.hid hI; have HSR := Lib.hid hsz
      clear hM hls hI hsz
      by_cases hlt : k < 12
      · have hl12 := HOK.out.h12
        have hrl : (rootsN O.ar O.rt k).length = 12 := by rw [rootsN_len (by omega)]; exact hl12
        have hst := rootsN_step (A := O.ar) (rt := O.rt) (k := k) (by omega)
        have hgt := rootsN_get (A := O.ar) (rt := O.rt) (k := k) (by omega)
        have HST := Lib.hid hst
        obtain ⟨gr', og', rcap', ero, hgl, hfz, hcl⟩ := M.out.rootCells hrl
        rw [HRO.out] at ero
        cases ero
        have d0 := hcl k (by omega)
        rw [hgt] at d0
        have q3 := M.out.C.J.cells.2.2.2.2.2.2.2.2; have pl := M.out.C.J.hp.lt
        dsimp only at q3
        rw [HRO.out] at q3
        have hf := hfz (og + k)
        have HFZ := Lib.hid hfz
        clear hst hgt hcl hl12 hfz
        generalize O.rt.getD k 0 = x at *
        go_wp2_with fail
        have MD := Lib.hid (M.out.same ((Keeps.refl (fun _ => False) wr).drew))
        refine wp_region_ro (.free 0 (.free 1 (.free 2 (.free 4 (.free 5 (.free 6 (.pure 3 (.run 7 (.free 8 (.run 9 (.swi [] (.fin)))))))))))) [9] (fun w' => w'.cell? ⟨h.p, 3, none⟩ = some (.slice (some ⟨gr, og, none⟩) 12 rcap)) (by kernel_rfl) (by kernel_rfl) q3 ?_
        first | (refine wpRO_free rfl rfl _ (fun w' => by go_simp; exact Gives.mk _ _) (fun K hK => ?_); go_simp; refine hK _ ?_; clear hK K) | (refine wpRO_skipF rfl rfl (fun K hK => ?_); go_simp; refine hK _ ?_; clear hK K)
        first | (refine wpRO_free rfl rfl _ (fun w' => by go_simp; exact Gives.mk _ _) (fun K hK => ?_); go_simp; refine hK _ ?_; clear hK K) | (refine wpRO_skipF rfl rfl (fun K hK => ?_); go_simp; refine hK _ ?_; clear hK K)
        first | (refine wpRO_free rfl rfl _ (fun w' => by go_simp; exact Gives.mk _ _) (fun K hK => ?_); go_simp; refine hK _ ?_; clear hK K) | (refine wpRO_skipF rfl rfl (fun K hK => ?_); go_simp; refine hK _ ?_; clear hK K)
        first | (refine wpRO_free rfl rfl _ (fun w' => by go_simp; exact Gives.mk _ _) (fun K hK => ?_); go_simp; refine hK _ ?_; clear hK K) | (refine wpRO_skipF rfl rfl (fun K hK => ?_); go_simp; refine hK _ ?_; clear hK K)
        first | (refine wpRO_free rfl rfl _ (fun w' => by go_simp; exact Gives.mk _ _) (fun K hK => ?_); go_simp; refine hK _ ?_; clear hK K) | (refine wpRO_skipF rfl rfl (fun K hK => ?_); go_simp; refine hK _ ?_; clear hK K)
        first | (refine wpRO_free rfl rfl _ (fun w' => by go_simp; exact Gives.mk _ _) (fun K hK => ?_); go_simp; refine hK _ ?_; clear hK K) | (refine wpRO_skipF rfl rfl (fun K hK => ?_); go_simp; refine hK _ ?_; clear hK K)
        first | (refine wpRO_pure rfl rfl _ (fun w' hG => by obtain g0 := hG; exact gives_agg2 rfl (by decide +kernel) rfl (by assumption) (by assumption)) (fun K hK => ?_); go_simp; refine hK _ ?_; clear hK K) | (refine wpRO_pure rfl rfl _ (fun w' hG => by obtain g0 := hG; go_simp; exact Gives.mk _ _) (fun K hK => ?_); go_simp; refine hK _ ?_; clear hK K) | (refine wpRO_skip rfl rfl (fun K hK => ?_); go_simp; refine hK _ ?_; clear hK K)
        refine wpRO_run rfl rfl (fun K hK => ?_); unfold gRun; go_simp
        refine (mBring_c x MD.out.C.J).mono ?_
        rintro e w7 ⟨rfl, t⟩
        have T := Lib.hid t
        have hsm := Sm.bring MD.out.C.ok.ok x
        obtain ⟨wv7, ev7, M7', o7⟩ := MD.out.step (MD.out.C.cut (MD.out.C.J.arenaTo t) (MD.out.C.ok.arena hsm.ok) hsm.nur)
        have M7 := Lib.hid M7'
        have HI7 := Lib.hid (HI.out.step o7 HSR.out)
        have HS7 := Lib.hid (Nat.le_trans HSR.out t.k.size)
        have q3' := M7.out.C.J.cells.2.2.2.2.2.2.2.2
        dsimp only at q3'
        rw [HRO.out] at q3'
        refine hK _ _ (fun _ => q3') ?_
        clear hK K M7' o7 hsm t q3 q3' d0 hgl pl hf
        obtain ⟨gr', og', rcap', ero, hgl, hfz, hcl⟩ := M7.out.rootCells hrl
        rw [HRO.out] at ero
        cases ero
        have d0 := hcl k (by omega)
        have hf := hfz (og + k)
        clear hcl hfz
        first | (refine wpRO_free rfl rfl _ (fun w' => by go_simp; exact Gives.mk _ _) (fun K hK => ?_); go_simp; refine hK _ ?_; clear hK K) | (refine wpRO_skipF rfl rfl (fun K hK => ?_); go_simp; refine hK _ ?_; clear hK K)
        refine wpRO_chg rfl rfl rfl (fun K hK => ?_); unfold gRun; go_simp
        refine hK _ _ ?_
        clear hK K d0 hf
        refine wpRO_swi (fun _ => True) trivial (wpRO_fin ?_)
        have M8 := Lib.hid (M7.out.root (x := mNow (mBring (mRoots O.ar (O.rt.take k)).1 x) x) (by rw [HRO.out, hrl]) (by rw [hrl]; exact hlt))
        have HL8 := Lib.hid (show Sl (w7.setCell ⟨gr, og + k, none⟩ (.int .i64 (mNow (mBring (mRoots O.ar (O.rt.take k)).1 x) x))) 3 1 (.slice bo O.ar.things.2.length bc) O.ar.things.2.length (O.ar.things.2.map (Value.int .i64)) by
          have k1 := (Keeps.refl (fun _ => False) wr).drew
          have h1 := HLS.out.keep k1 (fun _ _ h => h)
          have h2 := h1.keep T.out.k (fun b hb e => MD.out.list_apart HI.out h1 HLT.out hb (.inl (e.elim (fun e => .inr (.inl e)) (fun e => .inr (.inr (.inl e))))))
          refine h2.keep ((Keeps.refl (· = gr) w7).setCell (p := ⟨gr, og + k, none⟩) (.inl rfl) _) (fun b hb e => ?_)
          obtain ⟨_, l, h'⟩ := M7.out.hr.own (k := gr) (by rw [HRO.out]; rfl)
          obtain ⟨_, l2, h3⟩ := h2.own hb
          exact h3.ne h' (by decide) e)
        rw [HST.out.2] at M8
        clear M7 T MD
        go_wp2_with fail
        go_roundw
        case rel => exact ⟨k + 1, hlt, by go_num, _, _, by rw [HST.out.1]; exact M8.out, HI7.out, by have := HS7.out; simpa using this, HL8.out⟩
        case measure => simp [intOf]; omega
      · obtain rfl : k = 12 := by omega
        have hr12 : rootsN O.ar O.rt 12 = (mRoots O.ar O.rt).2 := by
          unfold rootsN
          rw [List.take_of_length_le (by rw [HOK.out.h12]; exact Nat.le_refl _), List.drop_eq_nil_of_le (by rw [HOK.out.h12]; exact Nat.le_refl _), List.append_nil]
        rw [hr12, List.take_of_length_le (by rw [HOK.out.h12]; exact Nat.le_refl _)] at M
        clear hr12 hlt hk
        obtain ⟨w7, rfl⟩ : ∃ x : World, x = wr := ⟨wr, rfl⟩
        have HLL := Lib.hid (show O.ar.things.2.length ≤ 1300 from Ar.list_len O.ar 1300 _ _)
        have HLB := Lib.hid (show ∀ p ∈ O.ar.things.2, 0 ≤ p ∧ p ≤ 1300 from fun p hp => by have := list_bounds O.ar 1300 _ _ p hp; omega)
        obtain ⟨L, hL⟩ : ∃ L, O.ar.things.2 = L := ⟨_, rfl⟩
        have HLE := Lib.hid hL
        rw [hL] at HLS HLL HLB HLT
        obtain ⟨A1, hA1⟩ : ∃ A, (mRoots O.ar O.rt).1 = A := ⟨_, rfl⟩
        have HA1 := Lib.hid hA1
        rw [hA1] at M
        obtain ⟨rt1, hrt1⟩ : ∃ l, (mRoots O.ar O.rt).2 = l := ⟨_, rfl⟩
        have HRT := Lib.hid hrt1
        rw [hrt1] at M
        rw [hL]
        clear hL hA1 hrt1
        have hll := HLL.out
        go_wp2_with fail
        go_loopw [82] (fun u wr => ∃ k : Nat, k ≤ L.length ∧ u = .int .i64 k ∧ ∃ wv ev, MC w h wr pc O.ar.nur wv ev h.rv h.wv O.cd rt1 O.rg ⟨mDirty O.ar.nur O.cd ⟨A1, [], []⟩ (L.take k), O.ar.grn, O.wt⟩ ∧ MsOk (mDirty O.ar.nur O.cd ⟨A1, [], []⟩ (L.take k)) k ∧ OwnI h pc O.ar.nur w4.heap.size wv ev ∧ w4.heap.size ≤ wr.heap.size ∧ Sl wr 3 1 (.slice bo L.length bc) L.length (L.map (Value.int .i64))) (fun u _ => L.length - (intOf u).toNat)
        case atStart => exact ⟨0, Nat.zero_le _, rfl, _, _, M.out, ⟨by simp [mDirty], (fun i hi => by cases hi), (fun i hi => by cases hi)⟩, HI.out, HSR.out, HLS.out⟩
        case round =>
          clear M HI HSR HLS wv ev
          obtain ⟨k, hk, rfl, wv, ev, hM, hms, hI, hsz, hls⟩ := hrel
          have M := Lib.hid hM; have HLS := Lib.hid hls; have HI := Lib.hid hI; have HSR := Lib.hid hsz; have HMS := Lib.hid hms
          clear hM hls hI hsz hms
          by_cases hlt : k < L.length
          · obtain ⟨_, _, e', rd, -, -⟩ := HLS.out.rd
            cases e'
            obtain ⟨ge, oe, rfl, d0⟩ := rd.int k hlt
            have hgl := (HLS.out.own rfl).1
            have hin := HLB.out (L.getD k 0) (by rw [List.getD_eq_getElem?_getD, List.getElem?_eq_getElem hlt]; exact List.getElem_mem hlt)
            have HDS := Lib.hid (mDirty_snoc (base := O.ar.nur) (cd := O.cd) (s := ⟨A1, [], []⟩) hlt)
            have hml := HMS.out.len
            generalize L.getD k 0 = i at *
            obtain ⟨sk, hsk⟩ : ∃ s, mDirty O.ar.nur O.cd ⟨A1, [], []⟩ (L.take k) = s := ⟨_, rfl⟩
            rw [hsk] at M HMS HDS hml
            clear hsk rd
            have p1 := M.out.C.J.cells.2.2.2.2.2.2.1; have pl := M.out.C.J.hp.lt
            dsimp only at p1
            have hcd := HOK.out.hc
            go_wp2_with fail
            refine (Dirty_c h.pc h.cb O.ar.nur i O.cd wr M.out.hc (by omega) (by omega) (by omega) (by omega) (by omega)).mono ?_
            rintro e w8 ⟨rfl, rfl⟩
            clear p1 pl d0
            cases hdi : dirtyL O.ar.nur O.cd i
            · have HE := Lib.hid (HDS.out.trans (if_neg (by rw [hdi]; decide)))
              clear hdi HDS
              go_wp2_with fail
              go_roundw
              case rel =>
                (repeat apply Exists.intro)
                exact ⟨⟨k + 1, hlt, by go_num, wv, ev, by rw [HE.out]; exact M.out, by rw [HE.out]; exact HMS.out.more (by omega), HI.out, HSR.out, HLS.out⟩, rfl⟩
              case measure => simp [intOf]; omega
            · have HE := Lib.hid (HDS.out.trans (if_pos hdi))
              clear hdi HDS
              go_wp2_with fail
              refine (mLook_c i M.out.C.J hin.1 hin.2 (by dsimp only; have := HLL.out; omega)).mono ?_
              rintro e w8 ⟨rfl, t⟩
              have hml2 := (HMS.out.look hin.1 hin.2)
              have HMS2 := Lib.hid hml2
              have hsm := Sm.look M.out.C.ok.ok i
              obtain ⟨_, _, _, kt, _⟩ := id t
              have HL8 := Lib.hid (HLS.out.keep kt (fun b hb ho => M.out.list_apart HI.out HLS.out HLT.out hb (.inl ho)))
              obtain ⟨wv8, ev8, M8', o8⟩ := M.out.step (M.out.C.cut t ⟨hsm.ok, hml2.more (by have := HLL.out; dsimp only; omega), by dsimp only; omega, by dsimp only; omega⟩ hsm.nur)
              have M8 := Lib.hid M8'
              have HI8 := Lib.hid (HI.out.step o8 HSR.out)
              have HS8 := Lib.hid (Nat.le_trans HSR.out kt.size)
              clear t kt hml2 hsm M8' o8
              go_wp2_with fail
              go_roundw
              case rel =>
                (repeat apply Exists.intro)
                exact ⟨⟨k + 1, hlt, by go_num, wv8, ev8, by rw [HE.out]; exact M8.out, by rw [HE.out]; exact HMS2.out.more (by omega), HI8.out, HS8.out, HL8.out⟩, rfl⟩
              case measure => simp [intOf]; omega
          · obtain rfl : k = L.length := by omega
            rw [List.take_length] at M
            clear HMS HLS hlt hk
            have HPRE := Lib.hid (show mPre O = mDrain 2000 ⟨mDirty O.ar.nur O.cd ⟨A1, [], []⟩ L, O.ar.grn, O.wt⟩ by unfold mPre; rw [HLE.out, HA1.out])
            go_wp2_with fail
            refine (mDrain_c M.out.C).mono ?_
            rintro e w8 ⟨rfl, t⟩
            obtain ⟨wv8, ev8, M8', -⟩ := M.out.step t
            rw [← HPRE.out] at M8'
            have M8 := Lib.hid M8'
            clear t M8' M
            have p2 := M8.out.C.J.cells.2.2.2.2.2.2.2.1; have pl := M8.out.C.J.hp.lt
            dsimp only at p2
            go_wp2_with fail
            refine wp_region_ro (.free 0 (.free 1 (.free 2 (.free 4 (.pure 3 (.run 5 (.run 6 (.swi [] (.fin))))))))) [6] (fun w' => w'.cell? ⟨h.p, 2, none⟩ = some (.pointer (some ⟨h.ps, 0, none⟩))) (by kernel_rfl) (by kernel_rfl) p2 ?_
            first | (refine wpRO_free rfl rfl _ (fun w' => by go_simp; exact Gives.mk _ _) (fun K hK => ?_); go_simp; refine hK _ ?_; clear hK K) | (refine wpRO_skipF rfl rfl (fun K hK => ?_); go_simp; refine hK _ ?_; clear hK K)
            first | (refine wpRO_free rfl rfl _ (fun w' => by go_simp; exact Gives.mk _ _) (fun K hK => ?_); go_simp; refine hK _ ?_; clear hK K) | (refine wpRO_skipF rfl rfl (fun K hK => ?_); go_simp; refine hK _ ?_; clear hK K)
            first | (refine wpRO_free rfl rfl _ (fun w' => by go_simp; exact Gives.mk _ _) (fun K hK => ?_); go_simp; refine hK _ ?_; clear hK K) | (refine wpRO_skipF rfl rfl (fun K hK => ?_); go_simp; refine hK _ ?_; clear hK K)
            first | (refine wpRO_free rfl rfl _ (fun w' => by go_simp; exact Gives.mk _ _) (fun K hK => ?_); go_simp; refine hK _ ?_; clear hK K) | (refine wpRO_skipF rfl rfl (fun K hK => ?_); go_simp; refine hK _ ?_; clear hK K)
            first | (refine wpRO_pure rfl rfl _ (fun w' hG => by obtain g0 := hG; exact gives_agg2 rfl (by decide +kernel) rfl (by assumption) (by assumption)) (fun K hK => ?_); go_simp; refine hK _ ?_; clear hK K) | (refine wpRO_pure rfl rfl _ (fun w' hG => by obtain g0 := hG; go_simp; exact Gives.mk _ _) (fun K hK => ?_); go_simp; refine hK _ ?_; clear hK K) | (refine wpRO_skip rfl rfl (fun K hK => ?_); go_simp; refine hK _ ?_; clear hK K)
            refine wpRO_run rfl rfl (fun K hK => ?_); unfold gRun; go_simp
            refine (mSaved_c (M8.out.same ((Keeps.refl (fun _ => False) w8).drew)).C.J).mono ?_
            rintro e w9 ⟨b, rfl, hb, hk, hlo⟩
            have M9 := Lib.hid (M8.out.same ((Keeps.refl (fun _ => False) w8).drew.trans hk))
            have HB9 := Lib.hid hb; have HLO9 := Lib.hid (show w8.heap.size ≤ b from hlo)
            have p2' := M9.out.C.J.cells.2.2.2.2.2.2.2.1
            dsimp only at p2'
            refine hK _ _ (fun _ => p2') ?_
            clear hK K hb hk hlo p2 p2' pl
            skip
            refine wpRO_chg rfl rfl rfl (fun K hK => ?_); unfold gRun; go_simp
            have hq24 := HOK.out.hq
            refine (Settle_c h.ps (mSettleL ⟨h.p, h.pa, h.g, h.pc, h.ps, h.ro, pc, O.ar.nur⟩ b) ((mPre O).s, (mPre O).c) (fun k => (CH.mk h.p h.pa h.g h.pc h.ps h.ro pc O.ar.nur).Own wv8 ev8 k ∨ k = b) h.rv h.wv O.rg (mPre O).q w9 ⟨wv8, ev8, M9.out.C.J, M9.out.C.ok, M9.out.C.nb, HB9.out, rfl⟩ M9.out.C.S (fun k hk => by
              rcases hk with ⟨h1 | h1, h2⟩
              · exact M9.out.C.J.side_apart M9.out.C.S h1 h2
              · subst h1
                obtain ⟨_, U, h3, hU⟩ := M9.out.C.S.fp_type h2
                refine HB9.out.ne h3 ?_ rfl
                rcases hU with rfl | rfl <;> decide) (by omega) (by rw [HPRE.out, mDrain_len]; dsimp only; omega) (fun e he => HOK.out.hg e he) (fun e he => M9.out.C.q e he)).mono ?_
            rintro e w10 ⟨rfl, F', rv', qv', ⟨wv', ev', hJ', hsc, hnb, hb', rfl⟩, hS', -, hk', -, hsf⟩
            refine hK _ _ ?_
            clear hK K
            refine wpRO_swi (fun _ => True) trivial (wpRO_fin ?_)
            have HPS := Lib.hid (show passM (mSettleL ⟨h.p, h.pa, h.g, h.pc, h.ps, h.ro, pc, O.ar.nur⟩ b).alive (mSettleL ⟨h.p, h.pa, h.g, h.pc, h.ps, h.ro, pc, O.ar.nur⟩ b).keep ((mPre O).s, (mPre O).c) O.rg (mPre O).q = mPass O from rfl)
            rw [HPS.out] at hJ' hsc hnb hS'
            have M10 := Lib.hid (show ME w h w10 pc O.ar.nur wv' ev' rv' qv' O.cd rt1 (newRegs mtAlive mtNow (mPass O).1 (mPass O).2.2) (newWait mtAlive mtNow (mPass O).1 (mPass O).2.1) (mPass O).1.1 (mPass O).1.2 by
              have hne : ∀ {k : Nat} {l : List Value} {T : TypeId}, Blk w9 k l T → T ≠ 171 → ¬ ((CH.mk h.p h.pa h.g h.pc h.ps h.ro pc O.ar.nur).Own wv8 ev8 k ∨ SideFp h.ps h.rv h.wv k) → ¬ (((CH.mk h.p h.pa h.g h.pc h.ps h.ro pc O.ar.nur).Own wv8 ev8 k ∨ k = b) ∨ SideFp h.ps h.rv h.wv k) := fun hb hT hn hx => by
                rcases hx with (h1 | h1) | h1
                · exact hn (.inl h1)
                · subst h1; exact hb.ne HB9.out hT rfl
                · exact hn (.inr h1)
              have M := M9.out
              refine ⟨hJ', hS', M.hc.keep hk' (hne M.hc.hp (by decide) (M.type M.hc.hp (by decide))) (hne M.hc.hq (by decide) (M.type M.hc.hq (by decide))), M.hr.keep hk' (fun k hk => ?_), M.ap, M.K.then hk' (fun k hk => ?_), fun k hk => ?_⟩
              · obtain ⟨_, l, h'⟩ := M.hr.own hk
                exact hne h' (by decide) (M.roots_ne hk)
              · rcases hk with (h1 | h1) | h1
                · exact M.own k (.inl h1)
                · subst h1; exact .inr (Nat.le_trans M8.out.K.size HLO9.out)
                · exact M.own k (.inr h1)
              · rcases hsf k hk with h1 | h1
                · exact M.own k (.inr h1)
                · exact .inr (Nat.le_trans M.K.size h1))
            have HSC := Lib.hid (show ScOk (mPass O).1.1 (mPass O).1.2 from hsc)
            have HNB := Lib.hid (show (O.ar.nur : Int) = (mPass O).1.1.A.nur from hnb)
            clear hJ' hsc hnb hb' hS' hk' hsf HPS M8 M9
            go_wp2_with fail
            refine (mGone_c M10.out.J (HSC.out.ms.more (by have := HSC.out.c1; omega))).mono ?_
            rintro e w11 ⟨rfl, t⟩
            have M11 := Lib.hid (M10.out.arena t)
            clear t M10
            have p1 := M11.out.J.cells.2.2.2.2.2.2.1; have pl := M11.out.J.hp.lt
            dsimp only at p1
            go_wp2_with fail
            refine (Clear_c h.pc h.cb O.ar.nur O.cd w11 M11.out.hc).mono ?_
            rintro e w12 ⟨rfl, hc, hk⟩
            have M12 := Lib.hid (M11.out.cards hc hk)
            clear hc hk p1 pl M11
            have p0 := M12.out.J.cells.2.2.2.2.2.1; have pl := M12.out.J.hp.lt
            dsimp only at p0
            go_wp2_with fail
            refine (AClear_c w12 M12.out.J.ha).mono ?_
            rintro e w13 ⟨rfl, t⟩
            have M13 := Lib.hid (M12.out.arena t)
            clear t M12 p0 pl
            have HE := Lib.hid (show mCut O = (0, ⟨(mGone (mPass O).1.1).clear, List.replicate O.cd.length false, rt1, newRegs mtAlive mtNow (mPass O).1 (mPass O).2.2, newWait mtAlive mtNow (mPass O).1 (mPass O).2.1⟩) by
              unfold mCut
              rw [if_neg (by have := HF.out; omega), HRT.out]
              congr 2
              simp [List.eq_replicate_iff])
            have HRM := Lib.hid (HR.out.minor.2)
            go_wp2_with fail
            go_ret
            refine ⟨by rw [HE.out]; rfl, ?_⟩
            obtain ⟨ψ, R'⟩ := HRM.out
            have hok' := R'.ho
            rw [HE.out] at hok' ⊢
            refine M13.out.done ?_ hok'
            rw [HNB.out]
            have := (Sm.gone HSC.out.ok).nur
            show ((mPass O).1.1.A.nur : Int) = ((mGone (mPass O).1.1).clear.nur : Int)
            rw [← this]; rfl
end

end Go.Proofs.Ytjifdalflepcoab

namespace Go.Proofs.Ytjifdalflepcoab
open Go.RowKit
set_option linter.unusedVariables false
set_option linter.unusedSimpArgs false

def mB1 : Wo := (woC (Wo.new 16 8) 0 1 2 1 0).2
theorem mb1 : (mCut mB1).1 = 0 := by decide +kernel
theorem mb2 : (mCut mB1).2.ar.yng = 0 := by decide +kernel
theorem mb3 : (mCut mB1).2.ar.grn - (mCut mB1).2.ar.nur = 3 := by decide +kernel
theorem mb4 : (mCut mB1).2.view.2.length = 1 := by decide +kernel
theorem rootN0 : rootN 0 = 0 := by decide +kernel
theorem rootN1 : rootN 1 = 1 := by decide +kernel

section
variable {w w' : World} {h : BH} {O O' : Wo} {W W' : Wd}

set_option maxHeartbeats 16000000 in
set_option maxRecDepth 100000 in
theorem bothDoX_c (d xa xb xc : Int) (B : BothAt w h O W) (hd : d < 0 ∨ 5 < d) (hb : R64 xa) :
    Calls Try.prog 74 #[.pointer (some ⟨h.p, 0, none⟩), .agg #[.int .i64 d, .int .i64 xa, .int .i64 xb, .int .i64 xc]] w (BothDoRet w h O W d xa xb (rootN xa) (rootN xc)) := by
  have e0 : (d == 0) = false := by simp; omega
  have e1 : (d == 1) = false := by simp; omega
  have e2 : (d == 2) = false := by simp; omega
  have e3 : (d == 3) = false := by simp; omega
  have e4 : (d == 4) = false := by simp; omega
  have e5 : (d == 5) = false := by simp; omega
  have HWO := Lib.hid (show woC O d xa xb (rootN xa) (rootN xc) = (0, O) by unfold woC; repeat (rw [if_neg (by omega)]))
  have HWD := Lib.hid (show wdC W d xa xb (rootN xa) (rootN xc) = (0, W) by unfold wdC; repeat (rw [if_neg (by omega)]))
  clear hd
  have HBW := Lib.hid B
  have ka := (Keeps.refl (fun _ => False) w).alloc (.cells #[.int .i64 d, .int .i64 xa, .int .i64 xb, .int .i64 xc] 112)
  have hs : Blk (w.alloc (.cells #[.int .i64 d, .int .i64 xa, .int .i64 xb, .int .i64 xc] 112)) w.heap.size [.int .i64 d, .int .i64 xa, .int .i64 xb, .int .i64 xc] 112 := Blk.newAt _ rfl rfl
  have HB1 := Lib.hid (B.same ka); have SB := Lib.hid hs; have K1 := Lib.hid ka; have HBB := Lib.hid hb
  clear ka hs B hb
  go_enter Try.func74, Try.ntmps74
  go_wp2_with fail
  generalize w.alloc (.cells #[.int .i64 d, .int .i64 xa, .int .i64 xb, .int .i64 xc] 112) = w1 at *
  generalize w.heap.size = sb at *
  have s0 := SB.out.cell 0; have s1 := SB.out.cell 1; have s2 := SB.out.cell 2; have s3 := SB.out.cell 3; have sl := SB.out.lt
  simp only [List.getElem?_cons_zero, List.getElem?_cons_succ] at s0 s1 s2 s3
  refine wp_region_ro (.free 0 (.free 3 (.pure 1 (.pure 4 (.run 2 (.run 5 (.swi [] (.free 6 (.free 7 (.fin)))))))))) [5, 6, 7] (fun w' => w'.cell? ⟨sb, 1, none⟩ = some (.int .i64 xa) ∧ w'.cell? ⟨sb, 3, none⟩ = some (.int .i64 xc)) (by kernel_rfl) (by kernel_rfl) ⟨s1, s3⟩ ?_
  first | (refine wpRO_free rfl rfl _ (fun w' => by go_simp; exact Gives.mk _ _) (fun K hK => ?_); go_simp; refine hK _ ?_; clear hK K) | (refine wpRO_skipF rfl rfl (fun K hK => ?_); go_simp; refine hK _ ?_; clear hK K)
  first | (refine wpRO_free rfl rfl _ (fun w' => by go_simp; exact Gives.mk _ _) (fun K hK => ?_); go_simp; refine hK _ ?_; clear hK K) | (refine wpRO_skipF rfl rfl (fun K hK => ?_); go_simp; refine hK _ ?_; clear hK K)
  first | (refine wpRO_pure rfl rfl _ (fun w' hG => by obtain ⟨s1, s3⟩ := hG; exact gives_agg2 rfl (by decide +kernel) rfl (by assumption) (by assumption)) (fun K hK => ?_); go_simp; refine hK _ ?_; clear hK K) | (refine wpRO_pure rfl rfl _ (fun w' hG => by obtain ⟨s1, s3⟩ := hG; go_simp; exact Gives.mk _ _) (fun K hK => ?_); go_simp; refine hK _ ?_; clear hK K) | (refine wpRO_skip rfl rfl (fun K hK => ?_); go_simp; refine hK _ ?_; clear hK K)
  first | (refine wpRO_pure rfl rfl _ (fun w' hG => by obtain ⟨s1, s3⟩ := hG; exact gives_agg2 rfl (by decide +kernel) rfl (by assumption) (by assumption)) (fun K hK => ?_); go_simp; refine hK _ ?_; clear hK K) | (refine wpRO_pure rfl rfl _ (fun w' hG => by obtain ⟨s1, s3⟩ := hG; go_simp; exact Gives.mk _ _) (fun K hK => ?_); go_simp; refine hK _ ?_; clear hK K) | (refine wpRO_skip rfl rfl (fun K hK => ?_); go_simp; refine hK _ ?_; clear hK K)
  refine wpRO_run rfl rfl (fun K hK => ?_); unfold gRun; go_simp
  refine (Root_c xa _).mono ?_
  rintro e w2 ⟨rfl, rfl⟩
  refine hK _ _ (fun hg => hg) ?_
  clear hK K
  refine wpRO_chg rfl rfl rfl (fun K hK => ?_); unfold gRun; go_simp
  refine (Root_c xc _).mono ?_
  rintro e w2 ⟨rfl, rfl⟩
  refine hK _ _ ?_
  clear hK K
  refine wpRO_swi (fun _ => True) trivial ?_
  first | (refine wpRO_free rfl rfl _ (fun w' => by go_simp; exact Gives.mk _ _) (fun K hK => ?_); go_simp; refine hK _ ?_; clear hK K) | (refine wpRO_skipF rfl rfl (fun K hK => ?_); go_simp; refine hK _ ?_; clear hK K)
  first | (refine wpRO_free rfl rfl _ (fun w' => by go_simp; exact Gives.mk _ _) (fun K hK => ?_); go_simp; refine hK _ ?_; clear hK K) | (refine wpRO_skipF rfl rfl (fun K hK => ?_); go_simp; refine hK _ ?_; clear hK K)
  refine wpRO_fin ?_
  have ha12 := rootN_lt xa; have hc12 := rootN_lt xc
  generalize rootN xa = a at *
  generalize rootN xc = c at *
  have HB2 := Lib.hid (HB1.out.same ((Keeps.refl (fun _ => False) w1).drew)); have K2 := Lib.hid (K1.out.drew); have SB2 := Lib.hid (show Blk w1.drew sb _ _ from SB.out.drew)
  clear s0 s1 s2 s3 sl HB1 K1 SB
  generalize w1.drew = w2 at *
  have s0 := SB2.out.cell 0; have s1 := SB2.out.cell 1; have s2 := SB2.out.cell 2; have s3 := SB2.out.cell 3; have sl := SB2.out.lt
  simp only [List.getElem?_cons_zero, List.getElem?_cons_succ] at s0 s1 s2 s3
  have b0 := HB2.out.hp.cell 0; have b1 := HB2.out.hp.cell 1; have bl := HB2.out.hp.lt
  simp only [List.getElem?_cons_zero, List.getElem?_cons_succ] at b0 b1
  have hor12 := HB2.out.H.ok.h12
  obtain ⟨g, o, cap, hro, hown, hgl, q3, fz, rcs⟩ := HB2.out.H.roots
  obtain ⟨q0, q1, q2, -⟩ := HB2.out.H.ptrs
  have ra := rcs a (by omega); have rc := rcs c (by omega)
  have fc := fz (o + c)
  rw [hor12] at q3 hro
  have HRO := Lib.hid hro; have HOWN := Lib.hid hown; have HO12 := Lib.hid hor12; have HFZ := Lib.hid fz; have HRCS := Lib.hid rcs
  have ql := HB2.out.H.hp.lt
  clear hro hown hor12 fz rcs
  have yl : (O.ar.yng : Int) ≤ 1280 := by have := HB2.out.H.ok.ha.h1; have := HB2.out.H.ok.ha.h2; have := HB2.out.H.ok.ha.h3; have := HB2.out.H.ok.ha.h4; omega
  have ha12i : (a : Int) < 12 := by omega
  have hc12i : (c : Int) < 12 := by omega
  clear q0 q1 q2 q3 ql ra rc b0 b1 bl hgl fc
  go_wp2_with fail
  go_ret
  unfold BothDoRet
  rw [HWO.out, HWD.out]
  exact ⟨rfl, BothTo.same HBW.out K2.out⟩

theorem bothDo_c (d xa xb xc : Int) (B : BothAt w h O W) (hT : W.T.length ≤ 90000) (ha : R64 xa) (hb : R64 xb) :
    Calls Try.prog 74 #[.pointer (some ⟨h.p, 0, none⟩), .agg #[.int .i64 d, .int .i64 xa, .int .i64 xb, .int .i64 xc]] w (BothDoRet w h O W d xa xb (rootN xa) (rootN xc)) := by
  rcases (by omega : d = 0 ∨ d = 1 ∨ d = 2 ∨ d = 3 ∨ d = 4 ∨ d = 5 ∨ (d < 0 ∨ 5 < d)) with rfl | rfl | rfl | rfl | rfl | rfl | hd
  · exact bothDo0_c xa xb xc B hT hb
  · exact bothDo1_c xa xb xc B hb
  · exact bothDo2_c xa xb xc B hb
  · exact bothDo3_c xa xb xc B ha
  · exact bothDo4_c xa xb xc B ha
  · exact bothDo5_c xa xb xc B ha
  · exact bothDoX_c d xa xb xc B hd ha
end

section
variable {w0 w w' : World} {p : Nat} {h : BH} {O O' : Wo} {W W' : Wd}

theorem BM.pc (M : BM w0 w p h O W) : w.cell? ⟨p, 0, none⟩ = some (.pointer (some ⟨h.a.p, 0, none⟩)) ∧ w.cell? ⟨p, 1, none⟩ = some (.pointer (some ⟨h.b.p, 0, none⟩)) ∧ p < w.heap.size := by
  have := M.B.pcells
  rw [M.e] at this
  exact this

theorem BM.do_c (M : BM w0 w p h O W) (d xa xb xc : Int) (hT : W.T.length ≤ 90000) (ha : R64 xa) (hb : R64 xb) :
    Calls Try.prog 74 #[.pointer (some ⟨p, 0, none⟩), .agg #[.int .i64 d, .int .i64 xa, .int .i64 xb, .int .i64 xc]] w (BothDoRet w h O W d xa xb (rootN xa) (rootN xc)) := by
  have := bothDo_c d xa xb xc M.B hT ha hb
  rw [M.e] at this
  exact this

theorem BM.wood (M : BM w0 w p h O W) (t : WoodTo w h.a w' O') : ∃ h', BM w0 w' p h' O' W := M.to (BothTo.wood M.B t)

set_option maxHeartbeats 16000000 in
set_option maxRecDepth 100000 in
theorem minorBegun_c (w : World) : Calls Try.prog 72 #[] w fun e w' => e = .returned (.bool true) ∧ Keeps (fun _ => False) w w' := by
  have hfit : Ar.fits 16 8 = true := by decide
  have HFIT := Lib.hid hfit
  go_enter Try.func72, Try.ntmps72
  go_wp2_with fail
  refine (start_yes 16 8 w hfit).mono ?_
  rintro e w1 ⟨h, rfl, B1, k1, o1⟩
  have M1 := Lib.hid (show BM w w1 h.p h _ _ from ⟨B1, rfl, k1, o1⟩)
  have R1 := Lib.hid (Rep.new HFIT.out)
  have hdo := M1.out.do_c 0 1 2 0 (by simp [Wd.new]) (by unfold R64; decide) (by unfold R64; decide)
  rw [rootN0, rootN1] at hdo
  have hcs := R1.out.cs 0 1 2 (a := 1) (c := 0) (by decide) (by decide)
  have hmb : (woC (Wo.new 16 8) 0 1 2 1 0).2 = mB1 := rfl
  have hdd := decide_eq_true hcs.1
  unfold BothDoRet at hdo
  rw [hdd, hmb] at hdo
  rw [hmb] at hcs
  obtain ⟨-, ψ, hR2⟩ := hcs
  have R2 := Lib.hid hR2
  have HDO := Lib.hid hdo
  clear B1 k1 o1 hfit hdo hdd hmb hR2
  generalize h.p = p at *
  generalize (wdC (Wd.new 16 8) 0 1 2 1 0).2 = W1 at *
  go_wp2_with fail
  refine HDO.out.mono ?_
  rintro e w2 ⟨rfl, ht⟩
  obtain ⟨h2, hM2⟩ := M1.out.to ht
  have M2 := Lib.hid hM2
  obtain ⟨c0, c1, pl⟩ := hM2.pc
  clear ht hM2 M1 HDO R1 HFIT
  go_wp2_with fail
  refine (minorCut_c R2.out M2.out.B.H).mono ?_
  rintro e w3 ⟨rfl, ht⟩
  obtain ⟨h3, hM3⟩ := M2.out.wood ht
  have M3 := Lib.hid hM3
  obtain ⟨c0, c1, pl⟩ := hM3.pc
  have q0 := hM3.B.H.ptrs.1; have ql := hM3.B.H.hp.lt
  rw [mb1]
  clear ht hM3 M2 R2
  go_wp2_with fail
  refine (Used_c _ M3.out.B.H.ha).mono ?_
  rintro e w4 ⟨rfl, hk⟩
  have M4 := Lib.hid (M3.out.same hk)
  rw [mb2, mb3]
  clear c0 c1 pl q0 ql hk M3
  obtain ⟨c0, c1, pl⟩ := M4.out.pc
  go_wp2_with fail
  refine (View_c _ M4.out.B.H).mono ?_
  rintro e w5 ⟨v, rfl, ⟨ro, rc, no, nc, F, rfl, -, -, -⟩, hk⟩
  have K5 := Lib.hid (M4.out.K.trans hk)
  rw [mb4]
  generalize (mCut mB1).2.view.1.length = vl at *
  have hfd : ∀ w : World, (Instr.field 72 (.agg #[.slice ro vl rc, .slice no 1 nc]) 1).run Try.prog w = .ok (.slice no 1 nc) w := fun _ => by kernel_rfl
  clear c0 c1 pl hk M4
  go_wp2_with fail
  go_ret
  exact ⟨rfl, K5.out⟩
end

end Go.Proofs.Ytjifdalflepcoab

namespace Go.Proofs.Ytjifdalflepcoab
set_option linter.unusedVariables false
set_option linter.unusedSimpArgs false

section
variable {O : Wo} {W : Wd} {φ : Int → Int}

theorem setR_len (W : Wd) (r : Int) (v : Vl) : (W.setR r v).T.length = W.T.length := rfl
theorem setF_len (W : Wd) (i : Int) (fs : List Vl) : (W.setF i fs).T.length = W.T.length := by simp [Wd.setF]

theorem wdC_len (W : Wd) (d xa b : Int) {a c : Nat} (ha : a < 12) (hc : c < 12) : (wdC W d xa b a c).2.T.length ≤ W.T.length + 1 := by
  unfold wdC
  by_cases d0 : d = 0
  · rw [if_pos d0]
    unfold Wd.fresh
    split
    · simp [Wd.put]
    · simp
  rw [if_neg d0]
  by_cases d1 : d = 1
  · rw [if_pos d1]
    unfold Wd.do
    rw [if_pos (check12 ha hc b)]
    show (W.set _).2.T.length ≤ _
    unfold Wd.set
    split
    · rw [setF_len]; omega
    · dsimp only; omega
  rw [if_neg d1]
  by_cases d2 : d = 2
  · rw [if_pos d2]
    unfold Wd.do
    rw [if_pos (check11 ha hc b)]
    show (W.get _).2.T.length ≤ _
    unfold Wd.get
    split
    · rw [setR_len]; omega
    · dsimp only; omega
  rw [if_neg d2]
  by_cases d3 : d = 3
  · rw [if_pos d3]
    unfold Wd.do
    split
    · show (W.setR _ _).T.length ≤ _
      rw [setR_len]; omega
    · dsimp only; omega
  rw [if_neg d3]
  by_cases d4 : d = 4
  · rw [if_pos d4]
    unfold Wd.do
    rw [if_pos (check2 hc)]
    show (W.setR _ _).T.length ≤ _
    rw [setR_len]; omega
  rw [if_neg d4]
  by_cases d5 : d = 5
  · rw [if_pos d5]
    unfold Wd.do
    rw [if_pos (check9 ha hc)]
    show (W.reg _).2.T.length ≤ _
    unfold Wd.reg
    split
    · dsimp only; omega
    · split <;> (dsimp only; omega)
  rw [if_neg d5]
  dsimp only; omega

/-! What is seen of a strong world. -/

end
end Go.Proofs.Ytjifdalflepcoab

namespace Go.Proofs.Ytjifdalflepcoab
open Go.RowKit
set_option linter.unusedVariables false
set_option linter.unusedSimpArgs false

/-- No kind below k, and at k no number below n, has this first word. -/
def NoneW (h : Int) (k n : Nat) : Prop := ∀ (i j : Nat), (i < k ∨ i = k ∧ j < n) → fitsW i j = true → 16 * (j : Int) + i ≠ h

theorem NoneW.all {h : Int} (hn : NoneW h 6 0) : partsW h = (0, 0, 7) := by
  apply partsW_no
  cases hf : fitsW (h % 16) (h / 16)
  · rfl
  · have hb := fitsW_spec hf
    have := hn (h % 16).toNat (h / 16).toNat (.inl (by omega)) (by
      rw [Int.toNat_of_nonneg (by omega), Int.toNat_of_nonneg (by omega)]; exact hf)
    exfalso; apply this
    rw [Int.toNat_of_nonneg (by omega), Int.toNat_of_nonneg (by omega)]; omega

theorem NoneW.next {h : Int} {k n : Nat} (hn : NoneW h k n) (hx : fitsW k n = true → 16 * (n : Int) + k ≠ h) : NoneW h k (n + 1) := by
  intro i j hij hf
  by_cases e : i = k ∧ j = n
  · obtain ⟨rfl, rfl⟩ := e; exact hx hf
  · exact hn i j (by omega) hf

theorem NoneW.row {h : Int} {k : Nat} (hn : NoneW h k 13) : NoneW h (k + 1) 0 := by
  intro i j hij hf
  have := fitsW_spec hf
  exact hn i j (by omega) hf

end Go.Proofs.Ytjifdalflepcoab

namespace Go.Proofs.Ytjifdalflepcoab
open Go.RowKit
set_option linter.unusedVariables false
set_option linter.unusedSimpArgs false

/-- At block p lies a Room, its words at block g. -/
structure RoomAt (w : World) (p g : Nat) (A : Ar) : Prop where
  hp : Blk w p [.slice (some ⟨g, 0, none⟩) A.ws.length A.ws.length, .int .i64 A.nur, .int .i64 A.yng, .int .i64 ((A.grn - A.nur : Nat) : Int)] 44
  hg : Blk w g (A.ws.map (Value.int .i64)) 2
  ok : A.ok

theorem RoomAt.ne {w : World} {p g : Nat} {A : Ar} (h : RoomAt w p g A) : p ≠ g := h.hp.ne h.hg (by decide)

theorem RoomAt.keep {w w' : World} {p g : Nat} {A : Ar} {S : Nat → Prop} (h : RoomAt w p g A) (k : Keeps S w w') (h1 : ¬ S p) (h2 : ¬ S g) : RoomAt w' p g A :=
  ⟨k.blk h.hp h1, k.blk h.hg h2, h.ok⟩

theorem RoomAt.cells {w : World} {p g : Nat} {A : Ar} (h : RoomAt w p g A) :
    w.cell? ⟨p, 0, none⟩ = some (.slice (some ⟨g, 0, none⟩) A.ws.length A.ws.length) ∧ w.cell? ⟨p, 1, none⟩ = some (.int .i64 A.nur) ∧ w.cell? ⟨p, 2, none⟩ = some (.int .i64 A.yng) ∧ w.cell? ⟨p, 3, none⟩ = some (.int .i64 ((A.grn - A.nur : Nat) : Int)) :=
  ⟨h.hp.cell 0, h.hp.cell 1, h.hp.cell 2, h.hp.cell 3⟩

theorem RoomAt.word {w : World} {p g : Nat} {A : Ar} (h : RoomAt w p g A) (i : Nat) (hi : i < A.ws.length) : w.cell? ⟨g, i, none⟩ = some (.int .i64 (A.ws.getD i 0)) := by
  rw [h.hg.cell i, List.getElem?_map, List.getElem?_eq_getElem hi]
  simp [List.getD, hi]

structure RoomTo (w : World) (p g : Nat) (w' : World) (A : Ar) : Prop where
  at_ : RoomAt w' p g A
  k : Keeps (fun b => b = p ∨ b = g) w w'

section
variable {p g : Nat} {A : Ar}

end

end Go.Proofs.Ytjifdalflepcoab

namespace Go.Proofs.Ytjifdalflepcoab
open Go.RowKit
set_option linter.unusedVariables false
set_option linter.unusedSimpArgs false

section
variable {p g : Nat} {A : Ar}

theorem RoomTo.refl {w w' : World} (h : RoomAt w p g A) (k : Keeps (fun _ => False) w w') : RoomTo w p g w' A := ⟨h.keep k (fun h => h) (fun h => h), k.self⟩

end

/-- The fault of New. -/
def faultM (n o : Int) : Int × Int := if Ar.fits n o = true then (0, 0) else (1, -1)

set_option maxHeartbeats 2000000 in
set_option maxRecDepth 100000 in
theorem F_c (a b : Int) (w : World) :
    Calls Try.prog 81 #[.int .i64 a, .int .i64 b] w fun e w' => e = .returned (.agg #[.int .i64 a, .int .i64 b]) ∧ Keeps (fun _ => False) w w' := by
  go_enter Try.func81, Try.ntmps81
  go_wp2_with fail
  exact bodyPost_ret (v := .agg #[.int .i64 a, .int .i64 b]) (by simp [results, Try.results81, go_sem]) rfl ⟨rfl, (Keeps.refl _ _).alloc _⟩

set_option maxHeartbeats 2000000 in
set_option maxRecDepth 100000 in
theorem RoomFault_c (n o : Int) (w : World) :
    Calls Try.prog 20 #[.int .i64 n, .int .i64 o] w fun e w' => e = .returned (.agg #[.int .i64 (faultM n o).1, .int .i64 (faultM n o).2]) ∧ Keeps (fun _ => False) w w' := by
  cases hf : Ar.fits n o
  · have HE := Lib.hid (show faultM n o = (1, -1) by unfold faultM; rw [hf]; rfl)
    have hc : n < 16 ∨ 256 < n ∨ o < 0 ∨ 1024 < o := by
      by_cases h1 : 16 ≤ n
      · by_cases h2 : n ≤ 256
        · by_cases h3 : 0 ≤ o
          · by_cases h4 : o ≤ 1024
            · simp [Ar.fits, h1, h2, h3, h4] at hf
            · omega
          · omega
        · omega
      · omega
    clear hf
    by_cases c1 : n < 16
    · have d1 : decide (n < 16) = true := by simpa using c1
      clear hc
      go_enter Try.func20, Try.ntmps20
      go_wp2_with fail
      refine (F_c 1 (-1) _).mono ?_
      rintro e w1 ⟨rfl, hk⟩
      have hka := (Keeps.refl (fun _ => False) w).alloc (.cells #[.int .i64 0, .int .i64 0] 26)
      have hb := hk.blk (show Blk (w.alloc (.cells #[.int .i64 0, .int .i64 0] 26)) w.heap.size [.int .i64 0, .int .i64 0] 26 from Blk.newAt _ rfl rfl) (fun h => h)
      have HKA := Lib.hid (hka.trans hk); have HB := Lib.hid hb
      have l0 := hb.cell 0; have l1 := hb.cell 1; have ll := hb.lt; have f0 := hb.free 0; have f1 := hb.free 1
      simp only [List.getElem?_cons_zero, List.getElem?_cons_succ] at l0 l1
      clear hk hka hb
      go_wp2_with fail
      have hb3 := (HB.out.setSame 0 (.int .i64 1)).setSame 1 (.int .i64 (-1))
      have x0 := hb3.cell 0; have x1 := hb3.cell 1
      simp only [List.set_cons_zero, List.set_cons_succ, List.getElem?_cons_zero, List.getElem?_cons_succ] at x0 x1
      refine bodyPost_ret (v := .agg #[.int .i64 1, .int .i64 (-1)]) (by simp [results, Try.results20, go_sem, x0, x1]) rfl ⟨by rw [HE.out], ?_⟩
      exact (HKA.out.setCell (p := ⟨w.heap.size, 0, none⟩) (.inr (Nat.le_refl _)) _).setCell (p := ⟨w.heap.size, 1, none⟩) (.inr (Nat.le_refl _)) _
    have d1 : decide (n < 16) = false := by simpa using c1
    by_cases c2 : 256 < n
    · have d2 : decide (256 < n) = true := by simpa using c2
      clear hc
      go_enter Try.func20, Try.ntmps20
      go_wp2_with fail
      refine (F_c 1 (-1) _).mono ?_
      rintro e w1 ⟨rfl, hk⟩
      have hka := (Keeps.refl (fun _ => False) w).alloc (.cells #[.int .i64 0, .int .i64 0] 26)
      have hb := hk.blk (show Blk (w.alloc (.cells #[.int .i64 0, .int .i64 0] 26)) w.heap.size [.int .i64 0, .int .i64 0] 26 from Blk.newAt _ rfl rfl) (fun h => h)
      have HKA := Lib.hid (hka.trans hk); have HB := Lib.hid hb
      have l0 := hb.cell 0; have l1 := hb.cell 1; have ll := hb.lt; have f0 := hb.free 0; have f1 := hb.free 1
      simp only [List.getElem?_cons_zero, List.getElem?_cons_succ] at l0 l1
      clear hk hka hb
      go_wp2_with fail
      have hb3 := (HB.out.setSame 0 (.int .i64 1)).setSame 1 (.int .i64 (-1))
      have x0 := hb3.cell 0; have x1 := hb3.cell 1
      simp only [List.set_cons_zero, List.set_cons_succ, List.getElem?_cons_zero, List.getElem?_cons_succ] at x0 x1
      refine bodyPost_ret (v := .agg #[.int .i64 1, .int .i64 (-1)]) (by simp [results, Try.results20, go_sem, x0, x1]) rfl ⟨by rw [HE.out], ?_⟩
      exact (HKA.out.setCell (p := ⟨w.heap.size, 0, none⟩) (.inr (Nat.le_refl _)) _).setCell (p := ⟨w.heap.size, 1, none⟩) (.inr (Nat.le_refl _)) _
    have d2 : decide (256 < n) = false := by simpa using c2
    by_cases c3 : o < 0
    · have d3 : decide (o < 0) = true := by simpa using c3
      clear hc
      go_enter Try.func20, Try.ntmps20
      go_wp2_with fail
      refine (F_c 1 (-1) _).mono ?_
      rintro e w1 ⟨rfl, hk⟩
      have hka := (Keeps.refl (fun _ => False) w).alloc (.cells #[.int .i64 0, .int .i64 0] 26)
      have hb := hk.blk (show Blk (w.alloc (.cells #[.int .i64 0, .int .i64 0] 26)) w.heap.size [.int .i64 0, .int .i64 0] 26 from Blk.newAt _ rfl rfl) (fun h => h)
      have HKA := Lib.hid (hka.trans hk); have HB := Lib.hid hb
      have l0 := hb.cell 0; have l1 := hb.cell 1; have ll := hb.lt; have f0 := hb.free 0; have f1 := hb.free 1
      simp only [List.getElem?_cons_zero, List.getElem?_cons_succ] at l0 l1
      clear hk hka hb
      go_wp2_with fail
      have hb3 := (HB.out.setSame 0 (.int .i64 1)).setSame 1 (.int .i64 (-1))
      have x0 := hb3.cell 0; have x1 := hb3.cell 1
      simp only [List.set_cons_zero, List.set_cons_succ, List.getElem?_cons_zero, List.getElem?_cons_succ] at x0 x1
      refine bodyPost_ret (v := .agg #[.int .i64 1, .int .i64 (-1)]) (by simp [results, Try.results20, go_sem, x0, x1]) rfl ⟨by rw [HE.out], ?_⟩
      exact (HKA.out.setCell (p := ⟨w.heap.size, 0, none⟩) (.inr (Nat.le_refl _)) _).setCell (p := ⟨w.heap.size, 1, none⟩) (.inr (Nat.le_refl _)) _
    have d3 : decide (o < 0) = false := by simpa using c3
    have d4 : decide (1024 < o) = true := by simp; omega
    clear hc
    go_enter Try.func20, Try.ntmps20
    go_wp2_with fail
    refine (F_c 1 (-1) _).mono ?_
    rintro e w1 ⟨rfl, hk⟩
    have hka := (Keeps.refl (fun _ => False) w).alloc (.cells #[.int .i64 0, .int .i64 0] 26)
    have hb := hk.blk (show Blk (w.alloc (.cells #[.int .i64 0, .int .i64 0] 26)) w.heap.size [.int .i64 0, .int .i64 0] 26 from Blk.newAt _ rfl rfl) (fun h => h)
    have HKA := Lib.hid (hka.trans hk); have HB := Lib.hid hb
    have l0 := hb.cell 0; have l1 := hb.cell 1; have ll := hb.lt; have f0 := hb.free 0; have f1 := hb.free 1
    simp only [List.getElem?_cons_zero, List.getElem?_cons_succ] at l0 l1
    clear hk hka hb
    go_wp2_with fail
    have hb3 := (HB.out.setSame 0 (.int .i64 1)).setSame 1 (.int .i64 (-1))
    have x0 := hb3.cell 0; have x1 := hb3.cell 1
    simp only [List.set_cons_zero, List.set_cons_succ, List.getElem?_cons_zero, List.getElem?_cons_succ] at x0 x1
    refine bodyPost_ret (v := .agg #[.int .i64 1, .int .i64 (-1)]) (by simp [results, Try.results20, go_sem, x0, x1]) rfl ⟨by rw [HE.out], ?_⟩
    exact (HKA.out.setCell (p := ⟨w.heap.size, 0, none⟩) (.inr (Nat.le_refl _)) _).setCell (p := ⟨w.heap.size, 1, none⟩) (.inr (Nat.le_refl _)) _
  · have HE := Lib.hid (show faultM n o = (0, 0) by unfold faultM; rw [hf]; rfl)
    simp [Ar.fits] at hf
    have d1 : decide (n < 16) = false := by simp; omega
    have d2 : decide (256 < n) = false := by simp; omega
    have d3 : decide (o < 0) = false := by simp; omega
    have d4 : decide (1024 < o) = false := by simp; omega
    clear hf
    go_enter Try.func20, Try.ntmps20
    go_wp2_with fail
    refine bodyPost_ret (v := .agg #[.int .i64 0, .int .i64 0]) (by simp [results, Try.results20, go_sem]) rfl ⟨?_, (Keeps.refl _ _).alloc _⟩
    rw [HE.out]

end Go.Proofs.Ytjifdalflepcoab

namespace Go.Proofs.Ytjifdalflepcoab
set_option linter.unusedVariables false
set_option linter.unusedSimpArgs false

theorem partsW_head {k f : Int} (h : fitsW k f = true) : partsW (16 * f + k) = (k, f, 0) := by
  have hs := fitsW_spec h
  have e1 : (16 * f + k) % 16 = k := by omega
  have e2 : (16 * f + k) / 16 = f := by omega
  unfold partsW
  rw [e1, e2, if_pos h]

theorem thingW_get {k f : Int} {j : Nat} (h : (j : Int) ≤ f) (hj : 0 < j) : (thingW k f).getD j 0 = 2 := by
  obtain ⟨j, rfl⟩ : ∃ i, j = i + 1 := ⟨j - 1, by omega⟩
  unfold thingW
  rw [List.getD_cons_succ, List.getD_eq_getElem?_getD, List.getElem?_replicate, if_pos (by omega)]
  rfl

section
variable {A : Ar} {k f : Int}

/-- What make has made. -/
theorem Ar.made (hok : A.ok) (h : fitsW k f = true ∧ 1 + f ≤ (A.nur : Int) - A.yng) :
    ((A.make k f).2.thing A.yng = (k, f, 0)) ∧ (∀ j : Nat, 0 < j → (j : Int) ≤ f → (A.make k f).2.load ((A.yng : Int) + j) = 2) := by
  have hs := fitsW_spec h.1
  have h1 := hok.h1; have h2 := hok.h2; have h3 := hok.h3
  have hlen := thingW_length (k := k) hs.2.2.1
  rw [Ar.make_yes h]
  have key : ∀ j : Nat, (j : Int) ≤ f → Ar.load { A with yng := A.yng + (1 + f).toNat, ws := lay A.ws A.yng (thingW k f) } ((A.yng : Int) + j) = (thingW k f).getD j 0 := by
    intro j hj
    have hu : Ar.inUse { A with yng := A.yng + (1 + f).toNat, ws := lay A.ws A.yng (thingW k f) } ((A.yng : Int) + j) = true := by
      simp [Ar.inUse, Ar.young]; omega
    unfold Ar.load
    rw [if_pos hu]
    show (lay A.ws A.yng (thingW k f)).getD _ 0 = _
    rw [show ((A.yng : Int) + j).toNat = A.yng + j by omega, lay_getD (by omega), if_pos (by omega)]
    congr 1; omega
  refine ⟨?_, fun j hj hjf => by rw [key j hjf, thingW_get hjf hj]⟩
  unfold Ar.thing
  have := key 0 (by omega)
  simp only [Int.natCast_zero, Int.add_zero] at this
  rw [this]
  exact partsW_head h.1

end

end Go.Proofs.Ytjifdalflepcoab

namespace Go.Proofs.Ytjifdalflepcoab
open Go.RowKit
set_option linter.unusedVariables false
set_option linter.unusedSimpArgs false

/-- A number in a slice. -/
theorem Rd.nth {w : World} {ao : Option Addr} {l : List Int} (h : Rd w ao (l.map (Value.int .i64))) (i : Nat) (hi : i < l.length) :
    ∃ g o, ao = some ⟨g, o, none⟩ ∧ g < w.heap.size ∧ w.cell? ⟨g, o + i, none⟩ = some (.int .i64 (l.getD i 0)) := by
  obtain ⟨g, o, rfl, hg, hc⟩ := h (by intro e; simp at e; subst e; simp at hi)
  refine ⟨g, o, rfl, hg, ?_⟩
  rw [hc i (by simpa using hi)]
  simp [List.getD, hi]

theorem ArenaTo.fresh {w0 w w' : World} {p g : Nat} {A : Ar} (h : Keeps (fun _ => False) w0 w) (t : ArenaTo w p g w' A) (hp : w0.heap.size ≤ p) (hg : w0.heap.size ≤ g) : Keeps (fun _ => False) w0 w' :=
  h.then t.k (by rintro k (rfl | rfl); exact .inr hp; exact .inr hg)

def bA1 : Ar := ((Ar.new 16 8).make 1 2).2
def bA2 : Ar := (bA1.make 2 12).2
def bA3 : Ar := (bA2.make 5 0).2
def bA4 : Ar := (bA3.copy 0).2
theorem b1 : ((Ar.new 16 8).make 1 2).1 = 0 := by decide +kernel
theorem b2 : (bA1.make 2 12).1 = 3 := by decide +kernel
theorem b3 : (bA2.make 5 0).1 = -1 := by decide +kernel
theorem b4 : (bA3.copy 0).1 = 16 := by decide +kernel
theorem b5 : bA4.thing 16 = (1, 2, 0) := by decide +kernel
theorem b6 : bA4.things = ([0, 3], [16]) := by decide +kernel
theorem b7 : bA4.load 1 = 2 := by decide +kernel

end Go.Proofs.Ytjifdalflepcoab

namespace Go.Proofs.Ytjifdalflepcoab
open Go.RowKit
set_option linter.unusedVariables false
set_option linter.unusedSimpArgs false

section
variable {p g : Nat} {A : Ar}

end

end Go.Proofs.Ytjifdalflepcoab

namespace Go.Proofs.Ytjifdalflepcoab
open Go.RowKit
set_option linter.unusedVariables false
set_option linter.unusedSimpArgs false

theorem count_rep (n : Nat) : countL (List.replicate n false) = 0 := by simp [countL, List.filter_replicate]

theorem count_set {l : List Bool} : ∀ {k : Nat}, k < l.length → countL (l.set k true) = if l.getD k false then countL l else countL l + 1 := by
  induction l with
  | nil => intro k h; simp at h
  | cons a l ih =>
    intro k h
    cases k with
    | zero => cases a <;> simp [countL]
    | succ k =>
      have := ih (k := k) (by simpa using h)
      cases a <;> simp [countL] at this ⊢ <;> split at this <;> simp_all

end Go.Proofs.Ytjifdalflepcoab

namespace Go.Proofs.Ytjifdalflepcoab
open Go.RowKit
set_option linter.unusedVariables false
set_option linter.unusedSimpArgs false

/-- A wood; a Room, roots, a list of marked cards. -/
structure DW (w0 w : World) (p : Nat) (h : WH) (q gq gr : Nat) (O : Wo) (A : Ar) (L : List Int) (dv : Value) (ds : List Int) : Prop where
  M : WM w0 w p h O
  R : RoomAt w q gq A
  G : Blk w gr (L.map (Value.int .i64)) 2
  D : Sl w 3 1 dv ds.length (ds.map (Value.int .i64))
  aq : ¬ h.Own q
  ag : ¬ h.Own gq
  ar : ¬ h.Own gr
  ad : ∀ k, ownB dv k → ¬ h.Own k
  nq : w0.heap.size ≤ q
  ng : w0.heap.size ≤ gq
  nr : w0.heap.size ≤ gr
  nd : ∀ k, ownB dv k → w0.heap.size ≤ k
  ne : gq ≠ gr

section
variable {w0 w w' : World} {p : Nat} {h : WH} {q gq gr : Nat} {O O' : Wo} {A A' : Ar} {L : List Int} {dv : Value} {ds : List Int}

theorem DW.wood (D : DW w0 w p h q gq gr O A L dv ds) (t : WoodTo w h w' O') : ∃ h', DW w0 w' p h' q gq gr O' A L dv ds := by
  obtain ⟨h', H', e', k', o'⟩ := t
  have old : ∀ k, ¬ h.Own k → k < w.heap.size → ¬ h'.Own k := fun k hk hl hn => by
    rcases o' k hn with h1 | h1
    · exact hk h1
    · omega
  refine ⟨h', ⟨H', e'.trans D.M.e, D.M.K.then k' (fun b hb => .inr (D.M.own b hb)), fun b hb => ?_⟩, D.R.keep k' D.aq D.ag, k'.blk D.G D.ar, D.D.keep k' D.ad, old _ D.aq D.R.hp.lt, old _ D.ag D.R.hg.lt, old _ D.ar D.G.lt,
    fun k hk => old _ (D.ad k hk) (D.D.own hk).1, D.nq, D.ng, D.nr, D.nd, D.ne⟩
  rcases o' b hb with h1 | h1
  · exact D.M.own b h1
  · have := D.M.K.size; omega

theorem DW.room (D : DW w0 w p h q gq gr O A L dv ds) (t : RoomTo w q gq w' A') : DW w0 w' p h q gq gr O A' L dv ds := by
  refine ⟨⟨D.M.H.keep t.k ?_, D.M.e, D.M.K.then t.k ?_, D.M.own⟩, t.at_, t.k.blk D.G ?_, D.D.keep t.k ?_, D.aq, D.ag, D.ar, D.ad, D.nq, D.ng, D.nr, D.nd, D.ne⟩
  · rintro b hb (rfl | rfl)
    · exact D.aq hb
    · exact D.ag hb
  · rintro k (rfl | rfl)
    · exact .inr D.nq
    · exact .inr D.ng
  · rintro (e | e)
    · exact D.G.ne D.R.hp (by decide) e
    · exact D.ne e.symm
  · rintro k hk (e | e)
    · obtain ⟨-, cur, hb⟩ := D.D.own hk
      exact hb.ne D.R.hp (by decide) e
    · obtain ⟨-, cur, hb⟩ := D.D.own hk
      exact hb.ne D.R.hg (by decide) e

theorem DW.same (D : DW w0 w p h q gq gr O A L dv ds) (k : Keeps (fun _ => False) w w') : DW w0 w' p h q gq gr O A L dv ds :=
  ⟨D.M.same k, D.R.keep k (fun h => h) (fun h => h), k.blk D.G (fun h => h), D.D.keep k (fun _ _ h => h), D.aq, D.ag, D.ar, D.ad, D.nq, D.ng, D.nr, D.nd, D.ne⟩

theorem DW.app (D : DW w0 w p h q gq gr O A L dv ds) {v2 : Value} {x : Int} (hs : Sl w' 3 1 v2 (ds.length + 1) (ds.map (Value.int .i64) ++ [.int .i64 x])) (hk : Keeps (ownB dv) w w') (ho : ∀ k, ownB v2 k → ownB dv k ∨ w.heap.size ≤ k) :
    DW w0 w' p h q gq gr O A L v2 (ds ++ [x]) := by
  have tp : ∀ {k : Nat} {c : List Value} {T : TypeId}, Blk w k c T → T ≠ 3 → ¬ ownB dv k := fun hb hT hk => by
    obtain ⟨-, cur, hb2⟩ := D.D.own hk
    exact hb.ne hb2 hT rfl
  refine ⟨⟨D.M.H.keep hk (fun b hb hd => D.ad b hd hb), D.M.e, D.M.K.then hk (fun b hb => .inr (D.nd b hb)), D.M.own⟩, D.R.keep hk (tp D.R.hp (by decide)) (tp D.R.hg (by decide)), hk.blk D.G (tp D.G (by decide)), ?_, D.aq, D.ag, D.ar, fun k hk2 hn => ?_, D.nq, D.ng, D.nr, fun k hk2 => ?_, D.ne⟩
  · rw [List.length_append, List.map_append]; exact hs
  · rcases ho k hk2 with h1 | h1
    · exact D.ad k h1 hn
    · have := D.M.H.own_lt hn; omega
  · rcases ho k hk2 with h1 | h1
    · exact D.nd k h1
    · have := D.M.K.size; omega

/-- The box of a step is none of these blocks. -/
theorem DW.nb (D : DW w0 w p h q gq gr O A L dv ds) {b : Nat} {c : List Value} (hb : Blk w b c 61) : ¬ h.Own b ∧ ¬ (b = q ∨ b = gq) ∧ b ≠ gr ∧ ¬ ownB dv b := by
  refine ⟨fun hn => ?_, ?_, hb.ne D.G (by decide), fun hk => ?_⟩
  · obtain ⟨c2, T, hc, hT⟩ := D.M.H.own_type hn
    rcases hT with rfl | rfl | rfl | rfl | rfl | rfl | rfl <;> exact hb.ne hc (by decide) rfl
  · rintro (e | e)
    · exact hb.ne D.R.hp (by decide) e
    · exact hb.ne D.R.hg (by decide) e
  · obtain ⟨-, cur, hb2⟩ := D.D.own hk
    exact hb.ne hb2 (by decide) rfl

/-- The same, and a step's box. -/
structure DX (w0 w : World) (p : Nat) (h : WH) (q gq gr : Nat) (O : Wo) (A : Ar) (L : List Int) (dv : Value) (ds : List Int) (b : Nat) (c : List Value) : Prop where
  D : DW w0 w p h q gq gr O A L dv ds
  B : Blk w b c 61

variable {b : Nat} {c : List Value}

theorem DX.wood (D : DX w0 w p h q gq gr O A L dv ds b c) (t : WoodTo w h w' O') : ∃ h', DX w0 w' p h' q gq gr O' A L dv ds b c := by
  obtain ⟨h', D'⟩ := D.D.wood t
  obtain ⟨-, -, -, k', -⟩ := t
  exact ⟨h', D', k'.blk D.B (D.D.nb D.B).1⟩

theorem DX.arena (D : DX w0 w p h q gq gr O A L dv ds b c) {B : Ar} (t : ArenaTo w h.pa h.g w' B) (hn : B.nur = O.ar.nur) : DX w0 w' p h q gq gr { O with ar := B } A L dv ds b c := by
  have kk : Keeps h.Own w w' := t.k.mono (fun k _ hk => .inr (.inl hk))
  exact ⟨⟨⟨D.D.M.H.arena t hn, D.D.M.e, D.D.M.K.then kk (fun b hb => .inr (D.D.M.own b hb)), D.D.M.own⟩, D.D.R.keep kk D.D.aq D.D.ag, kk.blk D.D.G D.D.ar, D.D.D.keep kk D.D.ad, D.D.aq, D.D.ag, D.D.ar, D.D.ad, D.D.nq, D.D.ng, D.D.nr, D.D.nd, D.D.ne⟩, kk.blk D.B (D.D.nb D.B).1⟩

theorem DX.room (D : DX w0 w p h q gq gr O A L dv ds b c) (t : RoomTo w q gq w' A') : DX w0 w' p h q gq gr O A' L dv ds b c :=
  ⟨D.D.room t, t.k.blk D.B (D.D.nb D.B).2.1⟩

theorem DX.same (D : DX w0 w p h q gq gr O A L dv ds b c) (k : Keeps (fun _ => False) w w') : DX w0 w' p h q gq gr O A L dv ds b c := ⟨D.D.same k, k.blk D.B (fun h => h)⟩

theorem DX.app (D : DX w0 w p h q gq gr O A L dv ds b c) {v2 : Value} {x : Int} (hs : Sl w' 3 1 v2 (ds.length + 1) (ds.map (Value.int .i64) ++ [.int .i64 x])) (hk : Keeps (ownB dv) w w') (ho : ∀ k, ownB v2 k → ownB dv k ∨ w.heap.size ≤ k) :
    DX w0 w' p h q gq gr O A L v2 (ds ++ [x]) b c := ⟨D.D.app hs hk ho, hk.blk D.B (D.D.nb D.B).2.2.2⟩

theorem DW.root (D : DW w0 w p h q gq gr O A L dv ds) {k : Nat} (hk : k < L.length) : w.cell? ⟨gr, k, none⟩ = some (.int .i64 (L.getD k 0)) := by
  rw [D.G.cell, List.getElem?_map, List.getElem?_eq_getElem hk]
  simp [List.getD, hk]
end

/-- Marked cards, and their list. -/
structure DirtyOk (cd : List Bool) (ds : List Int) : Prop where
  n : countL cd = ds.length
  m : ∀ j : Nat, cd.getD j false = true ↔ (j : Int) ∈ ds

theorem DirtyOk.new (n : Nat) : DirtyOk (List.replicate n false) [] := by
  refine ⟨count_rep n, fun j => ?_⟩
  rw [List.getD_eq_getElem?_getD, List.getElem?_replicate]
  split <;> simp

theorem DirtyOk.mark {cd : List Bool} {ds : List Int} (H : DirtyOk cd ds) {j : Nat} (hj : j < cd.length) : DirtyOk (cd.set j true) (if (j : Int) ∈ ds then ds else ds ++ [(j : Int)]) := by
  have hn := H.n
  have hc := count_set hj
  have hm := H.m j
  have get : ∀ i : Nat, (cd.set j true).getD i false = true ↔ i = j ∨ cd.getD i false = true := fun i => by
    simp only [List.getD_eq_getElem?_getD, List.getElem?_set]
    by_cases e : j = i
    · subst e; simp [hj]
    · rw [if_neg e]
      constructor
      · intro h; exact .inr h
      · rintro (h | h)
        · exact absurd h.symm e
        · exact h
  by_cases c : (j : Int) ∈ ds
  · rw [if_pos c]
    rw [if_pos (hm.2 c)] at hc
    refine ⟨hc.trans hn, fun i => ?_⟩
    rw [get, H.m]
    constructor
    · rintro (rfl | h)
      · exact c
      · exact h
    · exact .inr
  · rw [if_neg c]
    rw [if_neg (fun h => c (hm.1 h))] at hc
    refine ⟨by rw [hc, hn, List.length_append]; rfl, fun i => ?_⟩
    rw [get, H.m, List.mem_append, List.mem_singleton]
    constructor
    · rintro (rfl | h)
      · exact .inr rfl
      · exact .inl h
    · rintro (h | h)
      · exact .inr h
      · exact .inl (by omega)

/-- What stays of a wood's bounds; its marked cards. -/
structure DS (n o : Int) (O : Wo) (ds : List Int) : Prop where
  nur : (O.ar.nur : Int) = n
  len : (O.ar.ws.length : Int) = n + o
  cl : O.cd.length = cardsN o
  di : DirtyOk O.cd ds

theorem DS.new {n o : Int} (h : Ar.fits n o = true) : DS n o (Wo.new n o) [] := by
  simp [Ar.fits] at h
  refine ⟨?_, ?_, ?_, DirtyOk.new _⟩
  · simp [Wo.new, Ar.new]; omega
  · simp [Wo.new, Ar.new]; omega
  · simp [Wo.new]

theorem DS.le {n o : Int} {O : Wo} {ds : List Int} (S : DS n o O ds) (h : O.ok) : ds.length ≤ 1000 := by
  have h1 := S.di.n; have h2 := countL_le O.cd; have h3 := h.hc
  omega

theorem At_any (x : Int) (w : World) :
    Calls Try.prog 52 #[.int .i64 x] w fun e w' => e = .returned (.tuple #[.int .i64 (if x % 4 = 1 then x / 4 else 0), .bool (decide (x % 4 = 1))]) ∧ w = w' := by
  by_cases h : x % 4 = 1
  · rw [if_pos h, decide_eq_true h]; exact At_yes x w h
  · rw [if_neg h, decide_eq_false h]; exact At_no x w h

end Go.Proofs.Ytjifdalflepcoab

namespace Go.Proofs.Ytjifdalflepcoab
open Go.RowKit
set_option linter.unusedVariables false
set_option linter.unusedSimpArgs false

/-- Both, in a statement, behind k steps; the wood is some world's. -/
def CInv (w wr : World) (p k : Nat) : Prop := ∃ h O W, BM w wr p h O W ∧ W.T.length ≤ k ∧ ∃ W1 φ, Rep O W1 φ

section
variable {w w' : World}

set_option maxHeartbeats 16000000 in
set_option maxRecDepth 100000 in
theorem MinorCards_raw (n o : Int) (lo : Option Addr) (lc m : Nat) (xs : List Int) (w : World) (h0 : Rd w lo (xs.map (Value.int .i64))) (hx : xs.length = m * 4) (hb : ∀ x ∈ xs, R64 x) :
    Calls Try.prog 12 #[.int .i64 n, .int .i64 o, .slice lo m lc] w fun e w' => e = .returned (.bool true) ∧ Keeps (fun _ => False) w w' := by
  have H0 := Lib.hid h0; have HX := Lib.hid hx; have HBD := Lib.hid hb
  clear h0 hx hb
  go_enter Try.func12, Try.ntmps12
  go_wp2_with fail
  refine (minorBegun_c _).mono ?_
  rintro e w1 ⟨rfl, hk1⟩
  have HK1 := Lib.hid hk1; clear hk1
  by_cases hm : 250 < m
  · go_wp2_with fail
    go_ret
    exact ⟨rfl, HK1.out⟩
  cases hfit : Ar.fits n o
  · have HFM := Lib.hid (show faultM n o = (1, -1) by unfold faultM; rw [hfit]; rfl)
    go_wp2_with fail
    refine (start_no n o _ hfit).mono ?_
    rintro e w2 ⟨rfl, hk2⟩
    go_wp2_with fail
    refine (RoomFault_c n o _).mono ?_
    rintro e w3 ⟨rfl, hk3⟩
    rw [HFM.out]
    have hfd : ∀ w : World, (Instr.field 26 (.agg #[.int .i64 1, .int .i64 (-1)]) 0).run Try.prog w = .ok (.int .i64 1) w := fun _ => by kernel_rfl
    go_wp2_with fail
    go_ret
    exact ⟨rfl, (HK1.out.trans hk2).trans hk3⟩
  have HFIT := Lib.hid hfit
  go_wp2_with fail
  refine (start_yes n o _ hfit).mono ?_
  rintro e w2 ⟨h, rfl, B2, k2, o2⟩
  have HM := Lib.hid (show BM w w2 h.p h (Wo.new n o) (Wd.new n o) from ⟨B2, rfl, HK1.out.trans k2, fun b hb => Nat.le_trans HK1.out.size (o2 b hb)⟩)
  clear hfit B2 k2 o2 HK1
  generalize h.p = p at *
  have HI := Lib.hid (show CInv w w2 p 0 from ⟨h, _, _, HM.out, by simp [Wd.new], _, _, Rep.new HFIT.out⟩)
  clear HM HFIT
  go_wp2_with fail
  refine wp_loop_over (fun i => Nat.blt 36 i && Nat.blt i 144 || Nat.blt 8 i && Nat.blt i 19) (fun s wr => ∃ k : Nat, k ≤ m ∧ s 9 = .int .i64 k ∧ CInv w wr p k) (fun s _ => m - (intOf (s 9)).toNat) ?_ ?_
  · exact ⟨0, Nat.zero_le _, rfl, HI.out⟩
  · intro u0 wr hrel K hK
    clear HI
    obtain ⟨k, hk, e9, hI⟩ := hrel
    have e9 : u0 9 = .int .i64 k := e9
    have HI := Lib.hid hI
    clear hI
    simp only [overA, overL, List.toList_toArray, Nat.blt, Nat.beq, Nat.ble, Nat.reduceAdd, Bool.or_false, Bool.false_or, Bool.or_true, Bool.true_or, Bool.and_true, Bool.true_and, Bool.and_false, Bool.false_and, cond_true, cond_false]
    rw [e9]
    have E9 := Lib.hid e9; clear e9
    by_cases hlt : k < m
    · obtain ⟨h1, O1, W1, M1, hT1, G1, φ1, R1⟩ := HI.out
      have hrd := H0.out.keep M1.K (fun _ _ _ h => h)
      obtain ⟨gs, os, rfl, hgl, d0⟩ := hrd.nth (k * 4) (by rw [HX.out]; omega)
      obtain ⟨_, _, e', -, d1⟩ := hrd.nth (k * 4 + 1) (by rw [HX.out]; omega)
      cases e'
      obtain ⟨_, _, e', -, d2⟩ := hrd.nth (k * 4 + 2) (by rw [HX.out]; omega)
      cases e'
      obtain ⟨_, _, e', -, d3⟩ := hrd.nth (k * 4 + 3) (by rw [HX.out]; omega)
      cases e'
      rw [← Nat.add_assoc] at d1 d2 d3
      have hy : ∀ j, j < 4 → R64 (xs.getD (k * 4 + j) 0) := fun j hj => HBD.out _ (by rw [List.getD_eq_getElem?_getD, List.getElem?_eq_getElem (by rw [HX.out]; omega)]; exact List.getElem_mem _)
      have HY1 := Lib.hid (hy 1 (by decide)); have HY2 := Lib.hid (hy 2 (by decide))
      generalize xs.getD (k * 4) 0 = d at *
      generalize xs.getD (k * 4 + 1) 0 = x at *
      generalize xs.getD (k * 4 + 2) 0 = y at *
      generalize xs.getD (k * 4 + 3) 0 = z at *
      have M := Lib.hid M1; have R := Lib.hid R1; have HT := Lib.hid hT1
      clear hrd hy HI M1 R1 hT1
      obtain ⟨c0, c1, pl⟩ := M.out.pc
      obtain ⟨b, hb⟩ : ∃ b, decide (d < 6) = b := ⟨_, rfl⟩
      go_upto_region 11 with (fail)
      refine wp_cut_over (fun i => Nat.blt 42 i && Nat.blt i 49) (fun s wx => s 48 = .bool b ∧ wx = wr) ?_ ?_
      · intro K' hK'
        go_wp2_with fail
        refine ⟨by kernel_rfl, ?_⟩
        exact ⟨rfl, rfl⟩
      intro u1 wx hR
      obtain ⟨e48, rfl⟩ := hR
      have e48 : u1 48 = .bool b := e48
      simp (maxSteps := 2000000) only [overA, overL, List.toList_toArray, Nat.blt, Nat.beq, Nat.ble, Nat.reduceAdd, Bool.or_false, Bool.false_or, Bool.or_true, Bool.true_or, Bool.and_true, Bool.true_and, Bool.and_false, Bool.false_and, cond_true, cond_false]
      rw [e48]
      clear e48
      rename_i K3 hK3
      refine hK3 _ _ ?_
      clear hK3
      refine wp_cut_over (fun i => Nat.blt 48 i && Nat.blt i 60) (fun s wx => CInv w wx p (k + 1)) ?_ ?_
      · intro K' hK'
        clear hb
        cases b
        · go_wp2_with fail
          refine (minorCut_c R.out M.out.B.H).mono ?_
          rintro e w2 ⟨rfl, ht⟩
          obtain ⟨h2, M2⟩ := M.out.wood ht
          obtain ⟨-, ψ, R2⟩ := R.out.minor
          have HI := Lib.hid (show CInv w w2 p (k + 1) from ⟨h2, _, _, M2, by have := HT.out; omega, _, ψ, R2⟩)
          clear ht M2 R2 c0 c1 pl
          go_wp2_with fail
          refine ⟨by kernel_rfl, ?_⟩
          exact HI.out
        · go_wp2_with (refine wpList_agg rfl 112 (.tmp 52) rfl [.int .i64 d, .int .i64 x, .int .i64 y, .int .i64 z] (by kernel_rfl) gs (os + k * 4) rfl (rangeAt_cons d0 (rangeAt_cons d1 (rangeAt_cons d2 (rangeAt_cons d3 rangeAt_nil)))) ?_)
          refine (M.out.do_c d x y z (by have := HT.out; omega) HY1.out HY2.out).mono ?_
          rintro e w2 ⟨rfl, ht⟩
          obtain ⟨h2, M2⟩ := M.out.to ht
          obtain ⟨-, ψ, R2⟩ := R.out.cs d x y (rootN_lt x) (rootN_lt z)
          have hl2 := wdC_len W1 d x y (rootN_lt x) (rootN_lt z)
          have HI := Lib.hid (show CInv w w2 p (k + 1) from ⟨h2, _, _, M2, by have := HT.out; omega, _, ψ, R2⟩)
          clear ht M2 R2 hl2 c0 c1 pl
          go_wp2_with fail
          refine ⟨by kernel_rfl, ?_⟩
          exact HI.out
      intro u2 wy hI
      have HI := Lib.hid hI
      simp (maxSteps := 2000000) only [overA, overL, List.toList_toArray, Nat.blt, Nat.beq, Nat.ble, Nat.reduceAdd, Bool.or_false, Bool.false_or, Bool.or_true, Bool.true_or, Bool.and_true, Bool.true_and, Bool.and_false, Bool.false_and, cond_true, cond_false]
      clear hI hb M R HT c0 c1 pl d0 d1 d2 d3 hgl
      obtain ⟨h5, O5, W5, M5', hT5, G5, φ5, R5'⟩ := HI.out
      have M5 := Lib.hid M5'; have CD := Lib.hid R5'.carded; have HOA := Lib.hid M5'.B.H.ok.ha
      have HLB := Lib.hid (show ∀ q ∈ O5.ar.things.2, 0 ≤ q ∧ q ≤ 1300 from fun q hq => by have := list_bounds O5.ar 1300 _ _ q hq; have := M5'.B.H.ok.ha.h4; have := M5'.B.H.ok.ha.h3; omega)
      have HLL := Lib.hid (show O5.ar.things.2.length ≤ 1300 from Ar.list_len O5.ar 1300 _ _)
      have HT5 := Lib.hid hT5; have HR5 : Hid (∃ W1 φ, Rep O5 W1 φ) := ⟨_, _, R5'⟩
      clear M5' R5' hT5
      obtain ⟨c0, c1, pl⟩ := M5.out.pc
      have q0 := M5.out.B.H.ptrs.1; have ql := M5.out.B.H.hp.lt
      go_wp2_with fail
      refine (Things_c _ M5.out.B.H.ha).mono ?_
      rintro e w6 ⟨ao, ac, bo, bc, rfl, -, hl, hk, -, -⟩
      have M6 := Lib.hid (M5.out.same hk); have LS := Lib.hid hl
      clear M5 hk hl c0 c1 pl q0 ql
      have hll := HLL.out
      obtain ⟨L, hL⟩ : ∃ L, O5.ar.things.2 = L := ⟨_, rfl⟩
      have HL := Lib.hid hL
      rw [hL] at LS HLB hll
      rw [hL]
      clear hL HLL
      go_wp2_with fail
      refine wp_loop_over (fun i => Nat.blt 70 i && Nat.blt i 144 || Nat.blt 11 i && Nat.blt i 19) (fun s wr2 => ∃ j : Nat, j ≤ L.length ∧ s 12 = .int .i64 j ∧ Keeps (fun _ => False) w6 wr2) (fun s _ => L.length - (intOf (s 12)).toNat) ?_ ?_
      · exact ⟨0, Nat.zero_le _, rfl, Keeps.refl _ _⟩
      intro u3 wr2 hrel K4 hK4
      obtain ⟨j, hj, e12, hkk⟩ := hrel
      have e12 : u3 12 = .int .i64 j := e12
      have K6 := Lib.hid hkk
      clear hkk
      simp only [overA, overL, List.toList_toArray, Nat.blt, Nat.beq, Nat.ble, Nat.reduceAdd, Bool.or_false, Bool.false_or, Bool.or_true, Bool.true_or, Bool.and_true, Bool.true_and, Bool.and_false, Bool.false_and, cond_true, cond_false]
      rw [e12]
      have E12 := Lib.hid e12; clear e12
      by_cases hjl : j < L.length
      · have M7 := Lib.hid (M6.out.same K6.out)
        obtain ⟨_, _, e', rd, -, -⟩ := (LS.out.keep K6.out (fun _ _ h => h)).rd
        cases e'
        obtain ⟨ge, oe, rfl, d0⟩ := rd.int j hjl
        have hgl := ((LS.out.keep K6.out (fun _ _ h => h)).own rfl).1
        have hmem : L.getD j 0 ∈ L := by rw [List.getD_eq_getElem?_getD, List.getElem?_eq_getElem hjl]; exact List.getElem_mem _
        obtain ⟨pb0, pb1⟩ := HLB.out _ hmem
        have HCD := Lib.hid (CD.out (L.getD j 0) (by rw [HL.out]; exact hmem))
        generalize hij : L.getD j 0 = i at *
        have HIJ := Lib.hid hij
        clear hij
        obtain ⟨c0, c1, pl⟩ := M7.out.pc
        have q0 := M7.out.B.H.ptrs.1; have ql := M7.out.B.H.hp.lt
        have hth := fun wz (H : ArenaAt wz h5.a.pa h5.a.g O5.ar) => Thing_c i wz H
        have htf := O5.ar.thing_fields i
        obtain ⟨⟨kd, nf, cc⟩, hT⟩ : ∃ t, O5.ar.thing i = t := ⟨_, rfl⟩
        simp only [hT] at hth
        rw [hT] at htf HCD
        dsimp only at htf HCD
        obtain ⟨nn, rfl⟩ : ∃ nn : Nat, nf = nn := ⟨nf.toNat, by omega⟩
        have HTH := Lib.hid hth
        clear rd hmem hth hT
        go_wp2_with fail
        refine wp_region_ro (.free 0 (.free 1 (.free 2 (.free 7 (.free 8 (.free 9 (.pure 3 (.free 4 (.free 5 (.pure 6 (.pure 10 (.run 11 (.swi [] (.free 12 (.free 13 (.free 14 (.free 15 (.free 16 (.free 17 (.free 18 (.fin))))))))))))))))))))) [11, 12, 13, 14, 15, 16, 17, 18] (fun w' => w'.cell? ⟨p, 0, none⟩ = some (.pointer (some ⟨h5.a.p, 0, none⟩)) ∧ w'.cell? ⟨h5.a.p, 0, none⟩ = some (.pointer (some ⟨h5.a.pa, 0, none⟩)) ∧ w'.cell? ⟨ge, oe + j, none⟩ = some (.int .i64 i)) (by kernel_rfl) (by kernel_rfl) ⟨c0, q0, d0⟩ ?_
        first | (refine wpRO_free rfl rfl _ (fun w' => by go_simp; exact Gives.mk _ _) (fun K hK => ?_); go_simp; refine hK _ ?_; clear hK K) | (refine wpRO_skipF rfl rfl (fun K hK => ?_); go_simp; refine hK _ ?_; clear hK K)
        first | (refine wpRO_free rfl rfl _ (fun w' => by go_simp; exact Gives.mk _ _) (fun K hK => ?_); go_simp; refine hK _ ?_; clear hK K) | (refine wpRO_skipF rfl rfl (fun K hK => ?_); go_simp; refine hK _ ?_; clear hK K)
        first | (refine wpRO_free rfl rfl _ (fun w' => by go_simp; exact Gives.mk _ _) (fun K hK => ?_); go_simp; refine hK _ ?_; clear hK K) | (refine wpRO_skipF rfl rfl (fun K hK => ?_); go_simp; refine hK _ ?_; clear hK K)
        first | (refine wpRO_free rfl rfl _ (fun w' => by go_simp; exact Gives.mk _ _) (fun K hK => ?_); go_simp; refine hK _ ?_; clear hK K) | (refine wpRO_skipF rfl rfl (fun K hK => ?_); go_simp; refine hK _ ?_; clear hK K)
        first | (refine wpRO_free rfl rfl _ (fun w' => by go_simp; exact Gives.mk _ _) (fun K hK => ?_); go_simp; refine hK _ ?_; clear hK K) | (refine wpRO_skipF rfl rfl (fun K hK => ?_); go_simp; refine hK _ ?_; clear hK K)
        first | (refine wpRO_free rfl rfl _ (fun w' => by go_simp; exact Gives.mk _ _) (fun K hK => ?_); go_simp; refine hK _ ?_; clear hK K) | (refine wpRO_skipF rfl rfl (fun K hK => ?_); go_simp; refine hK _ ?_; clear hK K)
        first | (refine wpRO_pure rfl rfl _ (fun w' hG => by obtain ⟨c0, q0, d0⟩ := hG; exact gives_agg2 rfl (by decide +kernel) rfl (by assumption) (by assumption)) (fun K hK => ?_); go_simp; refine hK _ ?_; clear hK K) | (refine wpRO_pure rfl rfl _ (fun w' hG => by obtain ⟨c0, q0, d0⟩ := hG; go_simp; exact Gives.mk _ _) (fun K hK => ?_); go_simp; refine hK _ ?_; clear hK K) | (refine wpRO_skip rfl rfl (fun K hK => ?_); go_simp; refine hK _ ?_; clear hK K)
        first | (refine wpRO_free rfl rfl _ (fun w' => by go_simp; exact Gives.mk _ _) (fun K hK => ?_); go_simp; refine hK _ ?_; clear hK K) | (refine wpRO_skipF rfl rfl (fun K hK => ?_); go_simp; refine hK _ ?_; clear hK K)
        first | (refine wpRO_free rfl rfl _ (fun w' => by go_simp; exact Gives.mk _ _) (fun K hK => ?_); go_simp; refine hK _ ?_; clear hK K) | (refine wpRO_skipF rfl rfl (fun K hK => ?_); go_simp; refine hK _ ?_; clear hK K)
        first | (refine wpRO_pure rfl rfl _ (fun w' hG => by obtain ⟨c0, q0, d0⟩ := hG; exact gives_agg2 rfl (by decide +kernel) rfl (by assumption) (by assumption)) (fun K hK => ?_); go_simp; refine hK _ ?_; clear hK K) | (refine wpRO_pure rfl rfl _ (fun w' hG => by obtain ⟨c0, q0, d0⟩ := hG; go_simp; exact Gives.mk _ _) (fun K hK => ?_); go_simp; refine hK _ ?_; clear hK K) | (refine wpRO_skip rfl rfl (fun K hK => ?_); go_simp; refine hK _ ?_; clear hK K)
        first | (refine wpRO_pure rfl rfl _ (fun w' hG => by obtain ⟨c0, q0, d0⟩ := hG; exact gives_agg2 rfl (by decide +kernel) rfl (by assumption) (by assumption)) (fun K hK => ?_); go_simp; refine hK _ ?_; clear hK K) | (refine wpRO_pure rfl rfl _ (fun w' hG => by obtain ⟨c0, q0, d0⟩ := hG; go_simp; exact Gives.mk _ _) (fun K hK => ?_); go_simp; refine hK _ ?_; clear hK K) | (refine wpRO_skip rfl rfl (fun K hK => ?_); go_simp; refine hK _ ?_; clear hK K)
        refine wpRO_chg rfl rfl rfl (fun K hK => ?_); unfold gRun; go_simp
        refine (HTH.out _ (M7.out.same ((Keeps.refl (fun _ => False) wr2).drew)).B.H.ha).mono ?_
        rintro e w8 ⟨rfl, rfl⟩
        refine hK _ _ ?_
        clear hK K
        refine wpRO_swi (fun _ => True) trivial ?_
        first | (refine wpRO_free rfl rfl _ (fun w' => by go_simp; exact Gives.mk _ _) (fun K hK => ?_); go_simp; refine hK _ ?_; clear hK K) | (refine wpRO_skipF rfl rfl (fun K hK => ?_); go_simp; refine hK _ ?_; clear hK K)
        first | (refine wpRO_free rfl rfl _ (fun w' => by go_simp; exact Gives.mk _ _) (fun K hK => ?_); go_simp; refine hK _ ?_; clear hK K) | (refine wpRO_skipF rfl rfl (fun K hK => ?_); go_simp; refine hK _ ?_; clear hK K)
        first | (refine wpRO_free rfl rfl _ (fun w' => by go_simp; exact Gives.mk _ _) (fun K hK => ?_); go_simp; refine hK _ ?_; clear hK K) | (refine wpRO_skipF rfl rfl (fun K hK => ?_); go_simp; refine hK _ ?_; clear hK K)
        first | (refine wpRO_free rfl rfl _ (fun w' => by go_simp; exact Gives.mk _ _) (fun K hK => ?_); go_simp; refine hK _ ?_; clear hK K) | (refine wpRO_skipF rfl rfl (fun K hK => ?_); go_simp; refine hK _ ?_; clear hK K)
        first | (refine wpRO_free rfl rfl _ (fun w' => by go_simp; exact Gives.mk _ _) (fun K hK => ?_); go_simp; refine hK _ ?_; clear hK K) | (refine wpRO_skipF rfl rfl (fun K hK => ?_); go_simp; refine hK _ ?_; clear hK K)
        first | (refine wpRO_free rfl rfl _ (fun w' => by go_simp; exact Gives.mk _ _) (fun K hK => ?_); go_simp; refine hK _ ?_; clear hK K) | (refine wpRO_skipF rfl rfl (fun K hK => ?_); go_simp; refine hK _ ?_; clear hK K)
        first | (refine wpRO_free rfl rfl _ (fun w' => by go_simp; exact Gives.mk _ _) (fun K hK => ?_); go_simp; refine hK _ ?_; clear hK K) | (refine wpRO_skipF rfl rfl (fun K hK => ?_); go_simp; refine hK _ ?_; clear hK K)
        refine wpRO_fin ?_
        have K8 := Lib.hid (K6.out.drew)
        have LS8 := Lib.hid (show Rd w6 (some ⟨ge, oe, none⟩) (L.map (Value.int .i64)) from by obtain ⟨_, _, e', rd, -, -⟩ := LS.out.rd; cases e'; exact rd)
        clear c0 c1 pl q0 ql d0 hgl M7
        generalize wr2.drew = w8 at *
        go_wp2_with fail
        refine wp_loop_over (fun i => Nat.blt 92 i && Nat.blt i 144 || Nat.blt 15 i && Nat.blt i 19) (fun s wr3 => ∃ q : Nat, q ≤ nn ∧ s 16 = .int .i64 q ∧ Keeps (fun _ => False) w6 wr3) (fun s _ => nn - (intOf (s 16)).toNat) ?_ ?_
        · exact ⟨0, Nat.zero_le _, rfl, K8.out⟩
        clear K8
        intro u4 wr3 hrel K5 hK5
        obtain ⟨q, hq, e16, hkk⟩ := hrel
        have e16 : u4 16 = .int .i64 q := e16
        have K9 := Lib.hid hkk
        clear hkk
        simp only [overA, overL, List.toList_toArray, Nat.blt, Nat.beq, Nat.ble, Nat.reduceAdd, Bool.or_false, Bool.false_or, Bool.or_true, Bool.true_or, Bool.and_true, Bool.true_and, Bool.and_false, Bool.false_and, cond_true, cond_false]
        rw [e16]
        have E16 := Lib.hid e16; clear e16
        by_cases hqn : q < nn
        · have M9 := Lib.hid (M6.out.same K9.out)
          obtain ⟨_, _, e', rd, -, -⟩ := (LS.out.keep K9.out (fun _ _ h => h)).rd
          cases e'
          obtain ⟨_, _, e', d0⟩ := rd.int j hjl
          cases e'
          have hgl := ((LS.out.keep K9.out (fun _ _ h => h)).own rfl).1
          have hij : L.getD j 0 = i := HIJ.out
          rw [hij] at d0
          obtain ⟨c0, c1, pl⟩ := M9.out.pc
          obtain ⟨q0, q1, -, -⟩ := M9.out.B.H.ptrs
          have ql := M9.out.B.H.hp.lt
          have hx := HCD.out (q : Int) (by omega) (by omega)
          have hxr := HOA.out.load (i + 1 + (q : Int))
          have hld := fun wz (H : ArenaAt wz h5.a.pa h5.a.g O5.ar) => Load_c (i + 1 + (q : Int)) wz H
          generalize O5.ar.load (i + 1 + (q : Int)) = x at *
          have HX1 := Lib.hid hx; have HLD := Lib.hid hld; have HXR := Lib.hid hxr
          have hw1 : IntKind.i64.wrap (i + 1) = i + 1 := IntWalk.i64_in _ (by omega)
          have hw2 : IntKind.i64.wrap (i + 1 + (q : Int)) = i + 1 + q := IntWalk.i64_in _ (by omega)
          clear rd hij hx hld hxr
          go_wp2_with fail
          refine wp_region_ro (.free 0 (.free 1 (.free 2 (.free 7 (.free 8 (.free 9 (.free 12 (.pure 3 (.free 4 (.free 5 (.pure 6 (.pure 10 (.free 11 (.free 13 (.run 14 (.swi [15, 16, 17, 18, 19, 20] (.run 15 (.swi [] (.free 16 (.free 17 (.free 18 (.free 19 (.free 20 (.fin)))))))))))))))))))))))) [14, 15, 16, 17, 18, 19, 20] (fun w' => w'.cell? ⟨p, 0, none⟩ = some (.pointer (some ⟨h5.a.p, 0, none⟩)) ∧ w'.cell? ⟨h5.a.p, 0, none⟩ = some (.pointer (some ⟨h5.a.pa, 0, none⟩)) ∧ w'.cell? ⟨ge, oe + j, none⟩ = some (.int .i64 i)) (by kernel_rfl) (by kernel_rfl) ⟨c0, q0, d0⟩ ?_
          first | (refine wpRO_free rfl rfl _ (fun w' => by go_simp; exact Gives.mk _ _) (fun K hK => ?_); go_simp; refine hK _ ?_; clear hK K) | (refine wpRO_skipF rfl rfl (fun K hK => ?_); go_simp; refine hK _ ?_; clear hK K)
          first | (refine wpRO_free rfl rfl _ (fun w' => by go_simp; exact Gives.mk _ _) (fun K hK => ?_); go_simp; refine hK _ ?_; clear hK K) | (refine wpRO_skipF rfl rfl (fun K hK => ?_); go_simp; refine hK _ ?_; clear hK K)
          first | (refine wpRO_free rfl rfl _ (fun w' => by go_simp; exact Gives.mk _ _) (fun K hK => ?_); go_simp; refine hK _ ?_; clear hK K) | (refine wpRO_skipF rfl rfl (fun K hK => ?_); go_simp; refine hK _ ?_; clear hK K)
          first | (refine wpRO_free rfl rfl _ (fun w' => by go_simp; exact Gives.mk _ _) (fun K hK => ?_); go_simp; refine hK _ ?_; clear hK K) | (refine wpRO_skipF rfl rfl (fun K hK => ?_); go_simp; refine hK _ ?_; clear hK K)
          first | (refine wpRO_free rfl rfl _ (fun w' => by go_simp; exact Gives.mk _ _) (fun K hK => ?_); go_simp; refine hK _ ?_; clear hK K) | (refine wpRO_skipF rfl rfl (fun K hK => ?_); go_simp; refine hK _ ?_; clear hK K)
          first | (refine wpRO_free rfl rfl _ (fun w' => by go_simp; exact Gives.mk _ _) (fun K hK => ?_); go_simp; refine hK _ ?_; clear hK K) | (refine wpRO_skipF rfl rfl (fun K hK => ?_); go_simp; refine hK _ ?_; clear hK K)
          first | (refine wpRO_free rfl rfl _ (fun w' => by go_simp; exact Gives.mk _ _) (fun K hK => ?_); go_simp; refine hK _ ?_; clear hK K) | (refine wpRO_skipF rfl rfl (fun K hK => ?_); go_simp; refine hK _ ?_; clear hK K)
          first | (refine wpRO_pure rfl rfl _ (fun w' hG => by obtain ⟨c0, q0, d0⟩ := hG; exact gives_agg2 rfl (by decide +kernel) rfl (by assumption) (by assumption)) (fun K hK => ?_); go_simp; refine hK _ ?_; clear hK K) | (refine wpRO_pure rfl rfl _ (fun w' hG => by obtain ⟨c0, q0, d0⟩ := hG; go_simp; exact Gives.mk _ _) (fun K hK => ?_); go_simp; refine hK _ ?_; clear hK K) | (refine wpRO_skip rfl rfl (fun K hK => ?_); go_simp; refine hK _ ?_; clear hK K)
          first | (refine wpRO_free rfl rfl _ (fun w' => by go_simp; exact Gives.mk _ _) (fun K hK => ?_); go_simp; refine hK _ ?_; clear hK K) | (refine wpRO_skipF rfl rfl (fun K hK => ?_); go_simp; refine hK _ ?_; clear hK K)
          first | (refine wpRO_free rfl rfl _ (fun w' => by go_simp; exact Gives.mk _ _) (fun K hK => ?_); go_simp; refine hK _ ?_; clear hK K) | (refine wpRO_skipF rfl rfl (fun K hK => ?_); go_simp; refine hK _ ?_; clear hK K)
          first | (refine wpRO_pure rfl rfl _ (fun w' hG => by obtain ⟨c0, q0, d0⟩ := hG; exact gives_agg2 rfl (by decide +kernel) rfl (by assumption) (by assumption)) (fun K hK => ?_); go_simp; refine hK _ ?_; clear hK K) | (refine wpRO_pure rfl rfl _ (fun w' hG => by obtain ⟨c0, q0, d0⟩ := hG; go_simp; exact Gives.mk _ _) (fun K hK => ?_); go_simp; refine hK _ ?_; clear hK K) | (refine wpRO_skip rfl rfl (fun K hK => ?_); go_simp; refine hK _ ?_; clear hK K)
          first | (refine wpRO_pure rfl rfl _ (fun w' hG => by obtain ⟨c0, q0, d0⟩ := hG; exact gives_agg2 rfl (by decide +kernel) rfl (by assumption) (by assumption)) (fun K hK => ?_); go_simp; refine hK _ ?_; clear hK K) | (refine wpRO_pure rfl rfl _ (fun w' hG => by obtain ⟨c0, q0, d0⟩ := hG; go_simp; exact Gives.mk _ _) (fun K hK => ?_); go_simp; refine hK _ ?_; clear hK K) | (refine wpRO_skip rfl rfl (fun K hK => ?_); go_simp; refine hK _ ?_; clear hK K)
          first | (refine wpRO_free rfl rfl _ (fun w' => by go_simp; exact Gives.mk _ _) (fun K hK => ?_); go_simp; refine hK _ ?_; clear hK K) | (refine wpRO_skipF rfl rfl (fun K hK => ?_); go_simp; refine hK _ ?_; clear hK K)
          first | (refine wpRO_free rfl rfl _ (fun w' => by go_simp; exact Gives.mk _ _) (fun K hK => ?_); go_simp; refine hK _ ?_; clear hK K) | (refine wpRO_skipF rfl rfl (fun K hK => ?_); go_simp; refine hK _ ?_; clear hK K)
          refine wpRO_chg rfl rfl rfl (fun K hK => ?_); unfold gRun; go_simp
          refine (HLD.out _ (M9.out.same ((Keeps.refl (fun _ => False) wr3).drew)).B.H.ha).mono ?_
          rintro e w8 ⟨rfl, rfl⟩
          refine hK _ _ ?_
          clear hK K
          refine wpRO_swi (fun _ => True) trivial ?_
          refine wpRO_chg rfl rfl rfl (fun K hK => ?_); unfold gRun; go_simp
          refine (At_any x _).mono ?_
          rintro e w8 ⟨rfl, rfl⟩
          refine hK _ _ ?_
          clear hK K
          refine wpRO_swi (fun _ => True) trivial ?_
          first | (refine wpRO_free rfl rfl _ (fun w' => by go_simp; exact Gives.mk _ _) (fun K hK => ?_); go_simp; refine hK _ ?_; clear hK K) | (refine wpRO_skipF rfl rfl (fun K hK => ?_); go_simp; refine hK _ ?_; clear hK K)
          first | (refine wpRO_free rfl rfl _ (fun w' => by go_simp; exact Gives.mk _ _) (fun K hK => ?_); go_simp; refine hK _ ?_; clear hK K) | (refine wpRO_skipF rfl rfl (fun K hK => ?_); go_simp; refine hK _ ?_; clear hK K)
          first | (refine wpRO_free rfl rfl _ (fun w' => by go_simp; exact Gives.mk _ _) (fun K hK => ?_); go_simp; refine hK _ ?_; clear hK K) | (refine wpRO_skipF rfl rfl (fun K hK => ?_); go_simp; refine hK _ ?_; clear hK K)
          first | (refine wpRO_free rfl rfl _ (fun w' => by go_simp; exact Gives.mk _ _) (fun K hK => ?_); go_simp; refine hK _ ?_; clear hK K) | (refine wpRO_skipF rfl rfl (fun K hK => ?_); go_simp; refine hK _ ?_; clear hK K)
          first | (refine wpRO_free rfl rfl _ (fun w' => by go_simp; exact Gives.mk _ _) (fun K hK => ?_); go_simp; refine hK _ ?_; clear hK K) | (refine wpRO_skipF rfl rfl (fun K hK => ?_); go_simp; refine hK _ ?_; clear hK K)
          refine wpRO_fin ?_
          clear hw1 hw2
          have M10 := Lib.hid (M9.out.same ((Keeps.refl (fun _ => False) wr3).drew))
          have K10 := Lib.hid (K9.out.drew)
          have c0 : wr3.drew.cell? ⟨p, 0, none⟩ = some (.pointer (some ⟨h5.a.p, 0, none⟩)) := c0
          have q0 : wr3.drew.cell? ⟨h5.a.p, 0, none⟩ = some (.pointer (some ⟨h5.a.pa, 0, none⟩)) := q0
          have q1 : wr3.drew.cell? ⟨h5.a.p, 1, none⟩ = some (.pointer (some ⟨h5.a.pc, 0, none⟩)) := q1
          have d0 : wr3.drew.cell? ⟨ge, oe + j, none⟩ = some (.int .i64 i) := d0
          have pl : p < wr3.drew.heap.size := pl
          have ql : h5.a.p < wr3.drew.heap.size := ql
          have hgl : ge < wr3.drew.heap.size := hgl
          clear M9 K9
          generalize wr3.drew = w10 at *
          by_cases hx4 : x % 4 = 1
          · have hxe : (if x % 4 = 1 then x / 4 else 0) = x / 4 := if_pos hx4
            have hxd : decide (x % 4 = 1) = true := by simpa using hx4
            rw [hxe, hxd]
            have HYD := Lib.hid (fun h => HX1.out hx4 h)
            clear hxe hxd hx4
            obtain ⟨yb, hyb⟩ : ∃ yb, O5.ar.young (x / 4) = yb := ⟨_, rfl⟩
            have hyc := Young_c (x / 4) _ (M10.out.same ((Keeps.refl (fun _ => False) w10).drew)).B.H.ha
            rw [hyb] at hyc HYD
            have HYC := Lib.hid hyc
            clear hyc hyb
            cases yb
            · go_wp2_with fail
              refine wp_region_ro (.free 0 (.free 1 (.free 2 (.free 3 (.free 4 (.free 9 (.pure 5 (.free 6 (.free 7 (.pure 8 (.run 10 (.swi [24, 25, 26] (.free 11 (.free 12 (.free 13 (.free 14 (.free 15 (.free 20 (.free 21 (.free 22 (.pure 16 (.free 17 (.free 18 (.pure 19 (.pure 23 (.run 24 (.swi [] (.free 25 (.free 26 (.fin)))))))))))))))))))))))))))))) [10, 11, 12, 13, 14, 15, 16, 17, 18, 19, 20, 21, 22, 23, 24, 25, 26] (fun w' => w'.cell? ⟨p, 0, none⟩ = some (.pointer (some ⟨h5.a.p, 0, none⟩)) ∧ w'.cell? ⟨h5.a.p, 0, none⟩ = some (.pointer (some ⟨h5.a.pa, 0, none⟩))) (by kernel_rfl) (by kernel_rfl) ⟨c0, q0⟩ ?_
              first | (refine wpRO_free rfl rfl _ (fun w' => by go_simp; exact Gives.mk _ _) (fun K hK => ?_); go_simp; refine hK _ ?_; clear hK K) | (refine wpRO_skipF rfl rfl (fun K hK => ?_); go_simp; refine hK _ ?_; clear hK K)
              first | (refine wpRO_free rfl rfl _ (fun w' => by go_simp; exact Gives.mk _ _) (fun K hK => ?_); go_simp; refine hK _ ?_; clear hK K) | (refine wpRO_skipF rfl rfl (fun K hK => ?_); go_simp; refine hK _ ?_; clear hK K)
              first | (refine wpRO_free rfl rfl _ (fun w' => by go_simp; exact Gives.mk _ _) (fun K hK => ?_); go_simp; refine hK _ ?_; clear hK K) | (refine wpRO_skipF rfl rfl (fun K hK => ?_); go_simp; refine hK _ ?_; clear hK K)
              first | (refine wpRO_free rfl rfl _ (fun w' => by go_simp; exact Gives.mk _ _) (fun K hK => ?_); go_simp; refine hK _ ?_; clear hK K) | (refine wpRO_skipF rfl rfl (fun K hK => ?_); go_simp; refine hK _ ?_; clear hK K)
              first | (refine wpRO_free rfl rfl _ (fun w' => by go_simp; exact Gives.mk _ _) (fun K hK => ?_); go_simp; refine hK _ ?_; clear hK K) | (refine wpRO_skipF rfl rfl (fun K hK => ?_); go_simp; refine hK _ ?_; clear hK K)
              first | (refine wpRO_free rfl rfl _ (fun w' => by go_simp; exact Gives.mk _ _) (fun K hK => ?_); go_simp; refine hK _ ?_; clear hK K) | (refine wpRO_skipF rfl rfl (fun K hK => ?_); go_simp; refine hK _ ?_; clear hK K)
              first | (refine wpRO_pure rfl rfl _ (fun w' hG => by obtain ⟨c0, q0⟩ := hG; exact gives_agg2 rfl (by decide +kernel) rfl (by assumption) (by assumption)) (fun K hK => ?_); go_simp; refine hK _ ?_; clear hK K) | (refine wpRO_pure rfl rfl _ (fun w' hG => by obtain ⟨c0, q0⟩ := hG; go_simp; exact Gives.mk _ _) (fun K hK => ?_); go_simp; refine hK _ ?_; clear hK K) | (refine wpRO_skip rfl rfl (fun K hK => ?_); go_simp; refine hK _ ?_; clear hK K)
              first | (refine wpRO_free rfl rfl _ (fun w' => by go_simp; exact Gives.mk _ _) (fun K hK => ?_); go_simp; refine hK _ ?_; clear hK K) | (refine wpRO_skipF rfl rfl (fun K hK => ?_); go_simp; refine hK _ ?_; clear hK K)
              first | (refine wpRO_free rfl rfl _ (fun w' => by go_simp; exact Gives.mk _ _) (fun K hK => ?_); go_simp; refine hK _ ?_; clear hK K) | (refine wpRO_skipF rfl rfl (fun K hK => ?_); go_simp; refine hK _ ?_; clear hK K)
              first | (refine wpRO_pure rfl rfl _ (fun w' hG => by obtain ⟨c0, q0⟩ := hG; exact gives_agg2 rfl (by decide +kernel) rfl (by assumption) (by assumption)) (fun K hK => ?_); go_simp; refine hK _ ?_; clear hK K) | (refine wpRO_pure rfl rfl _ (fun w' hG => by obtain ⟨c0, q0⟩ := hG; go_simp; exact Gives.mk _ _) (fun K hK => ?_); go_simp; refine hK _ ?_; clear hK K) | (refine wpRO_skip rfl rfl (fun K hK => ?_); go_simp; refine hK _ ?_; clear hK K)
              refine wpRO_chg rfl rfl rfl (fun K hK => ?_); unfold gRun; go_simp
              refine HYC.out.mono ?_
              rintro e w8 ⟨rfl, rfl⟩
              refine hK _ _ ?_
              clear hK K
              refine wpRO_swi (fun _ => True) trivial ?_
              first | (refine wpRO_free rfl rfl _ (fun w' => by go_simp; exact Gives.mk _ _) (fun K hK => ?_); go_simp; refine hK _ ?_; clear hK K) | (refine wpRO_skipF rfl rfl (fun K hK => ?_); go_simp; refine hK _ ?_; clear hK K)
              first | (refine wpRO_free rfl rfl _ (fun w' => by go_simp; exact Gives.mk _ _) (fun K hK => ?_); go_simp; refine hK _ ?_; clear hK K) | (refine wpRO_skipF rfl rfl (fun K hK => ?_); go_simp; refine hK _ ?_; clear hK K)
              first | (refine wpRO_free rfl rfl _ (fun w' => by go_simp; exact Gives.mk _ _) (fun K hK => ?_); go_simp; refine hK _ ?_; clear hK K) | (refine wpRO_skipF rfl rfl (fun K hK => ?_); go_simp; refine hK _ ?_; clear hK K)
              first | (refine wpRO_free rfl rfl _ (fun w' => by go_simp; exact Gives.mk _ _) (fun K hK => ?_); go_simp; refine hK _ ?_; clear hK K) | (refine wpRO_skipF rfl rfl (fun K hK => ?_); go_simp; refine hK _ ?_; clear hK K)
              first | (refine wpRO_free rfl rfl _ (fun w' => by go_simp; exact Gives.mk _ _) (fun K hK => ?_); go_simp; refine hK _ ?_; clear hK K) | (refine wpRO_skipF rfl rfl (fun K hK => ?_); go_simp; refine hK _ ?_; clear hK K)
              first | (refine wpRO_free rfl rfl _ (fun w' => by go_simp; exact Gives.mk _ _) (fun K hK => ?_); go_simp; refine hK _ ?_; clear hK K) | (refine wpRO_skipF rfl rfl (fun K hK => ?_); go_simp; refine hK _ ?_; clear hK K)
              first | (refine wpRO_free rfl rfl _ (fun w' => by go_simp; exact Gives.mk _ _) (fun K hK => ?_); go_simp; refine hK _ ?_; clear hK K) | (refine wpRO_skipF rfl rfl (fun K hK => ?_); go_simp; refine hK _ ?_; clear hK K)
              first | (refine wpRO_free rfl rfl _ (fun w' => by go_simp; exact Gives.mk _ _) (fun K hK => ?_); go_simp; refine hK _ ?_; clear hK K) | (refine wpRO_skipF rfl rfl (fun K hK => ?_); go_simp; refine hK _ ?_; clear hK K)
              first | (refine wpRO_pure rfl rfl _ (fun w' hG => by obtain _ := hG; exact gives_agg2 rfl (by decide +kernel) rfl (by assumption) (by assumption)) (fun K hK => ?_); go_simp; refine hK _ ?_; clear hK K) | (refine wpRO_pure rfl rfl _ (fun w' hG => by obtain _ := hG; go_simp; exact Gives.mk _ _) (fun K hK => ?_); go_simp; refine hK _ ?_; clear hK K) | (refine wpRO_skip rfl rfl (fun K hK => ?_); go_simp; refine hK _ ?_; clear hK K)
              first | (refine wpRO_free rfl rfl _ (fun w' => by go_simp; exact Gives.mk _ _) (fun K hK => ?_); go_simp; refine hK _ ?_; clear hK K) | (refine wpRO_skipF rfl rfl (fun K hK => ?_); go_simp; refine hK _ ?_; clear hK K)
              first | (refine wpRO_free rfl rfl _ (fun w' => by go_simp; exact Gives.mk _ _) (fun K hK => ?_); go_simp; refine hK _ ?_; clear hK K) | (refine wpRO_skipF rfl rfl (fun K hK => ?_); go_simp; refine hK _ ?_; clear hK K)
              first | (refine wpRO_pure rfl rfl _ (fun w' hG => by obtain _ := hG; exact gives_agg2 rfl (by decide +kernel) rfl (by assumption) (by assumption)) (fun K hK => ?_); go_simp; refine hK _ ?_; clear hK K) | (refine wpRO_pure rfl rfl _ (fun w' hG => by obtain _ := hG; go_simp; exact Gives.mk _ _) (fun K hK => ?_); go_simp; refine hK _ ?_; clear hK K) | (refine wpRO_skip rfl rfl (fun K hK => ?_); go_simp; refine hK _ ?_; clear hK K)
              first | (refine wpRO_pure rfl rfl _ (fun w' hG => by obtain _ := hG; exact gives_agg2 rfl (by decide +kernel) rfl (by assumption) (by assumption)) (fun K hK => ?_); go_simp; refine hK _ ?_; clear hK K) | (refine wpRO_pure rfl rfl _ (fun w' hG => by obtain _ := hG; go_simp; exact Gives.mk _ _) (fun K hK => ?_); go_simp; refine hK _ ?_; clear hK K) | (refine wpRO_skip rfl rfl (fun K hK => ?_); go_simp; refine hK _ ?_; clear hK K)
              refine wpRO_skipR rfl rfl (fun K hK => ?_)
              go_simp
              refine hK _ ?_
              clear hK K
              refine wpRO_swi (fun _ => True) trivial ?_
              first | (refine wpRO_free rfl rfl _ (fun w' => by go_simp; exact Gives.mk _ _) (fun K hK => ?_); go_simp; refine hK _ ?_; clear hK K) | (refine wpRO_skipF rfl rfl (fun K hK => ?_); go_simp; refine hK _ ?_; clear hK K)
              first | (refine wpRO_free rfl rfl _ (fun w' => by go_simp; exact Gives.mk _ _) (fun K hK => ?_); go_simp; refine hK _ ?_; clear hK K) | (refine wpRO_skipF rfl rfl (fun K hK => ?_); go_simp; refine hK _ ?_; clear hK K)
              refine wpRO_fin ?_
              clear c0 c1 q0 q1 d0 pl ql hgl
              go_wp2_with fail
              refine ⟨⟨by kernel_rfl, ?rel⟩, ?measure⟩
              case rel => exact ⟨q + 1, hqn, by go_num, K10.out.drew⟩
              case measure => exact meas_lt (by go_num) (by first | rfl | exact E16.out) hqn
            · have hdy := Dirty_c h5.a.pc h5.a.cb O5.ar.nur i O5.cd _ (M10.out.same ((Keeps.refl (fun _ => False) w10).drew)).B.H.hc (by omega) (by have := HOA.out.h2; have := HOA.out.h3; have := HOA.out.h4; omega) (by omega) (by omega) (by have := M10.out.B.H.ok.hc; omega)
              rw [HYD.out rfl] at hdy
              have HDY := Lib.hid hdy
              clear hdy
              go_wp2_with fail
              refine wp_region_ro (.free 0 (.free 1 (.free 2 (.free 3 (.free 4 (.free 9 (.pure 5 (.free 6 (.free 7 (.pure 8 (.run 10 (.swi [24, 25, 26] (.free 11 (.free 12 (.free 13 (.free 14 (.free 15 (.free 20 (.free 21 (.free 22 (.pure 16 (.free 17 (.free 18 (.pure 19 (.pure 23 (.run 24 (.swi [] (.free 25 (.free 26 (.fin)))))))))))))))))))))))))))))) [10, 11, 12, 13, 14, 15, 16, 17, 18, 19, 20, 21, 22, 23, 24, 25, 26] (fun w' => w'.cell? ⟨p, 0, none⟩ = some (.pointer (some ⟨h5.a.p, 0, none⟩)) ∧ w'.cell? ⟨h5.a.p, 0, none⟩ = some (.pointer (some ⟨h5.a.pa, 0, none⟩))) (by kernel_rfl) (by kernel_rfl) ⟨c0, q0⟩ ?_
              first | (refine wpRO_free rfl rfl _ (fun w' => by go_simp; exact Gives.mk _ _) (fun K hK => ?_); go_simp; refine hK _ ?_; clear hK K) | (refine wpRO_skipF rfl rfl (fun K hK => ?_); go_simp; refine hK _ ?_; clear hK K)
              first | (refine wpRO_free rfl rfl _ (fun w' => by go_simp; exact Gives.mk _ _) (fun K hK => ?_); go_simp; refine hK _ ?_; clear hK K) | (refine wpRO_skipF rfl rfl (fun K hK => ?_); go_simp; refine hK _ ?_; clear hK K)
              first | (refine wpRO_free rfl rfl _ (fun w' => by go_simp; exact Gives.mk _ _) (fun K hK => ?_); go_simp; refine hK _ ?_; clear hK K) | (refine wpRO_skipF rfl rfl (fun K hK => ?_); go_simp; refine hK _ ?_; clear hK K)
              first | (refine wpRO_free rfl rfl _ (fun w' => by go_simp; exact Gives.mk _ _) (fun K hK => ?_); go_simp; refine hK _ ?_; clear hK K) | (refine wpRO_skipF rfl rfl (fun K hK => ?_); go_simp; refine hK _ ?_; clear hK K)
              first | (refine wpRO_free rfl rfl _ (fun w' => by go_simp; exact Gives.mk _ _) (fun K hK => ?_); go_simp; refine hK _ ?_; clear hK K) | (refine wpRO_skipF rfl rfl (fun K hK => ?_); go_simp; refine hK _ ?_; clear hK K)
              first | (refine wpRO_free rfl rfl _ (fun w' => by go_simp; exact Gives.mk _ _) (fun K hK => ?_); go_simp; refine hK _ ?_; clear hK K) | (refine wpRO_skipF rfl rfl (fun K hK => ?_); go_simp; refine hK _ ?_; clear hK K)
              first | (refine wpRO_pure rfl rfl _ (fun w' hG => by obtain ⟨c0, q0⟩ := hG; exact gives_agg2 rfl (by decide +kernel) rfl (by assumption) (by assumption)) (fun K hK => ?_); go_simp; refine hK _ ?_; clear hK K) | (refine wpRO_pure rfl rfl _ (fun w' hG => by obtain ⟨c0, q0⟩ := hG; go_simp; exact Gives.mk _ _) (fun K hK => ?_); go_simp; refine hK _ ?_; clear hK K) | (refine wpRO_skip rfl rfl (fun K hK => ?_); go_simp; refine hK _ ?_; clear hK K)
              first | (refine wpRO_free rfl rfl _ (fun w' => by go_simp; exact Gives.mk _ _) (fun K hK => ?_); go_simp; refine hK _ ?_; clear hK K) | (refine wpRO_skipF rfl rfl (fun K hK => ?_); go_simp; refine hK _ ?_; clear hK K)
              first | (refine wpRO_free rfl rfl _ (fun w' => by go_simp; exact Gives.mk _ _) (fun K hK => ?_); go_simp; refine hK _ ?_; clear hK K) | (refine wpRO_skipF rfl rfl (fun K hK => ?_); go_simp; refine hK _ ?_; clear hK K)
              first | (refine wpRO_pure rfl rfl _ (fun w' hG => by obtain ⟨c0, q0⟩ := hG; exact gives_agg2 rfl (by decide +kernel) rfl (by assumption) (by assumption)) (fun K hK => ?_); go_simp; refine hK _ ?_; clear hK K) | (refine wpRO_pure rfl rfl _ (fun w' hG => by obtain ⟨c0, q0⟩ := hG; go_simp; exact Gives.mk _ _) (fun K hK => ?_); go_simp; refine hK _ ?_; clear hK K) | (refine wpRO_skip rfl rfl (fun K hK => ?_); go_simp; refine hK _ ?_; clear hK K)
              refine wpRO_chg rfl rfl rfl (fun K hK => ?_); unfold gRun; go_simp
              refine HYC.out.mono ?_
              rintro e w8 ⟨rfl, rfl⟩
              refine hK _ _ ?_
              clear hK K
              refine wpRO_swi (fun w' => w'.cell? ⟨p, 0, none⟩ = some (.pointer (some ⟨h5.a.p, 0, none⟩)) ∧ w'.cell? ⟨h5.a.p, 1, none⟩ = some (.pointer (some ⟨h5.a.pc, 0, none⟩)) ∧ w'.cell? ⟨ge, oe + j, none⟩ = some (.int .i64 i)) ⟨c0, q1, d0⟩ ?_
              first | (refine wpRO_free rfl rfl _ (fun w' => by go_simp; exact Gives.mk _ _) (fun K hK => ?_); go_simp; refine hK _ ?_; clear hK K) | (refine wpRO_skipF rfl rfl (fun K hK => ?_); go_simp; refine hK _ ?_; clear hK K)
              first | (refine wpRO_free rfl rfl _ (fun w' => by go_simp; exact Gives.mk _ _) (fun K hK => ?_); go_simp; refine hK _ ?_; clear hK K) | (refine wpRO_skipF rfl rfl (fun K hK => ?_); go_simp; refine hK _ ?_; clear hK K)
              first | (refine wpRO_free rfl rfl _ (fun w' => by go_simp; exact Gives.mk _ _) (fun K hK => ?_); go_simp; refine hK _ ?_; clear hK K) | (refine wpRO_skipF rfl rfl (fun K hK => ?_); go_simp; refine hK _ ?_; clear hK K)
              first | (refine wpRO_free rfl rfl _ (fun w' => by go_simp; exact Gives.mk _ _) (fun K hK => ?_); go_simp; refine hK _ ?_; clear hK K) | (refine wpRO_skipF rfl rfl (fun K hK => ?_); go_simp; refine hK _ ?_; clear hK K)
              first | (refine wpRO_free rfl rfl _ (fun w' => by go_simp; exact Gives.mk _ _) (fun K hK => ?_); go_simp; refine hK _ ?_; clear hK K) | (refine wpRO_skipF rfl rfl (fun K hK => ?_); go_simp; refine hK _ ?_; clear hK K)
              first | (refine wpRO_free rfl rfl _ (fun w' => by go_simp; exact Gives.mk _ _) (fun K hK => ?_); go_simp; refine hK _ ?_; clear hK K) | (refine wpRO_skipF rfl rfl (fun K hK => ?_); go_simp; refine hK _ ?_; clear hK K)
              first | (refine wpRO_free rfl rfl _ (fun w' => by go_simp; exact Gives.mk _ _) (fun K hK => ?_); go_simp; refine hK _ ?_; clear hK K) | (refine wpRO_skipF rfl rfl (fun K hK => ?_); go_simp; refine hK _ ?_; clear hK K)
              first | (refine wpRO_free rfl rfl _ (fun w' => by go_simp; exact Gives.mk _ _) (fun K hK => ?_); go_simp; refine hK _ ?_; clear hK K) | (refine wpRO_skipF rfl rfl (fun K hK => ?_); go_simp; refine hK _ ?_; clear hK K)
              first | (refine wpRO_pure rfl rfl _ (fun w' hG => by obtain ⟨c0, q1, d0⟩ := hG; exact gives_agg2 rfl (by decide +kernel) rfl (by assumption) (by assumption)) (fun K hK => ?_); go_simp; refine hK _ ?_; clear hK K) | (refine wpRO_pure rfl rfl _ (fun w' hG => by obtain ⟨c0, q1, d0⟩ := hG; go_simp; exact Gives.mk _ _) (fun K hK => ?_); go_simp; refine hK _ ?_; clear hK K) | (refine wpRO_skip rfl rfl (fun K hK => ?_); go_simp; refine hK _ ?_; clear hK K)
              first | (refine wpRO_free rfl rfl _ (fun w' => by go_simp; exact Gives.mk _ _) (fun K hK => ?_); go_simp; refine hK _ ?_; clear hK K) | (refine wpRO_skipF rfl rfl (fun K hK => ?_); go_simp; refine hK _ ?_; clear hK K)
              first | (refine wpRO_free rfl rfl _ (fun w' => by go_simp; exact Gives.mk _ _) (fun K hK => ?_); go_simp; refine hK _ ?_; clear hK K) | (refine wpRO_skipF rfl rfl (fun K hK => ?_); go_simp; refine hK _ ?_; clear hK K)
              first | (refine wpRO_pure rfl rfl _ (fun w' hG => by obtain ⟨c0, q1, d0⟩ := hG; exact gives_agg2 rfl (by decide +kernel) rfl (by assumption) (by assumption)) (fun K hK => ?_); go_simp; refine hK _ ?_; clear hK K) | (refine wpRO_pure rfl rfl _ (fun w' hG => by obtain ⟨c0, q1, d0⟩ := hG; go_simp; exact Gives.mk _ _) (fun K hK => ?_); go_simp; refine hK _ ?_; clear hK K) | (refine wpRO_skip rfl rfl (fun K hK => ?_); go_simp; refine hK _ ?_; clear hK K)
              first | (refine wpRO_pure rfl rfl _ (fun w' hG => by obtain ⟨c0, q1, d0⟩ := hG; exact gives_agg2 rfl (by decide +kernel) rfl (by assumption) (by assumption)) (fun K hK => ?_); go_simp; refine hK _ ?_; clear hK K) | (refine wpRO_pure rfl rfl _ (fun w' hG => by obtain ⟨c0, q1, d0⟩ := hG; go_simp; exact Gives.mk _ _) (fun K hK => ?_); go_simp; refine hK _ ?_; clear hK K) | (refine wpRO_skip rfl rfl (fun K hK => ?_); go_simp; refine hK _ ?_; clear hK K)
              refine wpRO_chg rfl rfl rfl (fun K hK => ?_); unfold gRun; go_simp
              refine HDY.out.mono ?_
              rintro e w8 ⟨rfl, rfl⟩
              refine hK _ _ ?_
              clear hK K
              refine wpRO_swi (fun _ => True) trivial ?_
              first | (refine wpRO_free rfl rfl _ (fun w' => by go_simp; exact Gives.mk _ _) (fun K hK => ?_); go_simp; refine hK _ ?_; clear hK K) | (refine wpRO_skipF rfl rfl (fun K hK => ?_); go_simp; refine hK _ ?_; clear hK K)
              first | (refine wpRO_free rfl rfl _ (fun w' => by go_simp; exact Gives.mk _ _) (fun K hK => ?_); go_simp; refine hK _ ?_; clear hK K) | (refine wpRO_skipF rfl rfl (fun K hK => ?_); go_simp; refine hK _ ?_; clear hK K)
              refine wpRO_fin ?_
              clear c0 c1 q0 q1 d0 pl ql hgl
              go_wp2_with fail
              refine ⟨⟨by kernel_rfl, ?rel⟩, ?measure⟩
              case rel => exact ⟨q + 1, hqn, by go_num, K10.out.drew⟩
              case measure => exact meas_lt (by go_num) (by first | rfl | exact E16.out) hqn
          · have hxe : (if x % 4 = 1 then x / 4 else 0) = 0 := if_neg hx4
            have hxd : decide (x % 4 = 1) = false := by simpa using hx4
            rw [hxe, hxd]
            clear hxe hxd hx4 HX1
            go_wp2_with fail
            refine wp_region_ro (.free 0 (.free 1 (.free 2 (.free 3 (.free 4 (.free 9 (.pure 5 (.free 6 (.free 7 (.pure 8 (.run 10 (.swi [24, 25, 26] (.free 11 (.free 12 (.free 13 (.free 14 (.free 15 (.free 20 (.free 21 (.free 22 (.pure 16 (.free 17 (.free 18 (.pure 19 (.pure 23 (.run 24 (.swi [] (.free 25 (.free 26 (.fin)))))))))))))))))))))))))))))) [10, 11, 12, 13, 14, 15, 16, 17, 18, 19, 20, 21, 22, 23, 24, 25, 26] (fun w' => True) (by kernel_rfl) (by kernel_rfl) trivial ?_
            first | (refine wpRO_free rfl rfl _ (fun w' => by go_simp; exact Gives.mk _ _) (fun K hK => ?_); go_simp; refine hK _ ?_; clear hK K) | (refine wpRO_skipF rfl rfl (fun K hK => ?_); go_simp; refine hK _ ?_; clear hK K)
            first | (refine wpRO_free rfl rfl _ (fun w' => by go_simp; exact Gives.mk _ _) (fun K hK => ?_); go_simp; refine hK _ ?_; clear hK K) | (refine wpRO_skipF rfl rfl (fun K hK => ?_); go_simp; refine hK _ ?_; clear hK K)
            first | (refine wpRO_free rfl rfl _ (fun w' => by go_simp; exact Gives.mk _ _) (fun K hK => ?_); go_simp; refine hK _ ?_; clear hK K) | (refine wpRO_skipF rfl rfl (fun K hK => ?_); go_simp; refine hK _ ?_; clear hK K)
            first | (refine wpRO_free rfl rfl _ (fun w' => by go_simp; exact Gives.mk _ _) (fun K hK => ?_); go_simp; refine hK _ ?_; clear hK K) | (refine wpRO_skipF rfl rfl (fun K hK => ?_); go_simp; refine hK _ ?_; clear hK K)
            first | (refine wpRO_free rfl rfl _ (fun w' => by go_simp; exact Gives.mk _ _) (fun K hK => ?_); go_simp; refine hK _ ?_; clear hK K) | (refine wpRO_skipF rfl rfl (fun K hK => ?_); go_simp; refine hK _ ?_; clear hK K)
            first | (refine wpRO_free rfl rfl _ (fun w' => by go_simp; exact Gives.mk _ _) (fun K hK => ?_); go_simp; refine hK _ ?_; clear hK K) | (refine wpRO_skipF rfl rfl (fun K hK => ?_); go_simp; refine hK _ ?_; clear hK K)
            first | (refine wpRO_pure rfl rfl _ (fun w' hG => by obtain _ := hG; exact gives_agg2 rfl (by decide +kernel) rfl (by assumption) (by assumption)) (fun K hK => ?_); go_simp; refine hK _ ?_; clear hK K) | (refine wpRO_pure rfl rfl _ (fun w' hG => by obtain _ := hG; go_simp; exact Gives.mk _ _) (fun K hK => ?_); go_simp; refine hK _ ?_; clear hK K) | (refine wpRO_skip rfl rfl (fun K hK => ?_); go_simp; refine hK _ ?_; clear hK K)
            first | (refine wpRO_free rfl rfl _ (fun w' => by go_simp; exact Gives.mk _ _) (fun K hK => ?_); go_simp; refine hK _ ?_; clear hK K) | (refine wpRO_skipF rfl rfl (fun K hK => ?_); go_simp; refine hK _ ?_; clear hK K)
            first | (refine wpRO_free rfl rfl _ (fun w' => by go_simp; exact Gives.mk _ _) (fun K hK => ?_); go_simp; refine hK _ ?_; clear hK K) | (refine wpRO_skipF rfl rfl (fun K hK => ?_); go_simp; refine hK _ ?_; clear hK K)
            first | (refine wpRO_pure rfl rfl _ (fun w' hG => by obtain _ := hG; exact gives_agg2 rfl (by decide +kernel) rfl (by assumption) (by assumption)) (fun K hK => ?_); go_simp; refine hK _ ?_; clear hK K) | (refine wpRO_pure rfl rfl _ (fun w' hG => by obtain _ := hG; go_simp; exact Gives.mk _ _) (fun K hK => ?_); go_simp; refine hK _ ?_; clear hK K) | (refine wpRO_skip rfl rfl (fun K hK => ?_); go_simp; refine hK _ ?_; clear hK K)
            refine wpRO_skipR rfl rfl (fun K hK => ?_)
            go_simp
            refine hK _ ?_
            clear hK K
            refine wpRO_swi (fun _ => True) trivial ?_
            first | (refine wpRO_free rfl rfl _ (fun w' => by go_simp; exact Gives.mk _ _) (fun K hK => ?_); go_simp; refine hK _ ?_; clear hK K) | (refine wpRO_skipF rfl rfl (fun K hK => ?_); go_simp; refine hK _ ?_; clear hK K)
            first | (refine wpRO_free rfl rfl _ (fun w' => by go_simp; exact Gives.mk _ _) (fun K hK => ?_); go_simp; refine hK _ ?_; clear hK K) | (refine wpRO_skipF rfl rfl (fun K hK => ?_); go_simp; refine hK _ ?_; clear hK K)
            first | (refine wpRO_free rfl rfl _ (fun w' => by go_simp; exact Gives.mk _ _) (fun K hK => ?_); go_simp; refine hK _ ?_; clear hK K) | (refine wpRO_skipF rfl rfl (fun K hK => ?_); go_simp; refine hK _ ?_; clear hK K)
            first | (refine wpRO_free rfl rfl _ (fun w' => by go_simp; exact Gives.mk _ _) (fun K hK => ?_); go_simp; refine hK _ ?_; clear hK K) | (refine wpRO_skipF rfl rfl (fun K hK => ?_); go_simp; refine hK _ ?_; clear hK K)
            first | (refine wpRO_free rfl rfl _ (fun w' => by go_simp; exact Gives.mk _ _) (fun K hK => ?_); go_simp; refine hK _ ?_; clear hK K) | (refine wpRO_skipF rfl rfl (fun K hK => ?_); go_simp; refine hK _ ?_; clear hK K)
            first | (refine wpRO_free rfl rfl _ (fun w' => by go_simp; exact Gives.mk _ _) (fun K hK => ?_); go_simp; refine hK _ ?_; clear hK K) | (refine wpRO_skipF rfl rfl (fun K hK => ?_); go_simp; refine hK _ ?_; clear hK K)
            first | (refine wpRO_free rfl rfl _ (fun w' => by go_simp; exact Gives.mk _ _) (fun K hK => ?_); go_simp; refine hK _ ?_; clear hK K) | (refine wpRO_skipF rfl rfl (fun K hK => ?_); go_simp; refine hK _ ?_; clear hK K)
            first | (refine wpRO_free rfl rfl _ (fun w' => by go_simp; exact Gives.mk _ _) (fun K hK => ?_); go_simp; refine hK _ ?_; clear hK K) | (refine wpRO_skipF rfl rfl (fun K hK => ?_); go_simp; refine hK _ ?_; clear hK K)
            first | (refine wpRO_pure rfl rfl _ (fun w' hG => by obtain _ := hG; exact gives_agg2 rfl (by decide +kernel) rfl (by assumption) (by assumption)) (fun K hK => ?_); go_simp; refine hK _ ?_; clear hK K) | (refine wpRO_pure rfl rfl _ (fun w' hG => by obtain _ := hG; go_simp; exact Gives.mk _ _) (fun K hK => ?_); go_simp; refine hK _ ?_; clear hK K) | (refine wpRO_skip rfl rfl (fun K hK => ?_); go_simp; refine hK _ ?_; clear hK K)
            first | (refine wpRO_free rfl rfl _ (fun w' => by go_simp; exact Gives.mk _ _) (fun K hK => ?_); go_simp; refine hK _ ?_; clear hK K) | (refine wpRO_skipF rfl rfl (fun K hK => ?_); go_simp; refine hK _ ?_; clear hK K)
            first | (refine wpRO_free rfl rfl _ (fun w' => by go_simp; exact Gives.mk _ _) (fun K hK => ?_); go_simp; refine hK _ ?_; clear hK K) | (refine wpRO_skipF rfl rfl (fun K hK => ?_); go_simp; refine hK _ ?_; clear hK K)
            first | (refine wpRO_pure rfl rfl _ (fun w' hG => by obtain _ := hG; exact gives_agg2 rfl (by decide +kernel) rfl (by assumption) (by assumption)) (fun K hK => ?_); go_simp; refine hK _ ?_; clear hK K) | (refine wpRO_pure rfl rfl _ (fun w' hG => by obtain _ := hG; go_simp; exact Gives.mk _ _) (fun K hK => ?_); go_simp; refine hK _ ?_; clear hK K) | (refine wpRO_skip rfl rfl (fun K hK => ?_); go_simp; refine hK _ ?_; clear hK K)
            first | (refine wpRO_pure rfl rfl _ (fun w' hG => by obtain _ := hG; exact gives_agg2 rfl (by decide +kernel) rfl (by assumption) (by assumption)) (fun K hK => ?_); go_simp; refine hK _ ?_; clear hK K) | (refine wpRO_pure rfl rfl _ (fun w' hG => by obtain _ := hG; go_simp; exact Gives.mk _ _) (fun K hK => ?_); go_simp; refine hK _ ?_; clear hK K) | (refine wpRO_skip rfl rfl (fun K hK => ?_); go_simp; refine hK _ ?_; clear hK K)
            refine wpRO_skipR rfl rfl (fun K hK => ?_)
            go_simp
            refine hK _ ?_
            clear hK K
            refine wpRO_swi (fun _ => True) trivial ?_
            first | (refine wpRO_free rfl rfl _ (fun w' => by go_simp; exact Gives.mk _ _) (fun K hK => ?_); go_simp; refine hK _ ?_; clear hK K) | (refine wpRO_skipF rfl rfl (fun K hK => ?_); go_simp; refine hK _ ?_; clear hK K)
            first | (refine wpRO_free rfl rfl _ (fun w' => by go_simp; exact Gives.mk _ _) (fun K hK => ?_); go_simp; refine hK _ ?_; clear hK K) | (refine wpRO_skipF rfl rfl (fun K hK => ?_); go_simp; refine hK _ ?_; clear hK K)
            refine wpRO_fin ?_
            clear c0 c1 q0 q1 d0 pl ql hgl
            go_wp2_with fail
            refine ⟨⟨by kernel_rfl, ?rel⟩, ?measure⟩
            case rel => exact ⟨q + 1, hqn, by go_num, K10.out.drew⟩
            case measure => exact meas_lt (by go_num) (by first | rfl | exact E16.out) hqn
        · obtain rfl : q = nn := by omega
          go_wp2_with fail
          refine ⟨⟨by kernel_rfl, ?rel⟩, ?measure⟩
          case rel => exact ⟨j + 1, hjl, by go_num, K9.out⟩
          case measure => exact meas_lt (by go_num) (by first | rfl | exact E12.out) hjl
      · obtain rfl : j = L.length := by omega
        have HIK := Lib.hid (show CInv w wr2 p (k + 1) from ⟨h5, O5, W5, M6.out.same K6.out, HT5.out, HR5.out⟩)
        go_wp2_with fail
        refine ⟨⟨by kernel_rfl, ?rel⟩, ?measure⟩
        case rel => exact ⟨k + 1, hlt, by go_num, HIK.out⟩
        case measure => exact meas_lt (by go_num) (by first | rfl | exact E9.out) hlt
    · obtain rfl : k = m := by omega
      obtain ⟨h1, O1, W1, M1, hT1, G1, φ1, R1⟩ := HI.out
      have K1 := Lib.hid M1.K
      clear HI M1 hT1 R1
      go_wp2_with fail
      go_ret
      exact ⟨rfl, K1.out⟩

theorem MinorCards_walk (n o : Int) (lo : Option Addr) (lc m : Nat) (xs : List Int) (w : World) (_ : R64 n) (_ : R64 o) (h0 : Rd w lo (xs.map (Value.int .i64))) (hx : xs.length = m * 4) (_ : m ≤ maxLen) (hb : ∀ x ∈ xs, R64 x) :
    Calls Try.prog 12 #[.int .i64 n, .int .i64 o, .slice lo m lc] w fun e w' => e = .returned (.bool true) ∧ Below w.heap.size w w' :=
  (MinorCards_raw n o lo lc m xs w h0 hx hb).mono fun e w' ⟨h1, h2⟩ => ⟨h1, h2.below (fun _ _ h => h)⟩
end

end Go.Proofs.Ytjifdalflepcoab
