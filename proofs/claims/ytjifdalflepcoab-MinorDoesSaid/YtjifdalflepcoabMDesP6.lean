/-
  Parts of the proof, merged: what the functions do, and plain laws.
-/
import Derived.Test.YtjifdalflepcoabMDesP1
import Derived.Test.YtjifdalflepcoabMDesP2
import Derived.Test.YtjifdalflepcoabMDesP5
import Derived.Laws.EntriesVeiled
import Derived.Test.YtjifdalflepcoabMDesP0
import Derived.Test.YtjifdalflepcoabMDesP3
import Derived.Test.YtjifdalflepcoabMDesP4
namespace Go.Proofs.Ytjifdalflepcoab
open Go.RowKit
set_option linter.unusedVariables false
set_option linter.unusedSimpArgs false
theorem i64_or1w (x : Int) : bits .or .i64 (IntKind.i64.wrap (x * 4)) 1 = IntKind.i64.wrap (4 * x + 1) := by
 have h1 : (BitVec.ofInt 64 1).toNat = 1 := by decide
 have key : (BitVec.ofInt 64 (IntKind.i64.wrap (x * 4)) ||| BitVec.ofInt 64 1).toNat = ((4 * x) % 18446744073709551616).toNat + 1 := by
  rw [BitVec.toNat_or,BitVec.toNat_ofInt,h1]
  have e : (IntKind.i64.wrap (x * 4) % ((2 ^ 64 : Nat) : Int)).toNat = (((4 * x) % 18446744073709551616).toNat / 4) <<< 2 := by
   rw [IntKind.wrap_i64,Nat.shiftLeft_eq]
   omega
  rw [e, ← Nat.shiftLeft_add_eq_or_of_lt (by decide : 1 < 2 ^ 2),Nat.shiftLeft_eq]
  omega
 show IntKind.i64.wrap ((BitVec.ofInt 64 (IntKind.i64.wrap (x * 4)) ||| BitVec.ofInt 64 1).toNat : Nat) = _
 rw [key,IntKind.wrap_i64,IntKind.wrap_i64]
 omega
set_option maxHeartbeats 400000 in
theorem Ref_any (x : Int) (w : World) :
  Calls Try.prog 43 #[.int .i64 x] w fun e w' => e = .returned (.int .i64 (refW x)) ∧ w = w' := by
 have hor : bits .or .i64 (wrap64 (x * 4)) 1 = refW x := by rw [← IntWalk.i64_left]; exact i64_or1w x
 go_enter Try.func43,Try.ntmps43
 go_wp2
 go_ret
 exact ⟨rfl,rfl⟩
theorem refW_wrap64 (x : Int) : refW (wrap64 x) = refW x := by
 unfold refW wrap64
 rw [IntKind.wrap_i64,IntKind.wrap_i64]
 omega
structure CH where
 p : Nat
 pa : Nat
 g : Nat
 cp : Nat
 ps : Nat
 ro : Value
 pc : Nat
 base : Int
def CH.Own (H : CH) (wv ev : Value) (k : Nat) : Prop := k = H.p ∨ k = H.pa ∨ k = H.g ∨ k = H.pc ∨ ownB wv k ∨ ownB ev k
structure CutJ (w : World) (H : CH) (wv ev : Value) (s : Ms) (c : Int) : Prop where
 hp : Blk w H.p [.pointer (some ⟨H.pa,0,none⟩), .pointer (some ⟨H.cp,0,none⟩), .pointer (some ⟨H.ps,0,none⟩),H.ro] 65
 ha : ArenaAt w H.pa H.g s.A
 hc : Blk w H.pc [.pointer (some ⟨H.p,0,none⟩), .int .i64 H.base, .int .i64 c,wv,ev] 173
 hw : Sl w 3 1 wv s.wk.length (s.wk.map (Value.int .i64))
 he : Sl w 3 1 ev s.ep.length (s.ep.map (Value.int .i64))
 ap : ∀ k,¬ (ownB wv k ∧ ownB ev k)
def CutTo (w : World) (H : CH) (wv ev : Value) (s : Ms) (c : Int) (w' : World) : Prop :=
 ∃ wv' ev',CutJ w' H wv' ev' s c ∧ Keeps (H.Own wv ev) w w' ∧ ∀ k,H.Own wv' ev' k → H.Own wv ev k ∨ w.heap.size ≤ k
section
variable {w w' : World} {H : CH} {wv ev : Value} {s : Ms} {c : Int}
theorem CutJ.own_type (J : CutJ w H wv ev s c) {k : Nat} (hk : H.Own wv ev k) : ∃ l T,Blk w k l T ∧ (T = 65 ∨ T = 120 ∨ T = 2 ∨ T = 173 ∨ T = 3) := by
 rcases hk with rfl | rfl | rfl | rfl | hk | hk
 ·exact ⟨_,_,J.hp, .inl rfl⟩
 ·exact ⟨_,_,J.ha.hp, .inr (.inl rfl)⟩
 ·exact ⟨_,_,J.ha.hg, .inr (.inr (.inl rfl))⟩
 ·exact ⟨_,_,J.hc, .inr (.inr (.inr (.inl rfl)))⟩
 ·obtain ⟨_,l,h⟩ := J.hw.own hk; exact ⟨_,_,h, .inr (.inr (.inr (.inr rfl)))⟩
 ·obtain ⟨_,l,h⟩ := J.he.own hk; exact ⟨_,_,h, .inr (.inr (.inr (.inr rfl)))⟩
theorem CutJ.own_lt (J : CutJ w H wv ev s c) {k : Nat} (hk : H.Own wv ev k) : k < w.heap.size := by
 obtain ⟨_,_,h,_⟩ := J.own_type hk; exact h.lt
theorem CutJ.keep {S : Nat → Prop} (J : CutJ w H wv ev s c) (k : Keeps S w w') (hn : ∀ b,H.Own wv ev b → ¬ S b) : CutJ w' H wv ev s c :=
 ⟨k.blk J.hp (hn _ (.inl rfl)),J.ha.keep k (hn _ (.inr (.inl rfl))) (hn _ (.inr (.inr (.inl rfl)))),k.blk J.hc (hn _ (.inr (.inr (.inr (.inl rfl))))),J.hw.keep k (fun b hb => hn b (.inr (.inr (.inr (.inr (.inl hb)))))),
  J.he.keep k (fun b hb => hn b (.inr (.inr (.inr (.inr (.inr hb)))))),J.ap⟩
theorem CutJ.same (J : CutJ w H wv ev s c) (k : Keeps (fun _ => False) w w') : CutJ w' H wv ev s c := J.keep k (fun _ _ h => h)
theorem CutTo.refl (J : CutJ w H wv ev s c) : CutTo w H wv ev s c w := ⟨wv,ev,J,Keeps.refl _ _,fun _ h => .inl h⟩
theorem CutTo.to_same {w2 : World} (t : CutTo w H wv ev s c w') (k : Keeps (fun _ => False) w' w2) : CutTo w H wv ev s c w2 := by
 obtain ⟨a,b,J,k1,o⟩ := t
 exact ⟨a,b,J.same k,k1.trans (k.mono fun _ _ h => h.elim),o⟩
theorem CutTo.from_same {w1 : World} (k : Keeps (fun _ => False) w w1) (t : CutTo w1 H wv ev s c w') : CutTo w H wv ev s c w' := by
 obtain ⟨a,b,J,k1,o⟩ := t
 exact ⟨a,b,J,(k.mono fun _ _ h => h.elim).trans k1,fun b hb => (o b hb).imp id (fun h => Nat.le_trans k.size h)⟩
theorem CutTo.then {w1 : World} {s1 : Ms} {c1 : Int} (t : CutTo w H wv ev s1 c1 w1) (u : ∀ wv1 ev1,CutJ w1 H wv1 ev1 s1 c1 → CutTo w1 H wv1 ev1 s c w') : CutTo w H wv ev s c w' := by
 obtain ⟨a,b,J,k1,o1⟩ := t
 obtain ⟨a2,b2,J2,k2,o2⟩ := u a b J
 refine ⟨a2,b2,J2,k1.then k2 o1,fun k hk => ?_⟩
 rcases o2 k hk with h | h
 ·exact o1 k h
 ·exact .inr (Nat.le_trans k1.size h)
theorem CutJ.arena (J : CutJ w H wv ev s c) {A : Ar} (t : ArenaTo w H.pa H.g w' A) : CutJ w' H wv ev { s with A := A } c := by
 have n1 : ∀ {b : Nat} {c : List Value} {T : TypeId},Blk w b c T → T ≠ 120 → T ≠ 2 → ¬ (b = H.pa ∨ b = H.g) := fun hb h1 h2 e => by
  rcases e with e | e
  ·exact hb.ne J.ha.hp h1 e
  ·exact hb.ne J.ha.hg h2 e
 refine ⟨t.k.blk J.hp (n1 J.hp (by decide) (by decide)),t.at_,t.k.blk J.hc (n1 J.hc (by decide) (by decide)),J.hw.keep t.k (fun b hb => ?_),J.he.keep t.k (fun b hb => ?_),J.ap⟩
 ·obtain ⟨_,l,h⟩ := J.hw.own hb; exact n1 h (by decide) (by decide)
 ·obtain ⟨_,l,h⟩ := J.he.own hb; exact n1 h (by decide) (by decide)
theorem CutJ.arenaTo (J : CutJ w H wv ev s c) {A : Ar} (t : ArenaTo w H.pa H.g w' A) : CutTo w H wv ev { s with A := A } c w' :=
 ⟨wv,ev,J.arena t,t.k.mono (fun k _ hk => hk.elim (fun h => .inr (.inl h)) (fun h => .inr (.inr (.inl h)))),fun k hk => .inl hk⟩
theorem CutJ.cells (J : CutJ w H wv ev s c) : w.cell? ⟨H.pc,0,none⟩ = some (.pointer (some ⟨H.p,0,none⟩)) ∧ w.cell? ⟨H.pc,1,none⟩ = some (.int .i64 H.base) ∧ w.cell? ⟨H.pc,2,none⟩ = some (.int .i64 c) ∧ w.cell? ⟨H.pc,3,none⟩ = some wv ∧ w.cell? ⟨H.pc,4,none⟩ = some ev ∧
  w.cell? ⟨H.p,0,none⟩ = some (.pointer (some ⟨H.pa,0,none⟩)) ∧ w.cell? ⟨H.p,1,none⟩ = some (.pointer (some ⟨H.cp,0,none⟩)) ∧ w.cell? ⟨H.p,2,none⟩ = some (.pointer (some ⟨H.ps,0,none⟩)) ∧ w.cell? ⟨H.p,3,none⟩ = some H.ro :=
 ⟨J.hc.cell 0,J.hc.cell 1,J.hc.cell 2,J.hc.cell 3,J.hc.cell 4,J.hp.cell 0,J.hp.cell 1,J.hp.cell 2,J.hp.cell 3⟩
theorem CutTo.cells {w1 : World} {s1 : Ms} {c1 : Int} (t : CutTo w H wv ev s1 c1 w1) : w1.cell? ⟨H.pc,0,none⟩ = some (.pointer (some ⟨H.p,0,none⟩)) ∧ w1.cell? ⟨H.pc,1,none⟩ = some (.int .i64 H.base) ∧ w1.cell? ⟨H.pc,2,none⟩ = some (.int .i64 c1) ∧
  w1.cell? ⟨H.p,0,none⟩ = some (.pointer (some ⟨H.pa,0,none⟩)) ∧ w1.cell? ⟨H.p,1,none⟩ = some (.pointer (some ⟨H.cp,0,none⟩)) ∧ w1.cell? ⟨H.p,2,none⟩ = some (.pointer (some ⟨H.ps,0,none⟩)) ∧ w1.cell? ⟨H.p,3,none⟩ = some H.ro := by
 obtain ⟨_,_,J,_,_⟩ := t
 exact ⟨J.cells.1,J.cells.2.1,J.cells.2.2.1,J.cells.2.2.2.2.2⟩
set_option maxHeartbeats 1000000 in
set_option maxRecDepth 100000 in
theorem mAlive_c (x : Int) (J : CutJ w H wv ev s c) :
  Calls Try.prog 146 #[.pointer (some ⟨H.pc,0,none⟩), .int .i64 x] w fun e w' => e = .returned (.bool (mAlive s.A x)) ∧ w = w' := by
 obtain ⟨c0, -, -, -, -,p0, -, -, -⟩ := J.cells
 have pl := J.hp.lt; have cl := J.hc.lt
 have HA := Lib.hid J.ha
 clear J
 by_cases hx : x % 4 = 1
 ·have HX := Lib.hid hx
  cases hy : s.A.young (x / 4)
  ·have HE := Lib.hid (show mAlive s.A x = true by simp [mAlive,hy])
   have HY := Lib.hid hy
   clear hx hy
   go_enter Try.func146,Try.ntmps146
   go_wp2_with fail
   refine (At_yes x _ HX.out).mono ?_
   rintro e w1 ⟨rfl,rfl⟩
   go_wp2_with fail
   refine (Young_c (x / 4) _ HA.out).mono ?_
   rintro e w1 ⟨rfl,rfl⟩
   rw [HY.out]
   go_wp2_with fail
   go_ret
   exact ⟨ret_bool HE.out.symm,rfl⟩
  ·have HE := Lib.hid (show mAlive s.A x = decide (s.A.load (x / 4) < 0) by simp [mAlive,hy,hx])
   have HY := Lib.hid hy
   clear hx hy
   go_enter Try.func146,Try.ntmps146
   go_wp2_with fail
   refine (At_yes x _ HX.out).mono ?_
   rintro e w1 ⟨rfl,rfl⟩
   go_wp2_with fail
   refine (Young_c (x / 4) _ HA.out).mono ?_
   rintro e w1 ⟨rfl,rfl⟩
   rw [HY.out]
   go_wp2_with fail
   refine (Load_c (x / 4) _ HA.out).mono ?_
   rintro e w1 ⟨rfl,rfl⟩
   go_wp2_with fail
   go_ret
   exact ⟨ret_bool HE.out.symm,rfl⟩
 ·have HE := Lib.hid (show mAlive s.A x = true by simp [mAlive,hx])
  have HX := Lib.hid hx
  clear hx
  go_enter Try.func146,Try.ntmps146
  go_wp2_with fail
  refine (At_no x _ HX.out).mono ?_
  rintro e w1 ⟨rfl,rfl⟩
  go_wp2_with fail
  go_ret
  exact ⟨ret_bool HE.out.symm,rfl⟩
set_option maxHeartbeats 1000000 in
set_option maxRecDepth 100000 in
theorem mNow_c (x : Int) (J : CutJ w H wv ev s c) :
  Calls Try.prog 147 #[.pointer (some ⟨H.pc,0,none⟩), .int .i64 x] w fun e w' => e = .returned (.int .i64 (mNow s.A x)) ∧ w = w' := by
 obtain ⟨c0, -, -, -, -,p0, -, -, -⟩ := J.cells
 have pl := J.hp.lt; have cl := J.hc.lt
 have HA := Lib.hid J.ha
 have HR := Lib.hid (J.ha.ok.load (x / 4))
 clear J
 by_cases hx : x % 4 = 1
 ·have HX := Lib.hid hx
  cases hy : s.A.young (x / 4)
  ·have HE := Lib.hid (show mNow s.A x = x by simp [mNow,hy])
   have HY := Lib.hid hy
   clear hx hy
   go_enter Try.func147,Try.ntmps147
   go_wp2_with fail
   refine (At_yes x _ HX.out).mono ?_
   rintro e w1 ⟨rfl,rfl⟩
   go_wp2_with fail
   refine (Young_c (x / 4) _ HA.out).mono ?_
   rintro e w1 ⟨rfl,rfl⟩
   rw [HY.out]
   go_wp2_with fail
   go_ret
   exact ⟨ret_int HE.out.symm,rfl⟩
  ·have HY := Lib.hid hy
   have HE := Lib.hid (show mNow s.A x = if s.A.load (x / 4) < 0 then refW (-1 - s.A.load (x / 4)) else x by simp [mNow,hy,hx])
   have HLd := Lib.hid (Load_c (x / 4) w HA.out)
   generalize s.A.load (x / 4) = u at HE HLd HR
   clear hx hy
   by_cases hu : u < 0
   ·have hd : decide (u < 0) = true := by simpa using hu
    have hw : IntKind.i64.wrap (-1 - u) = -1 - u := IntWalk.i64_in _ (by have := HR.out; unfold R64 at this; omega)
    have HW := Lib.hid hw
    have HU := Lib.hid hu
    clear hu hw
    go_enter Try.func147,Try.ntmps147
    go_wp2_with fail
    refine (At_yes x _ HX.out).mono ?_
    rintro e w1 ⟨rfl,rfl⟩
    go_wp2_with fail
    refine (Young_c (x / 4) _ HA.out).mono ?_
    rintro e w1 ⟨rfl,rfl⟩
    rw [HY.out]
    go_wp2_with fail
    refine HLd.out.mono ?_
    rintro e w1 ⟨rfl,rfl⟩
    go_wp2_with fail
    refine HLd.out.mono ?_
    rintro e w1 ⟨rfl,rfl⟩
    go_wp2_with fail
    refine (Ref_any _ _).mono ?_
    rintro e w1 ⟨rfl,rfl⟩
    go_wp2_with fail
    go_ret
    refine ⟨ret_int ?_,rfl⟩
    rw [HE.out,if_pos HU.out]
    try rw [HW.out]
    try rw [refW_wrap64]
   ·have hd : decide (u < 0) = false := by simpa using hu
    have HU := Lib.hid hu
    clear hu
    go_enter Try.func147,Try.ntmps147
    go_wp2_with fail
    refine (At_yes x _ HX.out).mono ?_
    rintro e w1 ⟨rfl,rfl⟩
    go_wp2_with fail
    refine (Young_c (x / 4) _ HA.out).mono ?_
    rintro e w1 ⟨rfl,rfl⟩
    rw [HY.out]
    go_wp2_with fail
    refine HLd.out.mono ?_
    rintro e w1 ⟨rfl,rfl⟩
    go_wp2_with fail
    go_ret
    exact ⟨ret_int (by rw [HE.out,if_neg (by have := HU.out; omega)]),rfl⟩
 ·have HE := Lib.hid (show mNow s.A x = x by simp [mNow,hx])
  have HX := Lib.hid hx
  clear hx
  go_enter Try.func147,Try.ntmps147
  go_wp2_with fail
  refine (At_no x _ HX.out).mono ?_
  rintro e w1 ⟨rfl,rfl⟩
  go_wp2_with fail
  go_ret
  exact ⟨ret_int HE.out.symm,rfl⟩
theorem mDead {A : Ar} {x : Int} (h : mAlive A x = false) : x % 4 = 1 ∧ A.young (x / 4) = true ∧ ¬ A.load (x / 4) < 0 := by
 simp [mAlive] at h
 exact ⟨h.1.1,h.1.2,by omega⟩
def BringRet (w : World) (H : CH) (wv ev : Value) (s : Ms) (c x : Int) (e : Ending) (w' : World) : Prop :=
 e = .returned (.int .i64 (mNow (mBring s.A x) x)) ∧ ArenaTo w H.pa H.g w' (mBring s.A x)
theorem ArenaTo.from_same {w w1 w2 : World} {p g : Nat} {A : Ar} (k : Keeps (fun _ => False) w w1) (t : ArenaTo w1 p g w2 A) : ArenaTo w p g w2 A := ⟨t.at_,(k.mono fun _ _ h => h.elim).trans t.k⟩
theorem ArenaTo.to_same {w w1 w2 : World} {p g : Nat} {A : Ar} (t : ArenaTo w p g w1 A) (k : Keeps (fun _ => False) w1 w2) : ArenaTo w p g w2 A := ⟨t.at_.keep k (fun h => h) (fun h => h),t.k.trans (k.mono fun _ _ h => h.elim)⟩
set_option maxHeartbeats 1000000 in
set_option maxRecDepth 100000 in
theorem mBring_c (x : Int) (J : CutJ w H wv ev s c) :
  Calls Try.prog 117 #[.pointer (some ⟨H.pc,0,none⟩), .int .i64 x] w (BringRet w H wv ev s c x) := by
 have HJ := Lib.hid J
 clear J
 cases hal : mAlive s.A x
 ·obtain ⟨hx, -, -⟩ := mDead hal
  have HE := Lib.hid (show mBring s.A x = (s.A.copy (x / 4)).2.store (x / 4) (-1 - (s.A.copy (x / 4)).1) by unfold mBring; rw [hal]; rfl)
  have HAL := Lib.hid hal; have HX := Lib.hid hx
  have hcr := Ar.copy_range HJ.out.ha.ok (x / 4)
  have HCP := Lib.hid (fun w' h => ACopy_c (p := H.pa) (g := H.g) (A := s.A) (x / 4) w' h)
  obtain ⟨⟨d,B⟩,hT⟩ : ∃ t,s.A.copy (x / 4) = t := ⟨_,rfl⟩
  rw [hT] at HE hcr HCP
  dsimp only at HE hcr HCP
  have hwr : IntKind.i64.wrap (-1 - d) = -1 - d := IntWalk.i64_in _ (by omega)
  have HR := Lib.hid (show R64 (-1 - d) by unfold R64; omega)
  have HW := Lib.hid hwr
  clear hal hx hcr hT hwr
  go_enter Try.func117,Try.ntmps117
  go_wp2_with fail
  refine (mAlive_c x HJ.out).mono ?_
  rintro e w1 ⟨rfl,rfl⟩
  rw [HAL.out]
  go_wp2_with fail
  refine (At_yes x _ HX.out).mono ?_
  rintro e w1 ⟨rfl,rfl⟩
  obtain ⟨c0, -, -, -, -,p0, -, -, -⟩ := HJ.out.cells
  have pl := HJ.out.hp.lt; have cl := HJ.out.hc.lt
  go_wp2_with fail
  refine wp_region_ro (.free 0 (.free 1 (.free 2 (.free 7 (.free 8 (.free 9 (.free 10 (.free 15 (.pure 3 (.free 4 (.free 5 (.pure 6 (.pure 11 (.free 12 (.free 13 (.pure 14 (.run 16 (.free 17 (.run 18 (.swi [] (.fin))))))))))))))))))))) [18] (fun w' => w'.cell? ⟨H.pc,0,none⟩ = some (.pointer (some ⟨H.p,0,none⟩)) ∧ w'.cell? ⟨H.p,0,none⟩ = some (.pointer (some ⟨H.pa,0,none⟩))) (by kernel_rfl) (by kernel_rfl) ⟨c0,p0⟩ ?_
  iterate 16 first | (refine wpRO_free rfl rfl _ (fun w' => by go_simp; exact Gives.mk _ _) (fun K hK => ?_); go_simp; refine hK _ ?_; clear hK K) | (refine wpRO_skipF rfl rfl (fun K hK => ?_); go_simp; refine hK _ ?_; clear hK K) | (refine wpRO_pure rfl rfl _ (fun w' hG => by obtain ⟨g0,g1⟩ := hG; exact gives_agg2 rfl (by decide +kernel) rfl (by assumption) (by assumption)) (fun K hK => ?_); go_simp; refine hK _ ?_; clear hK K) | (refine wpRO_pure rfl rfl _ (fun w' hG => by obtain ⟨g0,g1⟩ := hG; go_simp; exact Gives.mk _ _) (fun K hK => ?_); go_simp; refine hK _ ?_; clear hK K) | (refine wpRO_skip rfl rfl (fun K hK => ?_); go_simp; refine hK _ ?_; clear hK K)
  refine wpRO_run rfl rfl (fun K hK => ?_); unfold gRun; go_simp
  have HD := Lib.hid (HJ.out.same ((Keeps.refl (fun _ => False) w).drew))
  refine (HCP.out _ HD.out.ha).mono ?_
  rintro e w1 ⟨rfl,t⟩
  have T1 := Lib.hid t
  clear t
  refine hK _ _ (fun _ => ⟨((HD.out.arena T1.out).cells).1,(HD.out.arena T1.out).cells.2.2.2.2.2.1⟩) ?_
  clear hK K
  iterate 1 first | (refine wpRO_free rfl rfl _ (fun w' => by go_simp; exact Gives.mk _ _) (fun K hK => ?_); go_simp; refine hK _ ?_; clear hK K) | (refine wpRO_skipF rfl rfl (fun K hK => ?_); go_simp; refine hK _ ?_; clear hK K)
  refine wpRO_chg rfl rfl rfl (fun K hK => ?_); unfold gRun; go_simp
  rw [HW.out]
  refine (Store_c (x / 4) (-1 - d) _ T1.out.at_ HR.out).mono ?_
  rintro e w2 ⟨rfl,t⟩
  have T2 := Lib.hid (ArenaTo.from_same (w := w) ((Keeps.refl (fun _ => False) w).drew) (T1.out.trans t))
  clear t
  refine hK _ _ ?_
  clear hK K c0 p0 pl cl
  refine wpRO_swi (fun _ => True) trivial (wpRO_fin ?_)
  have HJ2 := Lib.hid (HJ.out.arena T2.out)
  go_wp2_with fail
  refine (mNow_c x HJ2.out).mono ?_
  rintro e w3 ⟨rfl,rfl⟩
  go_wp2_with fail
  go_ret
  refine ⟨ret_int (by rw [HE.out]), ?_⟩
  rw [HE.out]; exact T2.out
 ·have HE := Lib.hid (show mBring s.A x = s.A by unfold mBring; rw [hal]; rfl)
  have HAL := Lib.hid hal
  clear hal
  go_enter Try.func117,Try.ntmps117
  go_wp2_with fail
  refine (mAlive_c x HJ.out).mono ?_
  rintro e w1 ⟨rfl,rfl⟩
  rw [HAL.out]
  go_wp2_with fail
  refine (mNow_c x HJ.out).mono ?_
  rintro e w1 ⟨rfl,rfl⟩
  go_wp2_with fail
  go_ret
  refine ⟨ret_int (by rw [HE.out]), ?_⟩
  rw [HE.out]; exact ArenaTo.refl HJ.out.ha (Keeps.refl _ _)
set_option maxHeartbeats 1000000 in
set_option maxRecDepth 100000 in
theorem mField_c (i : Int) (J : CutJ w H wv ev s c) :
  Calls Try.prog 148 #[.pointer (some ⟨H.pc,0,none⟩), .int .i64 i] w fun e w' => e = .returned (.tuple #[]) ∧ ArenaTo w H.pa H.g w' (mField s.A i) := by
 have HJ := Lib.hid J
 clear J
 obtain ⟨c0, -, -, -, -,p0, -, -, -⟩ := HJ.out.cells
 have pl := HJ.out.hp.lt; have cl := HJ.out.hc.lt
 go_enter Try.func148,Try.ntmps148
 go_wp2_with fail
 refine wp_region_ro (.free 0 (.free 1 (.free 2 (.free 7 (.free 8 (.free 9 (.free 10 (.free 11 (.free 16 (.pure 3 (.free 4 (.free 5 (.pure 6 (.pure 12 (.free 13 (.free 14 (.pure 15 (.run 17 (.run 18 (.run 19 (.swi [] (.fin)))))))))))))))))))))) [19] (fun w' => w'.cell? ⟨H.pc,0,none⟩ = some (.pointer (some ⟨H.p,0,none⟩)) ∧ w'.cell? ⟨H.p,0,none⟩ = some (.pointer (some ⟨H.pa,0,none⟩))) (by kernel_rfl) (by kernel_rfl) ⟨c0,p0⟩ ?_
 iterate 17 first | (refine wpRO_free rfl rfl _ (fun w' => by go_simp; exact Gives.mk _ _) (fun K hK => ?_); go_simp; refine hK _ ?_; clear hK K) | (refine wpRO_skipF rfl rfl (fun K hK => ?_); go_simp; refine hK _ ?_; clear hK K) | (refine wpRO_pure rfl rfl _ (fun w' hG => by obtain ⟨g0,g1⟩ := hG; exact gives_agg2 rfl (by decide +kernel) rfl (by assumption) (by assumption)) (fun K hK => ?_); go_simp; refine hK _ ?_; clear hK K) | (refine wpRO_pure rfl rfl _ (fun w' hG => by obtain ⟨g0,g1⟩ := hG; go_simp; exact Gives.mk _ _) (fun K hK => ?_); go_simp; refine hK _ ?_; clear hK K) | (refine wpRO_skip rfl rfl (fun K hK => ?_); go_simp; refine hK _ ?_; clear hK K)
 refine wpRO_run rfl rfl (fun K hK => ?_); unfold gRun; go_simp
 have HD := Lib.hid (HJ.out.same ((Keeps.refl (fun _ => False) w).drew))
 refine (Load_c i _ HD.out.ha).mono ?_
 rintro e w1 ⟨rfl,rfl⟩
 refine hK _ _ (fun h => h) ?_
 clear hK K
 refine wpRO_run rfl rfl (fun K hK => ?_); unfold gRun; go_simp
 refine (mBring_c (s.A.load i) HD.out).mono ?_
 rintro e w2 ⟨rfl,t⟩
 have T1 := Lib.hid t
 clear t
 refine hK _ _ (fun _ => ⟨((HD.out.arena T1.out).cells).1,(HD.out.arena T1.out).cells.2.2.2.2.2.1⟩) ?_
 clear hK K
 skip
 refine wpRO_chg rfl rfl rfl (fun K hK => ?_); unfold gRun; go_simp
 have HR := Lib.hid (mNow_R64 (A := mBring s.A (s.A.load i)) (HD.out.ha.ok.load i))
 refine (Store_c i _ _ T1.out.at_ HR.out).mono ?_
 rintro e w3 ⟨rfl,t⟩
 have T2 := Lib.hid (ArenaTo.from_same (w := w) ((Keeps.refl (fun _ => False) w).drew) (T1.out.trans t))
 clear t
 refine hK _ _ ?_
 clear hK K c0 p0 pl cl
 refine wpRO_swi (fun _ => True) trivial (wpRO_fin ?_)
 go_wp2_with fail
 go_end0
 exact ⟨rfl,T2.out⟩
end
end Go.Proofs.Ytjifdalflepcoab
namespace Go.Proofs.Ytjifdalflepcoab
set_option linter.unusedVariables false
set_option linter.unusedSimpArgs false
structure MsOk (s : Ms) (L : Int) : Prop where
 len : (s.wk.length : Int) + s.ep.length ≤ L
 wb : ∀ i ∈ s.wk,0 ≤ i ∧ i ≤ 1300
 eb : ∀ i ∈ s.ep,0 ≤ i ∧ i ≤ 1300
theorem MsOk.arena {s : Ms} {L : Int} (h : MsOk s L) (A : Ar) : MsOk { s with A := A } L := ⟨h.len,h.wb,h.eb⟩
theorem MsOk.more {s : Ms} {L M : Int} (h : MsOk s L) (hl : L ≤ M) : MsOk s M := ⟨by have := h.len; omega,h.wb,h.eb⟩
theorem MsOk.look {s : Ms} {L : Int} (h : MsOk s L) {i : Int} (h0 : 0 ≤ i) (h1 : i ≤ 1300) : MsOk (mLook s i) (L + 1) := by
 have hl := h.len
 have mem : ∀ {l : List Int},(∀ j ∈ l,0 ≤ j ∧ j ≤ 1300) → ∀ j ∈ l ++ [i],0 ≤ j ∧ j ≤ 1300 := fun hl j hj => by
  rcases List.mem_append.1 hj with h | h
  ·exact hl j h
  ·rw [List.mem_singleton] at h; omega
 unfold mLook
 split
 ·exact ⟨by dsimp only; omega,h.wb,h.eb⟩
 ·split
  ·exact ⟨by simp; omega,mem h.wb,h.eb⟩
  ·split
   ·exact ⟨by simp; omega,h.wb,mem h.eb⟩
   ·exact ⟨by omega,h.wb,h.eb⟩
structure ScOk (s : Ms) (c : Int) : Prop where
 ok : s.A.ok
 ms : MsOk s (1300 + c)
 c0 : 0 ≤ c
 c1 : c ≤ 1300
theorem ScOk.arena {s : Ms} {c : Int} {A : Ar} (h : ScOk s c) (hA : A.ok) : ScOk { s with A := A } c := ⟨hA,h.ms.arena A,h.c0,h.c1⟩
theorem mScan_stop {s : Ms} {c : Int} (n : Nat) (h : ¬ c < s.A.grn) : mScan n s c = (s,c) := by
 cases n with
 | zero => rfl
 | succ n => unfold mScan; rw [if_neg h]
theorem mScan_step {s : Ms} {c : Int} (n : Nat) (h : c < s.A.grn) : mScan (n + 1) s c = mScan n (mLook s c) (c + (1 + (s.A.thing c).2.1)) := by
 rw [mScan,if_pos h]
theorem ScOk.look {s : Ms} {c : Int} (h : ScOk s c) (hc : c < s.A.grn) : ScOk (mLook s c) (c + (1 + (s.A.thing c).2.1)) := by
 have hf := s.A.thing_fields c
 have h3 := h.ok.h3; have h4 := h.ok.h4; have := h.c0
 exact ⟨(Sm.look h.ok c).ok,(h.ms.look h.c0 h.c1).more (by omega),by omega,by omega⟩
theorem ScOk.scan : ∀ (n : Nat) {s : Ms} {c : Int},ScOk s c → ScOk (mScan n s c).1 (mScan n s c).2 ∧ c ≤ (mScan n s c).2 ∧ (0 < n → c < s.A.grn → c + 1 ≤ (mScan n s c).2)
 | 0,s,c,h => ⟨h,Int.le_refl _,fun h => by omega⟩
 | n + 1,s,c,h => by
  have hf := s.A.thing_fields c
  by_cases hc : c < s.A.grn
  ·rw [mScan_step n hc]
   have ih := ScOk.scan n (h.look hc)
   exact ⟨ih.1,by omega,fun _ _ => by omega⟩
  ·rw [mScan_stop _ hc]
   exact ⟨h,Int.le_refl _,fun _ h => (hc h).elim⟩
def QOk (q : List (Int × Int)) : Prop := ∀ e ∈ q,R64e e
theorem QOk.wake : ∀ (l : List (Int × Int)) {A : Ar},QOk l → QOk (wakeM mAlive mKp A l).2.1
 | [],A,h => h
 | e :: l,A,h => by
  have h1 : QOk l := fun x hx => h x (by simp [hx])
  have h2 := h e (by simp)
  unfold wakeM
  split
  ·intro x hx
   rcases List.mem_cons.1 hx with rfl | hx
   ·exact ⟨h2.1,mNow_R64 h2.2⟩
   ·exact QOk.wake l h1 x hx
  ·intro x hx
   rcases List.mem_cons.1 hx with rfl | hx
   ·exact h2
   ·exact QOk.wake l h1 x hx
theorem ScOk.round {d : Md} (h : ScOk d.s d.c) : ScOk (mRound d).s (mRound d).c ∧ d.c ≤ (mRound d).c ∧ (d.c < d.s.A.grn → d.c + 1 ≤ (mRound d).c) := by
 have h1 := ScOk.scan 2000 h
 have h2 := Sm.eph (mScan 2000 d.s d.c).1.ep h1.1.ok
 have h3 := Sm.wake d.q h2.ok
 exact ⟨h1.1.arena h3.ok,h1.2.1,h1.2.2 (by decide)⟩
theorem ScOk.drain : ∀ (n : Nat) {d : Md},ScOk d.s d.c → ScOk (mDrain n d).s (mDrain n d).c
 | 0,d,h => h
 | n + 1,d,h => by
  unfold mDrain
  split
  ·exact ScOk.drain n h.round.1
  ·exact h.round.1
theorem QOk.round {d : Md} (h : QOk d.q) : QOk (mRound d).q := QOk.wake d.q h
theorem QOk.drain : ∀ (n : Nat) {d : Md},QOk d.q → QOk (mDrain n d).q
 | 0,d,h => h
 | n + 1,d,h => by
  unfold mDrain
  split
  ·exact QOk.drain n h.round
  ·exact h.round
theorem mDrain_more {d : Md} (n : Nat) (h : (mRound d).c < (mRound d).s.A.grn) : mDrain (n + 1) d = mDrain n (mRound d) := by rw [mDrain,if_pos h]
theorem mDrain_last {d : Md} (n : Nat) (h : ¬ (mRound d).c < (mRound d).s.A.grn) : mDrain (n + 1) d = mRound d := by rw [mDrain,if_neg h]
theorem mRound_of {d : Md} {s1 : Ms} {c1 : Int} {A2 A3 : Ar} {q3 : List (Int × Int)} {b : Bool} (h1 : mScan 2000 d.s d.c = (s1,c1)) (h2 : mEph s1.A s1.ep = A2) (h3 : wakeM mAlive mKp A2 d.q = (A3,q3,b)) : mRound d = ⟨{ s1 with A := A3 },c1,q3⟩ := by
 unfold mRound
 rw [h1]
 dsimp only
 rw [h2,h3]
end Go.Proofs.Ytjifdalflepcoab
namespace Go.Proofs.Ytjifdalflepcoab
open Go.RowKit
set_option linter.unusedVariables false
set_option linter.unusedSimpArgs false
theorem mFields_snoc : ∀ (n : Nat) (A : Ar) (i : Int),mFields (n + 1) A i = mField (mFields n A i) (i + n)
 | 0,A,i => by simp [mFields]
 | n + 1,A,i => by
  have := mFields_snoc n (mField A i) (i + 1)
  rw [mFields,this,mFields]
  congr 1
  omega
theorem info_int8 : (Try.prog.info? 3).map (fun i => (i.zero,i.size,i.bytes)) = some (some (.int .i64 0),1,8) := by kernel_rfl
section
variable {w w' : World} {H : CH} {wv ev : Value} {s : Ms} {c : Int}
theorem CutTo.join {w1 : World} {wv1 ev1 : Value} (k1 : Keeps (H.Own wv ev) w w1) (o1 : ∀ k,H.Own wv1 ev1 k → H.Own wv ev k ∨ w.heap.size ≤ k) (t : CutTo w1 H wv1 ev1 s c w') : CutTo w H wv ev s c w' := by
 obtain ⟨a2,b2,J2,k2,o2⟩ := t
 refine ⟨a2,b2,J2,k1.then k2 o1,fun k hk => ?_⟩
 rcases o2 k hk with h | h
 ·exact o1 k h
 ·exact .inr (Nat.le_trans k1.size h)
theorem CutJ.appW {w1 w2 : World} {v2 : Value} {i : Int} (J : CutJ w H wv ev s c) (k1 : Keeps (fun _ => False) w w1) (hs : Sl w2 3 1 v2 (s.wk.length + 1) (s.wk.map (Value.int .i64) ++ [.int .i64 i])) (k2 : Keeps (ownB wv) w1 w2)
  (ho : ∀ k,ownB v2 k → ownB wv k ∨ w1.heap.size ≤ k) : CutTo w H wv ev { s with wk := s.wk ++ [i] } c (w2.setCell ⟨H.pc,3,none⟩ v2) := by
 have J1 := J.same k1
 have nw : ∀ {b : Nat} {l : List Value} {T : TypeId},Blk w1 b l T → T ≠ 3 → ¬ ownB wv b := fun hb hT hv => by
  obtain ⟨_,l',h⟩ := J1.hw.own hv; exact hb.ne h hT rfl
 have hp2 := k2.blk J1.hp (nw J1.hp (by decide)); have hc2 := k2.blk J1.hc (nw J1.hc (by decide))
 have ha2 := J1.ha.keep k2 (nw J1.ha.hp (by decide)) (nw J1.ha.hg (by decide))
 have he2 := J1.he.keep k2 (fun b hb hv => J.ap b ⟨hv,hb⟩)
 have set := (Keeps.refl (· = H.pc) w2).setCell (p := ⟨H.pc,3,none⟩) (.inl rfl) v2
 have ne : ∀ {b : Nat} {l : List Value} {T : TypeId},Blk w2 b l T → T ≠ 173 → ¬ b = H.pc := fun hb hT => hb.ne hc2 hT
 refine ⟨v2,ev,⟨set.blk hp2 (ne hp2 (by decide)),ha2.keep set (ne ha2.hp (by decide)) (ne ha2.hg (by decide)),by simpa using hc2.setSame 3 v2, ?_,he2.keep set (fun b hb => by obtain ⟨_,l,h⟩ := he2.own hb; exact ne h (by decide)), ?_⟩, ?_, ?_⟩
 ·have : ({ s with wk := s.wk ++ [i] } : Ms).wk.length = s.wk.length + 1 := by simp
  rw [this]
  simpa using hs.keep set (fun b hb => by obtain ⟨_,l,h⟩ := hs.own hb; exact ne h (by decide))
 ·rintro k ⟨h1,h2⟩
  rcases ho k h1 with h | h
  ·exact J.ap k ⟨h,h2⟩
  ·have := (J1.he.own h2).1; omega
 ·refine Keeps.setCell ?_ (p := ⟨H.pc,3,none⟩) (.inl (.inr (.inr (.inr (.inl rfl))))) v2
  exact (k1.mono fun _ _ h => h.elim).trans (k2.mono fun k _ hk => .inr (.inr (.inr (.inr (.inl hk)))))
 ·rintro k (h | h | h | h | h | h)
  ·exact .inl (.inl h)
  ·exact .inl (.inr (.inl h))
  ·exact .inl (.inr (.inr (.inl h)))
  ·exact .inl (.inr (.inr (.inr (.inl h))))
  ·rcases ho k h with h | h
   ·exact .inl (.inr (.inr (.inr (.inr (.inl h)))))
   ·exact .inr (Nat.le_trans k1.size h)
  ·exact .inl (.inr (.inr (.inr (.inr (.inr h)))))
theorem CutJ.appE {w1 w2 : World} {v2 : Value} {i : Int} (J : CutJ w H wv ev s c) (k1 : Keeps (fun _ => False) w w1) (hs : Sl w2 3 1 v2 (s.ep.length + 1) (s.ep.map (Value.int .i64) ++ [.int .i64 i])) (k2 : Keeps (ownB ev) w1 w2)
  (ho : ∀ k,ownB v2 k → ownB ev k ∨ w1.heap.size ≤ k) : CutTo w H wv ev { s with ep := s.ep ++ [i] } c (w2.setCell ⟨H.pc,4,none⟩ v2) := by
 have J1 := J.same k1
 have nw : ∀ {b : Nat} {l : List Value} {T : TypeId},Blk w1 b l T → T ≠ 3 → ¬ ownB ev b := fun hb hT hv => by
  obtain ⟨_,l',h⟩ := J1.he.own hv; exact hb.ne h hT rfl
 have hp2 := k2.blk J1.hp (nw J1.hp (by decide)); have hc2 := k2.blk J1.hc (nw J1.hc (by decide))
 have ha2 := J1.ha.keep k2 (nw J1.ha.hp (by decide)) (nw J1.ha.hg (by decide))
 have hw2 := J1.hw.keep k2 (fun b hb hv => J.ap b ⟨hb,hv⟩)
 have set := (Keeps.refl (· = H.pc) w2).setCell (p := ⟨H.pc,4,none⟩) (.inl rfl) v2
 have ne : ∀ {b : Nat} {l : List Value} {T : TypeId},Blk w2 b l T → T ≠ 173 → ¬ b = H.pc := fun hb hT => hb.ne hc2 hT
 refine ⟨wv,v2,⟨set.blk hp2 (ne hp2 (by decide)),ha2.keep set (ne ha2.hp (by decide)) (ne ha2.hg (by decide)),by simpa using hc2.setSame 4 v2,hw2.keep set (fun b hb => by obtain ⟨_,l,h⟩ := hw2.own hb; exact ne h (by decide)), ?_, ?_⟩, ?_, ?_⟩
 ·have : ({ s with ep := s.ep ++ [i] } : Ms).ep.length = s.ep.length + 1 := by simp
  rw [this]
  simpa using hs.keep set (fun b hb => by obtain ⟨_,l,h⟩ := hs.own hb; exact ne h (by decide))
 ·rintro k ⟨h1,h2⟩
  rcases ho k h2 with h | h
  ·exact J.ap k ⟨h1,h⟩
  ·have := (J1.hw.own h1).1; omega
 ·refine Keeps.setCell ?_ (p := ⟨H.pc,4,none⟩) (.inl (.inr (.inr (.inr (.inl rfl))))) v2
  exact (k1.mono fun _ _ h => h.elim).trans (k2.mono fun k _ hk => .inr (.inr (.inr (.inr (.inr hk)))))
 ·rintro k (h | h | h | h | h | h)
  ·exact .inl (.inl h)
  ·exact .inl (.inr (.inl h))
  ·exact .inl (.inr (.inr (.inl h)))
  ·exact .inl (.inr (.inr (.inr (.inl h))))
  ·exact .inl (.inr (.inr (.inr (.inr (.inl h)))))
  ·rcases ho k h with h | h
   ·exact .inl (.inr (.inr (.inr (.inr (.inr h)))))
   ·exact .inr (Nat.le_trans k1.size h)
def LookRet (w : World) (H : CH) (wv ev : Value) (s : Ms) (c i : Int) (e : Ending) (w' : World) : Prop :=
 e = .returned (.int .i64 (1 + (s.A.thing i).2.1)) ∧ CutTo w H wv ev (mLook s i) c w'
set_option maxHeartbeats 4000000 in
set_option maxRecDepth 100000 in
theorem mLook_c (i : Int) (J : CutJ w H wv ev s c) (h0 : 0 ≤ i) (h1 : i ≤ 1300) (hl : (s.wk.length : Int) + s.ep.length ≤ 1000000) :
  Calls Try.prog 118 #[.pointer (some ⟨H.pc,0,none⟩), .int .i64 i] w (LookRet w H wv ev s c i) := by
 have HJ := Lib.hid J
 clear J
 obtain ⟨c0, -, -,c3,c4,p0, -, -, -⟩ := HJ.out.cells
 have pl := HJ.out.hp.lt; have cl := HJ.out.hc.lt
 have HTH := Lib.hid (Thing_c i w HJ.out.ha)
 have hb := s.A.thing_fields i
 obtain ⟨L,hLe⟩ : ∃ L,mLook s i = L := ⟨_,rfl⟩
 have HL := Lib.hid hLe
 unfold mLook at hLe
 obtain ⟨⟨k,n,cd⟩,hT⟩ : ∃ t,s.A.thing i = t := ⟨_,rfl⟩
 have HT := Lib.hid hT
 rw [hT] at HTH hb hLe
 dsimp only at HTH hb hLe
 clear hT
 have hwn : IntKind.i64.wrap (1 + n) = 1 + n := IntWalk.i64_in _ (by omega)
 by_cases k12 : k = 1 ∨ k = 2
 ·rw [if_pos k12] at hLe
  have HE := Lib.hid hLe
  clear hLe
  obtain ⟨m,rfl⟩ : ∃ m : Nat,n = m := ⟨n.toNat,by omega⟩
  have hi1 : IntKind.i64.wrap (i + 1) = i + 1 := IntWalk.i64_in _ (by omega)
  rcases k12 with rfl | rfl
  all_goals
   go_enter Try.func118,Try.ntmps118
   go_wp2_with fail
   refine HTH.out.mono ?_
   rintro e w1 ⟨rfl,rfl⟩
   go_wp2_with fail
   go_loopw [27] (fun u wr => ∃ q : Nat,q ≤ m ∧ u = .int .i64 q ∧ ArenaTo w H.pa H.g wr (mFields q s.A (i + 1))) (fun u _ => m - (intOf u).toNat)
   case atStart => exact ⟨0,Nat.zero_le _,rfl,ArenaTo.refl HJ.out.ha (Keeps.refl _ _)⟩
   case round =>
    obtain ⟨q,hq,rfl,t⟩ := hrel
    have T := Lib.hid t
    clear t
    by_cases hlt : q < m
    ·have JR := Lib.hid (HJ.out.arena T.out)
     have hiq : IntKind.i64.wrap (i + 1 + q) = i + 1 + q := IntWalk.i64_in _ (by omega)
     go_wp2_with fail
     refine (mField_c (i + 1 + q) JR.out).mono ?_
     rintro e w2 ⟨rfl,t⟩
     have T2 := Lib.hid (T.out.trans t)
     clear t
     go_wp2_with fail
     go_roundw
     case rel => exact ⟨q + 1,hlt,by go_num,by rw [mFields_snoc]; exact T2.out⟩
     case measure => simp [intOf]; omega
    ·obtain rfl : q = m := by omega
     go_wp2_with fail
     go_ret
     refine ⟨ret_int (by rw [HT.out]), ?_⟩
     rw [HL.out, ← HE.out]
     exact HJ.out.arenaTo (by simpa using T.out)
 ·have k1 : (k == 1) = false := by simp; omega
  have k2 : (k == 2) = false := by simp; omega
  rw [if_neg k12] at hLe
  clear k12
  obtain ⟨i0,hi,hz0,hz1,hz2⟩ := info_parts info_int8
  have Hi := Lib.hid hi; have Hz0 := Lib.hid hz0; have Hz1 := Lib.hid hz1; have Hz2 := Lib.hid hz2; clear hi hz0 hz1 hz2
  by_cases k3 : k = 3
  ·subst k3
   rw [if_pos rfl] at hLe
   have HE := Lib.hid hLe
   clear hLe
   have hi2 : IntKind.i64.wrap (i + 2) = i + 2 := IntWalk.i64_in _ (by omega)
   obtain ⟨wo,wc,rfl, -, -, -⟩ := HJ.out.hw.rd
   go_enter Try.func118,Try.ntmps118
   go_wp2_with fail
   refine HTH.out.mono ?_
   rintro e w1 ⟨rfl,rfl⟩
   go_wp2_with (at_builtin; refine wpList_app rfl (.tmp 43) (.tmp 45) 50 rfl 3 i0 (.int .i64 0) 1 8 Try.underlying50 Hi.out Hz0.out Hz1.out Hz2.out rfl (by decide) _ s.wk.length (s.wk.map (Value.int .i64)) rfl ?ha ⟨w.heap.size,0,none⟩ 1 1 [.int .i64 i] rfl rfl ?hb ?hc ?hd ?he ?hf)
   case ha => exact HJ.out.hw.keep ((Keeps.refl (fun _ => False) w).alloc _) (fun _ _ h => h)
   case hb => exact news_at w 3 _
   case hc => intro u hu; simp at hu; subst hu; rfl
   case hd => unfold maxLen; omega
   case he => omega
   case hf =>
    intro v2 w2 hs2 hk2 ho2
    obtain ⟨ao2,cap2,rfl, -, -, -⟩ := hs2.rd
    have T2 := Lib.hid (HJ.out.appW ((Keeps.refl (fun _ => False) w).alloc (.cells #[.int .i64 i] 3)) hs2 hk2 (by simpa using ho2))
    have K2 := Lib.hid (((Keeps.refl (fun _ => False) w).alloc (.cells #[.int .i64 i] 3)).blk HJ.out.hc (fun h => h))
    have K3 := Lib.hid (hk2.blk K2.out (fun hv => by
     obtain ⟨_,l,h⟩ := (HJ.out.hw.keep ((Keeps.refl (fun _ => False) w).alloc (.cells #[.int .i64 i] 3)) (fun _ _ h => h)).own hv
     exact K2.out.ne h (by decide) rfl))
    clear hs2 hk2 ho2 K2
    have x0 := K3.out.cell 3; have xl := K3.out.lt; have xf := K3.out.free 3
    simp only [List.getElem?_cons_zero,List.getElem?_cons_succ] at x0
    clear c0 c3 c4 p0 pl cl
    go_wp2_with fail
    obtain ⟨wv3,ev3,J3,k3,o3⟩ := T2.out
    have J3' := Lib.hid J3; have K4 := Lib.hid k3; have O3 := Lib.hid o3
    clear J3 k3 o3
    refine (mField_c (i + 2) J3'.out).mono ?_
    rintro e w4 ⟨rfl,t⟩
    have T4 := Lib.hid t
    clear t x0 xl xf
    go_wp2_with fail
    go_ret
    refine ⟨ret_int (by rw [HT.out]), ?_⟩
    rw [HL.out, ← HE.out]
    exact CutTo.join K4.out O3.out (J3'.out.arenaTo T4.out)
  ·have k3' : (k == 3) = false := by simpa using k3
   rw [if_neg k3] at hLe
   clear k3
   by_cases k4 : k = 4
   ·subst k4
    rw [if_pos rfl] at hLe
    have HE := Lib.hid hLe
    clear hLe
    obtain ⟨eo,ec,rfl, -, -, -⟩ := HJ.out.he.rd
    go_enter Try.func118,Try.ntmps118
    go_wp2_with fail
    refine HTH.out.mono ?_
    rintro e w1 ⟨rfl,rfl⟩
    go_wp2_with (at_builtin; refine wpList_app rfl (.tmp 59) (.tmp 61) 50 rfl 3 i0 (.int .i64 0) 1 8 Try.underlying50 Hi.out Hz0.out Hz1.out Hz2.out rfl (by decide) _ s.ep.length (s.ep.map (Value.int .i64)) rfl ?ha ⟨w.heap.size,0,none⟩ 1 1 [.int .i64 i] rfl rfl ?hb ?hc ?hd ?he ?hf)
    case ha => exact HJ.out.he.keep ((Keeps.refl (fun _ => False) w).alloc _) (fun _ _ h => h)
    case hb => exact news_at w 3 _
    case hc => intro u hu; simp at hu; subst hu; rfl
    case hd => unfold maxLen; omega
    case he => omega
    case hf =>
     intro v2 w2 hs2 hk2 ho2
     obtain ⟨ao2,cap2,rfl, -, -, -⟩ := hs2.rd
     have T2 := Lib.hid (HJ.out.appE ((Keeps.refl (fun _ => False) w).alloc (.cells #[.int .i64 i] 3)) hs2 hk2 (by simpa using ho2))
     have K2 := Lib.hid (((Keeps.refl (fun _ => False) w).alloc (.cells #[.int .i64 i] 3)).blk HJ.out.hc (fun h => h))
     have K3 := Lib.hid (hk2.blk K2.out (fun hv => by
      obtain ⟨_,l,h⟩ := (HJ.out.he.keep ((Keeps.refl (fun _ => False) w).alloc (.cells #[.int .i64 i] 3)) (fun _ _ h => h)).own hv
      exact K2.out.ne h (by decide) rfl))
     clear hs2 hk2 ho2 K2
     have x0 := K3.out.cell 4; have xl := K3.out.lt; have xf := K3.out.free 4
     simp only [List.getElem?_cons_zero,List.getElem?_cons_succ] at x0
     clear c0 c3 c4 p0 pl cl
     go_wp2_with fail
     go_ret
     refine ⟨ret_int (by rw [HT.out]), ?_⟩
     rw [HL.out, ← HE.out]
     exact T2.out
   ·have k4' : (k == 4) = false := by simpa using k4
    rw [if_neg k4] at hLe
    have HE := Lib.hid hLe
    clear hLe k4
    go_enter Try.func118,Try.ntmps118
    go_wp2_with fail
    refine HTH.out.mono ?_
    rintro e w1 ⟨rfl,rfl⟩
    go_wp2_with fail
    go_ret
    refine ⟨ret_int (by rw [HT.out]), ?_⟩
    rw [HL.out, ← HE.out]
    exact CutTo.refl HJ.out
set_option maxHeartbeats 1000000 in
set_option maxRecDepth 100000 in
theorem mTop_c (J : CutJ w H wv ev s c) (hb : H.base = s.A.nur) :
  Calls Try.prog 116 #[.pointer (some ⟨H.pc,0,none⟩)] w fun e w' => e = .returned (.int .i64 s.A.grn) ∧ Keeps (fun _ => False) w w' := by
 have HJ := Lib.hid J
 clear J
 obtain ⟨c0,c1, -, -, -,p0, -, -, -⟩ := HJ.out.cells
 have pl := HJ.out.hp.lt; have cl := HJ.out.hc.lt
 rw [hb] at c1
 have o2 := HJ.out.ha.ok.h2; have o3 := HJ.out.ha.ok.h3; have o4 := HJ.out.ha.ok.h4
 have HB := Lib.hid hb
 clear hb
 go_enter Try.func116,Try.ntmps116
 go_wp2_with fail
 refine (Used_c w HJ.out.ha).mono ?_
 rintro e w1 ⟨rfl,hk⟩
 have J1 := Lib.hid (HJ.out.same hk); have K1 := Lib.hid hk
 clear c0 c1 p0 pl cl hk
 obtain ⟨c0,c1, -, -, -,p0, -, -, -⟩ := J1.out.cells
 rw [HB.out] at c1
 have cl := J1.out.hc.lt
 have hs : IntKind.i64.wrap ((s.A.nur : Int) + ((s.A.grn - s.A.nur : Nat) : Int)) = s.A.grn := by
  rw [IntWalk.i64_in _ (by omega)]; omega
 go_wp2_with fail
 go_ret
 exact ⟨by first | rfl | exact ret_int (by omega),K1.out⟩
end
end Go.Proofs.Ytjifdalflepcoab
namespace Go.Proofs.Ytjifdalflepcoab
open Go.RowKit
set_option linter.unusedVariables false
set_option linter.unusedSimpArgs false
structure CS (w : World) (H : CH) (wv ev rv qv : Value) (rg : List (Int × Int)) (d : Md) : Prop where
 J : CutJ w H wv ev d.s d.c
 S : SideAt w H.ps rv qv rg d.q
 ok : ScOk d.s d.c
 q : QOk d.q
 nb : H.base = d.s.A.nur
 ql : d.q.length ≤ 1000000
def CSTo (w : World) (H : CH) (wv ev rv qv : Value) (rg : List (Int × Int)) (d : Md) (w' : World) : Prop :=
 ∃ wv' ev',CS w' H wv' ev' rv qv rg d ∧ Keeps (fun k => H.Own wv ev k ∨ SideFp H.ps rv qv k) w w' ∧ ∀ k,H.Own wv' ev' k → H.Own wv ev k ∨ w.heap.size ≤ k
def cellI (w : World) (b i : Nat) : Int := match w.cell? ⟨b,i,none⟩ with | some (.int _ n) => n | _ => 0
theorem cellI_of {w : World} {b i : Nat} {k : IntKind} {n : Int} (h : w.cell? ⟨b,i,none⟩ = some (.int k n)) : cellI w b i = n := by unfold cellI; rw [h]
section
variable {w w' : World} {H : CH} {wv ev rv qv : Value} {rg : List (Int × Int)} {d : Md} {s : Ms} {c : Int}
theorem CutJ.side_apart {wt : List (Int × Int)} (J : CutJ w H wv ev s c) (S : SideAt w H.ps rv qv rg wt) {k : Nat} (hk : H.Own wv ev k) : ¬ SideFp H.ps rv qv k := fun hs => by
 obtain ⟨_,T,h,hT⟩ := J.own_type hk
 obtain ⟨_,U,h',hU⟩ := S.fp_type hs
 refine h.ne h' ?_ rfl
 rcases hT with rfl | rfl | rfl | rfl | rfl <;> rcases hU with rfl | rfl <;> decide
theorem CS.keep {S : Nat → Prop} (C : CS w H wv ev rv qv rg d) (k : Keeps S w w') (h1 : ∀ b,H.Own wv ev b → ¬ S b) (h2 : ∀ b,SideFp H.ps rv qv b → ¬ S b) : CS w' H wv ev rv qv rg d :=
 ⟨C.J.keep k h1,C.S.keep k h2,C.ok,C.q,C.nb,C.ql⟩
theorem CS.same (C : CS w H wv ev rv qv rg d) (k : Keeps (fun _ => False) w w') : CS w' H wv ev rv qv rg d := C.keep k (fun _ _ h => h) (fun _ _ h => h)
theorem CSTo.refl (C : CS w H wv ev rv qv rg d) (k : Keeps (fun _ => False) w w') : CSTo w H wv ev rv qv rg d w' := ⟨wv,ev,C.same k,k.mono (fun _ _ h => h.elim),fun _ h => .inl h⟩
theorem CSTo.join {w1 : World} {wv1 ev1 : Value} (k1 : Keeps (fun k => H.Own wv ev k ∨ SideFp H.ps rv qv k) w w1) (o1 : ∀ k,H.Own wv1 ev1 k → H.Own wv ev k ∨ w.heap.size ≤ k) (t : CSTo w1 H wv1 ev1 rv qv rg d w') : CSTo w H wv ev rv qv rg d w' := by
 obtain ⟨a2,b2,J2,k2,o2⟩ := t
 refine ⟨a2,b2,J2,k1.then k2 (fun k hk => ?_),fun k hk => ?_⟩
 ·rcases hk with hk | hk
  ·exact (o1 k hk).imp .inl id
  ·exact .inl (.inr hk)
 ·rcases o2 k hk with h | h
  ·exact o1 k h
  ·exact .inr (Nat.le_trans k1.size h)
theorem CS.cut (C : CS w H wv ev rv qv rg d) (t : CutTo w H wv ev s c w') (h : ScOk s c) (hn : s.A.nur = d.s.A.nur) : CSTo w H wv ev rv qv rg ⟨s,c,d.q⟩ w' := by
 obtain ⟨a,b,J,k,o⟩ := t
 exact ⟨a,b,⟨J,C.S.keep k (fun b hb hk => C.J.side_apart C.S hk hb),h,C.q,by rw [hn]; exact C.nb,C.ql⟩,k.mono (fun _ _ h => .inl h),o⟩
theorem CutJ.setC (J : CutJ w H wv ev s c) (c2 : Int) : CutTo w H wv ev s c2 (w.setCell ⟨H.pc,2,none⟩ (.int .i64 c2)) := by
 have set := (Keeps.refl (· = H.pc) w).setCell (p := ⟨H.pc,2,none⟩) (.inl rfl) (.int .i64 c2)
 have ne : ∀ {b : Nat} {l : List Value} {T : TypeId},Blk w b l T → T ≠ 173 → ¬ b = H.pc := fun hb hT => hb.ne J.hc hT
 exact ⟨wv,ev,⟨set.blk J.hp (ne J.hp (by decide)),J.ha.keep set (ne J.ha.hp (by decide)) (ne J.ha.hg (by decide)),by simpa using J.hc.setSame 2 (.int .i64 c2),J.hw.keep set (fun b hb => by obtain ⟨_,l,h⟩ := J.hw.own hb; exact ne h (by decide)),
  J.he.keep set (fun b hb => by obtain ⟨_,l,h⟩ := J.he.own hb; exact ne h (by decide)),J.ap⟩,set.mono (fun k _ hk => .inr (.inr (.inr (.inl hk)))),fun k hk => .inl hk⟩
def mLivV (pc : Nat) : Value := .agg #[.func (.func 146) #[.pointer (some ⟨pc,0,none⟩)] #[], .func (.func 117) #[.pointer (some ⟨pc,0,none⟩)] #[], .func (.func 147) #[.pointer (some ⟨pc,0,none⟩)] #[]]
set_option maxHeartbeats 1000000 in
set_option maxRecDepth 100000 in
theorem mLiving_c (J : CutJ w H wv ev s c) :
  Calls Try.prog 150 #[.pointer (some ⟨H.pc,0,none⟩)] w fun e w' => e = .returned (mLivV H.pc) ∧ Keeps (fun _ => False) w w' := by
 have cl := J.hc.lt
 clear J
 go_enter Try.func150,Try.ntmps150
 go_wp2_with fail
 go_wp2_with fail
 refine bodyPost_ret (v := mLivV H.pc) (by simp [mLivV,results,Try.results150,go_sem]) rfl ⟨rfl, ?_⟩
 exact (Keeps.refl _ _).alloc _
def mWakeL (H : CH) (wv ev : Value) (wk ep : List Int) (c : Int) : Liv Try.prog H.ps Ar where
 J := fun w A F => CutJ w H wv ev ⟨A,wk,ep⟩ c ∧ F = H.Own wv ev
 D := fun _ x => R64 x
 DK := fun _ x => R64 x
 alive := mAlive
 keep := fun A q x => ((mKp A x).1,q,(mKp A x).2)
 now := mNow
 fa := 146
 fk := 117
 fn := 147
 a1 := #[.pointer (some ⟨H.pc,0,none⟩)]
 a2 := #[]
 k1 := #[.pointer (some ⟨H.pc,0,none⟩)]
 k2 := #[]
 n1 := #[.pointer (some ⟨H.pc,0,none⟩)]
 n2 := #[]
 ea := fun args w => by kernel_rfl
 ek := fun args w => by kernel_rfl
 en := fun args w => by kernel_rfl
 J_keep := fun h k hn => ⟨h.1.keep k (by rw [← h.2]; exact hn),h.2⟩
 J_lt := fun h hk => h.1.own_lt (by rw [← h.2]; exact hk)
 alive_c := fun w t F x hJ _ => (mAlive_c x hJ.1).mono (by rintro e w' ⟨rfl,rfl⟩; exact ⟨rfl,Keeps.refl _ _⟩)
 now_c := fun w t F x hJ _ => (mNow_c x hJ.1).mono (by rintro e w' ⟨rfl,rfl⟩; exact ⟨rfl,Keeps.refl _ _⟩)
 keep_c := fun w t F rv qv regs wait x hJ hS hA hx _ _ => by
  obtain ⟨hJ,rfl⟩ := hJ
  refine (mBring_c x hJ).mono ?_
  rintro e w' ⟨rfl,t⟩
  obtain ⟨a,b,J2,k2,o2⟩ := hJ.arenaTo t
  exact ⟨rfl,H.Own wv ev,⟨hJ.arena t,rfl⟩,hS.keep k2 (fun b hb hk => hA b ⟨hk,hb⟩),hA,k2.mono (fun _ _ h => .inl h),fun k hk => .inl hk⟩
 DK_D := fun h => h
 DK_keep := fun _ h => h
 D_keep := fun _ h => h
 D_new := fun h => mNow_R64 h
 D_wait := fun _ h => h
 keep_len := rfl
def DrainIn (w : World) (H : CH) (wv ev rv qv : Value) (rg : List (Int × Int)) (d : Md) (m : Value) (wr : World) : Prop :=
 (∃ (n : Nat) (d1 : Md),m = .bool true ∧ CSTo w H wv ev rv qv rg d1 wr ∧ mDrain 2000 d = mDrain (n + 1) d1 ∧ 1998 ≤ n + d1.c ∧ (n = 1999 ∨ d1.c < d1.s.A.grn)) ∨
  (m = .bool false ∧ CSTo w H wv ev rv qv rg (mDrain 2000 d) wr)
def drainMu (H : CH) (m : Value) (wr : World) : Nat := (4000 - cellI wr H.pc 2 - cellI wr H.pa 3).toNat + match m with | .bool true => 1 | _ => 0
theorem drainMu_of (C : CS w H wv ev rv qv rg d) (b : Bool) : drainMu H (.bool b) w = (4000 - d.c - d.s.A.grn).toNat + if b then 1 else 0 := by
 unfold drainMu
 rw [cellI_of C.J.cells.2.2.1,cellI_of C.J.ha.cells.2.2.2]
 cases b <;> simp
def ScanI (w : World) (H : CH) (wv ev rv qv : Value) (rg : List (Int × Int)) (d : Md) (wr : World) : Prop :=
 ∃ (n : Nat) (s : Ms) (c : Int),CSTo w H wv ev rv qv rg ⟨s,c,d.q⟩ wr ∧ mScan 2000 d.s d.c = mScan n s c ∧ 1300 ≤ n + c
set_option maxHeartbeats 4000000 in
set_option maxRecDepth 100000 in
theorem mDrain_c (C : CS w H wv ev rv qv rg d) :
  Calls Try.prog 119 #[.pointer (some ⟨H.pc,0,none⟩)] w fun e w' => e = .returned (.tuple #[]) ∧ CSTo w H wv ev rv qv rg (mDrain 2000 d) w' := by
 have HC := Lib.hid C
 clear C
 go_enter Try.func119,Try.ntmps119
 go_wp2_with fail
 go_loopw [2] (fun m wr => DrainIn w H wv ev rv qv rg d m wr) (fun m wr => drainMu H m wr)
 case atStart => exact .inl ⟨1999,d,rfl,CSTo.refl HC.out (Keeps.refl _ _),rfl,by have := HC.out.ok.c0; omega, .inl rfl⟩
 case round =>
  rcases hrel with ⟨n,d1,rfl,ht,he,hn,hg⟩ | ⟨rfl,ht⟩
  ·obtain ⟨wv1,ev1,C1,k1,o1⟩ := ht
   have HMU := Lib.hid (drainMu_of C1 true)
   have HC1 := Lib.hid C1; have K1 := Lib.hid k1; have O1 := Lib.hid o1; have HE := Lib.hid he; have HN := Lib.hid hn; have HGR := Lib.hid hg
   clear C1 k1 o1 he hn hg
   obtain ⟨w1,rfl⟩ : ∃ x : World,x = wr := ⟨wr,rfl⟩
   go_wp2_with fail
   go_loopw [12] (fun _ wr => ScanI w1 H wv1 ev1 rv qv rg d1 wr) (fun _ wr => (3000 - cellI wr H.pc 2).toNat)
   case atStart => exact ⟨2000,d1.s,d1.c,CSTo.refl HC1.out (Keeps.refl _ _),rfl,by have := HC1.out.ok.c0; omega⟩
   case round =>
    obtain ⟨m,s2,c2,⟨wv2,ev2,C2,k2,o2⟩,he2,hm2⟩ := hrel
    have HC2 := Lib.hid C2; have K2 := Lib.hid k2; have O2 := Lib.hid o2; have HE2 := Lib.hid he2; have HM2 := Lib.hid hm2
    have q2 := C2.J.cells.2.2.1
    have HQ := Lib.hid (cellI_of q2)
    have cl := C2.J.hc.lt
    have b0 := C2.ok.c0; have b1 := C2.ok.c1; have g3 := C2.ok.ok.h3; have g4 := C2.ok.ok.h4
    dsimp only at q2 b0 b1 g3 g4 HQ
    clear C2 k2 o2 he2 hm2
    by_cases hlt : c2 < s2.A.grn
    ·have hd : decide (c2 < (s2.A.grn : Int)) = true := by simpa using hlt
     have HLT := Lib.hid hlt
     have hf := s2.A.thing_fields c2
     have hsum : IntKind.i64.wrap (c2 + (1 + (s2.A.thing c2).2.1)) = c2 + (1 + (s2.A.thing c2).2.1) := IntWalk.i64_in _ (by omega)
     have HF := Lib.hid hf
     clear hlt hf
     go_wp2_with fail
     refine wp_region_ro (.free 0 (.free 1 (.free 2 (.free 4 (.pure 3 (.run 5 (.free 6 (.fin)))))))) [] (fun w' => w'.cell? ⟨H.pc,2,none⟩ = some (.int .i64 c2)) (by kernel_rfl) (by kernel_rfl) q2 ?_
     iterate 5 first | (refine wpRO_free rfl rfl _ (fun w' => by go_simp; exact Gives.mk _ _) (fun K hK => ?_); go_simp; refine hK _ ?_; clear hK K) | (refine wpRO_skipF rfl rfl (fun K hK => ?_); go_simp; refine hK _ ?_; clear hK K) | (refine wpRO_pure rfl rfl _ (fun w' hG => by obtain g0 := hG; exact gives_agg2 rfl (by decide +kernel) rfl (by assumption) (by assumption)) (fun K hK => ?_); go_simp; refine hK _ ?_; clear hK K) | (refine wpRO_pure rfl rfl _ (fun w' hG => by obtain g0 := hG; go_simp; exact Gives.mk _ _) (fun K hK => ?_); go_simp; refine hK _ ?_; clear hK K) | (refine wpRO_skip rfl rfl (fun K hK => ?_); go_simp; refine hK _ ?_; clear hK K)
     refine wpRO_run rfl rfl (fun K hK => ?_); unfold gRun; go_simp
     refine (mTop_c (HC2.out.same ((Keeps.refl (fun _ => False) wr).drew)).J HC2.out.nb).mono ?_
     rintro e w3 ⟨rfl,hk⟩
     have HC3 := Lib.hid (HC2.out.same ((Keeps.refl (fun _ => False) wr).drew.trans hk))
     have K3 := Lib.hid (K2.out.trans (((Keeps.refl (fun _ => False) wr).drew.trans hk).mono (fun _ _ h => h.elim)))
     refine hK _ _ (fun _ => HC3.out.J.cells.2.2.1) ?_
     clear hK K hk q2 cl
     iterate 1 first | (refine wpRO_free rfl rfl _ (fun w' => by go_simp; exact Gives.mk _ _) (fun K hK => ?_); go_simp; refine hK _ ?_; clear hK K) | (refine wpRO_skipF rfl rfl (fun K hK => ?_); go_simp; refine hK _ ?_; clear hK K)
     refine wpRO_fin ?_
     have q2 := HC3.out.J.cells.2.2.1; have cl := HC3.out.J.hc.lt
     dsimp only at q2
     go_wp2_with fail
     refine wp_region_ro (.free 0 (.free 1 (.free 2 (.free 4 (.free 5 (.free 6 (.free 7 (.pure 3 (.pure 8 (.run 9 (.free 10 (.free 11 (.free 12 (.run 13 (.swi [] (.fin)))))))))))))))) [13] (fun w' => w'.cell? ⟨H.pc,2,none⟩ = some (.int .i64 c2)) (by kernel_rfl) (by kernel_rfl) q2 ?_
     iterate 9 first | (refine wpRO_free rfl rfl _ (fun w' => by go_simp; exact Gives.mk _ _) (fun K hK => ?_); go_simp; refine hK _ ?_; clear hK K) | (refine wpRO_skipF rfl rfl (fun K hK => ?_); go_simp; refine hK _ ?_; clear hK K) | (refine wpRO_pure rfl rfl _ (fun w' hG => by obtain g0 := hG; exact gives_agg2 rfl (by decide +kernel) rfl (by assumption) (by assumption)) (fun K hK => ?_); go_simp; refine hK _ ?_; clear hK K) | (refine wpRO_pure rfl rfl _ (fun w' hG => by obtain g0 := hG; go_simp; exact Gives.mk _ _) (fun K hK => ?_); go_simp; refine hK _ ?_; clear hK K) | (refine wpRO_skip rfl rfl (fun K hK => ?_); go_simp; refine hK _ ?_; clear hK K)
     refine wpRO_run rfl rfl (fun K hK => ?_); unfold gRun; go_simp
     have HC4 := Lib.hid (HC3.out.same ((Keeps.refl (fun _ => False) w3).drew))
     have K4 := Lib.hid (K3.out.trans ((Keeps.refl (fun _ => False) w3).drew.mono (fun _ _ h => h.elim)))
     refine (mLook_c c2 HC4.out.J b0 b1 (by have := HC4.out.ok.ms.len; dsimp only at this ⊢; omega)).mono ?_
     rintro e w5 ⟨rfl,t⟩
     obtain ⟨wv5,ev5,J5,k5,o5⟩ := t
     have HJ5 := Lib.hid J5
     have K5 := Lib.hid k5; have O5 := Lib.hid o5
     refine hK _ _ (fun _ => J5.cells.2.2.1) ?_
     clear hK K J5 k5 o5 q2 cl
     have q2 := HJ5.out.cells.2.2.1; have cl := HJ5.out.hc.lt; have fz := HJ5.out.hc.free 2
     iterate 3 first | (refine wpRO_free rfl rfl _ (fun w' => by go_simp; exact Gives.mk _ _) (fun K hK => ?_); go_simp; refine hK _ ?_; clear hK K) | (refine wpRO_skipF rfl rfl (fun K hK => ?_); go_simp; refine hK _ ?_; clear hK K)
     refine wpRO_chg rfl rfl rfl (fun K hK => ?_); unfold gRun; go_simp
     refine hK _ _ ?_
     clear hK K
     refine wpRO_swi (fun _ => True) trivial (wpRO_fin ?_)
     clear q2 cl fz
     have T6 := Lib.hid (CutTo.join K5.out O5.out (HJ5.out.setC (c2 + (1 + (s2.A.thing c2).2.1))))
     have T7 := Lib.hid (CSTo.join K4.out O2.out (HC4.out.cut T6.out (HC4.out.ok.look HLT.out) (Sm.look HC4.out.ok.ok c2).nur))
     obtain ⟨wv7,ev7,C7, -, -⟩ := T7.out
     have HC7 := Lib.hid (cellI_of C7.J.cells.2.2.1)
     clear C7
     go_wp2_with fail
     go_roundw
     case rel =>
      refine ⟨m - 1,_,_,T7.out, ?_, ?_⟩
      ·rw [HE2.out]
       obtain ⟨m,rfl⟩ : ∃ k,m = k + 1 := ⟨m - 1,by have := HM2.out; have := HLT.out; omega⟩
       exact mScan_step m HLT.out
      ·have := HM2.out; have := HF.out; have := HLT.out; omega
     case measure =>
      have h1 := HQ.out; have h2 := HC7.out; have h3 := HF.out
      try dsimp only at h2
      rw [h1,h2]; omega
    ·have hstop := mScan_stop m hlt
     have hd : decide (c2 < (s2.A.grn : Int)) = false := by simpa using hlt
     have HSC := Lib.hid (HE2.out.trans hstop)
     have HLT := Lib.hid hlt
     clear hlt hstop HQ HE2 HM2
     go_wp2_with fail
     refine wp_region_ro (.free 0 (.free 1 (.free 2 (.free 4 (.pure 3 (.run 5 (.free 6 (.fin)))))))) [] (fun w' => w'.cell? ⟨H.pc,2,none⟩ = some (.int .i64 c2)) (by kernel_rfl) (by kernel_rfl) q2 ?_
     iterate 5 first | (refine wpRO_free rfl rfl _ (fun w' => by go_simp; exact Gives.mk _ _) (fun K hK => ?_); go_simp; refine hK _ ?_; clear hK K) | (refine wpRO_skipF rfl rfl (fun K hK => ?_); go_simp; refine hK _ ?_; clear hK K) | (refine wpRO_pure rfl rfl _ (fun w' hG => by obtain g0 := hG; exact gives_agg2 rfl (by decide +kernel) rfl (by assumption) (by assumption)) (fun K hK => ?_); go_simp; refine hK _ ?_; clear hK K) | (refine wpRO_pure rfl rfl _ (fun w' hG => by obtain g0 := hG; go_simp; exact Gives.mk _ _) (fun K hK => ?_); go_simp; refine hK _ ?_; clear hK K) | (refine wpRO_skip rfl rfl (fun K hK => ?_); go_simp; refine hK _ ?_; clear hK K)
     refine wpRO_run rfl rfl (fun K hK => ?_); unfold gRun; go_simp
     refine (mTop_c (HC2.out.same ((Keeps.refl (fun _ => False) wr).drew)).J HC2.out.nb).mono ?_
     rintro e w3 ⟨rfl,hk⟩
     have HC3 := Lib.hid (HC2.out.same ((Keeps.refl (fun _ => False) wr).drew.trans hk))
     have K3 := Lib.hid (K2.out.trans (((Keeps.refl (fun _ => False) wr).drew.trans hk).mono (fun _ _ h => h.elim)))
     refine hK _ _ (fun _ => HC3.out.J.cells.2.2.1) ?_
     clear hK K hk q2 cl
     iterate 1 first | (refine wpRO_free rfl rfl _ (fun w' => by go_simp; exact Gives.mk _ _) (fun K hK => ?_); go_simp; refine hK _ ?_; clear hK K) | (refine wpRO_skipF rfl rfl (fun K hK => ?_); go_simp; refine hK _ ?_; clear hK K)
     refine wpRO_fin ?_
     clear HC2 K2
     obtain ⟨eo,ec,hev, -, -, -⟩ := HC3.out.J.he.rd
     dsimp only at hev
     subst hev
     have q4 := HC3.out.J.cells.2.2.2.2.1; have cl := HC3.out.J.hc.lt
     try dsimp only at q4
     have heb := HC3.out.ok.ms.eb; have hel := HC3.out.ok.ms.len
     try dsimp only at heb hel
     have HEB := Lib.hid heb
     clear heb
     go_wp2_with fail
     go_loopw [31] (fun u wr => ∃ k : Nat,k ≤ s2.ep.length ∧ u = .int .i64 k ∧ ArenaTo w3 H.pa H.g wr (mEph s2.A (s2.ep.take k))) (fun u _ => s2.ep.length - (intOf u).toNat)
     case atStart => exact ⟨0,Nat.zero_le _,rfl,ArenaTo.refl HC3.out.J.ha (Keeps.refl _ _)⟩
     case round =>
      clear q4 cl
      obtain ⟨k,hk,rfl,t⟩ := hrel
      have T := Lib.hid t
      have JR := Lib.hid (HC3.out.J.arena t)
      clear t
      by_cases hlt : k < s2.ep.length
      ·obtain ⟨_,_,e',rd, -, -⟩ := JR.out.he.rd
       cases e'
       obtain ⟨ge,oe,rfl,d0⟩ := rd.int k hlt
       have hgl := (JR.out.he.own rfl).1
       have hin := HEB.out (s2.ep.getD k 0) (by rw [List.getD_eq_getElem?_getD,List.getElem?_eq_getElem hlt]; exact List.getElem_mem hlt)
       have HTK := Lib.hid (show mEph s2.A (s2.ep.take (k + 1)) = mEph1 (mEph s2.A (s2.ep.take k)) (s2.ep.getD k 0) by
        unfold mEph
        rw [← List.take_append_getElem hlt,List.foldl_append,List.getD_eq_getElem?_getD,List.getElem?_eq_getElem hlt]; rfl)
       generalize s2.ep.getD k 0 = i at *
       generalize mEph s2.A (s2.ep.take k) = B at *
       have hi1 : IntKind.i64.wrap (i + 1) = i + 1 := IntWalk.i64_in _ (by omega)
       have hi2 : IntKind.i64.wrap (i + 2) = i + 2 := IntWalk.i64_in _ (by omega)
       have c0 := JR.out.cells.1; have p0 := JR.out.cells.2.2.2.2.2.1; have pl := JR.out.hp.lt; have cl := JR.out.hc.lt
       clear rd
       go_wp2_with fail
       refine (Load_c (i + 1) _ JR.out.ha).mono ?_
       rintro e w4 ⟨rfl,rfl⟩
       go_wp2_with fail
       refine (mAlive_c (B.load (i + 1)) JR.out).mono ?_
       rintro e w4 ⟨rfl,rfl⟩
       clear c0 p0 pl cl d0
       cases hal : mAlive B (B.load (i + 1))
       ·have HAL := Lib.hid hal
        clear hal
        go_wp2_with fail
        go_roundw
        case rel => exact ⟨k + 1,hlt,by go_num,by rw [HTK.out,mEph1,if_neg (by rw [HAL.out]; decide)]; exact T.out⟩
        case measure => simp [intOf]; omega
       ·have HAL := Lib.hid hal
        clear hal
        go_wp2_with fail
        refine (mField_c (i + 1) JR.out).mono ?_
        rintro e w4 ⟨rfl,t⟩
        have T4 := Lib.hid t
        have J4 := Lib.hid (JR.out.arena t)
        clear t
        go_wp2_with fail
        refine (mField_c (i + 2) J4.out).mono ?_
        rintro e w5 ⟨rfl,t⟩
        have T5 := Lib.hid (T.out.trans (T4.out.trans t))
        clear t
        go_wp2_with fail
        go_roundw
        case rel => exact ⟨k + 1,hlt,by go_num,by rw [HTK.out,mEph1,if_pos HAL.out]; exact T5.out⟩
        case measure => simp [intOf]; omega
      ·obtain rfl : k = s2.ep.length := by omega
       rw [List.take_length] at T JR
       have hsm := Sm.eph s2.ep HC3.out.ok.ok
       have C4 := Lib.hid (show CS wr H wv2 (.slice eo s2.ep.length ec) rv qv rg ⟨{ s2 with A := mEph s2.A s2.ep },c2,d1.q⟩ from by
        obtain ⟨a,b,J4,k4,o4⟩ := HC3.out.J.arenaTo T.out
        exact ⟨JR.out,HC3.out.S.keep k4 (fun b hb hk => HC3.out.J.side_apart HC3.out.S hk hb),HC3.out.ok.arena hsm.ok,HC3.out.q,by rw [HC3.out.nb]; exact congrArg (fun x : Nat => (x : Int)) hsm.nur.symm,HC3.out.ql⟩)
       have KA := Lib.hid (show Keeps (H.Own wv2 (.slice eo s2.ep.length ec)) w3 wr from T.out.k.mono (fun k _ hk => hk.elim (fun h => .inr (.inl h)) (fun h => .inr (.inr (.inl h)))))
       clear T JR hsm
       generalize hA2 : mEph s2.A s2.ep = A2 at C4
       have HA2 := Lib.hid hA2
       clear hA2
       have c0 := C4.out.J.cells.1; have p2 := C4.out.J.cells.2.2.2.2.2.2.2.1; have pl := C4.out.J.hp.lt; have cl := C4.out.J.hc.lt
       go_wp2_with fail
       refine wp_region_ro (.free 0 (.free 1 (.free 2 (.free 7 (.pure 3 (.free 4 (.free 5 (.pure 6 (.run 8 (.run 9 (.swi [] (.fin)))))))))))) [9] (fun w' => w'.cell? ⟨H.pc,0,none⟩ = some (.pointer (some ⟨H.p,0,none⟩)) ∧ w'.cell? ⟨H.p,2,none⟩ = some (.pointer (some ⟨H.ps,0,none⟩))) (by kernel_rfl) (by kernel_rfl) ⟨c0,p2⟩ ?_
       iterate 8 first | (refine wpRO_free rfl rfl _ (fun w' => by go_simp; exact Gives.mk _ _) (fun K hK => ?_); go_simp; refine hK _ ?_; clear hK K) | (refine wpRO_skipF rfl rfl (fun K hK => ?_); go_simp; refine hK _ ?_; clear hK K) | (refine wpRO_pure rfl rfl _ (fun w' hG => by obtain ⟨g0,g1⟩ := hG; exact gives_agg2 rfl (by decide +kernel) rfl (by assumption) (by assumption)) (fun K hK => ?_); go_simp; refine hK _ ?_; clear hK K) | (refine wpRO_pure rfl rfl _ (fun w' hG => by obtain ⟨g0,g1⟩ := hG; go_simp; exact Gives.mk _ _) (fun K hK => ?_); go_simp; refine hK _ ?_; clear hK K) | (refine wpRO_skip rfl rfl (fun K hK => ?_); go_simp; refine hK _ ?_; clear hK K)
       refine wpRO_run rfl rfl (fun K hK => ?_); unfold gRun; go_simp
       refine (mLiving_c (C4.out.J.same ((Keeps.refl (fun _ => False) wr).drew))).mono ?_
       rintro e w4 ⟨rfl,hk⟩
       have C5 := Lib.hid (C4.out.same ((Keeps.refl (fun _ => False) wr).drew.trans hk))
       have K5 := Lib.hid ((Keeps.refl (fun _ => False) wr).drew.trans hk)
       refine hK _ _ (fun _ => ⟨C5.out.J.cells.1,C5.out.J.cells.2.2.2.2.2.2.2.1⟩) ?_
       clear hK K hk c0 p2 pl cl C4
       skip
       refine wpRO_chg rfl rfl rfl (fun K hK => ?_); unfold gRun; go_simp
       refine (Wake_c H.ps (mWakeL H wv2 (.slice eo s2.ep.length ec) s2.wk s2.ep c2) mKp (fun _ _ _ => rfl) A2 (H.Own wv2 (.slice eo s2.ep.length ec)) rv qv rg d1.q w4 (fun _ _ h _ => h) ⟨C5.out.J,rfl⟩ C5.out.S (fun k hk => C5.out.J.side_apart C5.out.S hk.1 hk.2) C5.out.ql (fun e he => C5.out.q e he)).mono ?_
       rintro e w6 ⟨rfl,F6,hJ6,hS6, -,hk6, -, -⟩
       refine hK _ _ ?_
       clear hK K
       refine wpRO_swi (fun _ => True) trivial (wpRO_fin ?_)
       obtain ⟨⟨A3,q3,b3⟩,hW⟩ : ∃ t,wakeM mAlive mKp A2 d1.q = t := ⟨_,rfl⟩
       have hsw := Sm.wake d1.q C5.out.ok.ok
       have hqw := QOk.wake d1.q (A := A2) C5.out.q
       have hlw := wakeM_len mAlive mKp d1.q A2
       dsimp only at hsw hqw hlw
       replace hJ6 : CutJ w6 H wv2 (.slice eo s2.ep.length ec) ⟨(wakeM mAlive mKp A2 d1.q).1,s2.wk,s2.ep⟩ c2 := hJ6.1
       replace hS6 : SideAt w6 H.ps rv qv rg (wakeM mAlive mKp A2 d1.q).2.1 := hS6
       replace hk6 : Keeps (fun b => H.Own wv2 (.slice eo s2.ep.length ec) b ∨ SideFp H.ps rv qv b) w4 w6 := hk6
       rw [hW] at hsw hqw hlw hJ6 hS6
       dsimp only at hsw hqw hlw hJ6 hS6
       have HRD := Lib.hid (mRound_of HSC.out HA2.out hW)
       have C6 := Lib.hid (show CS w6 H wv2 (.slice eo s2.ep.length ec) rv qv rg (mRound d1) by
        rw [HRD.out]
        exact ⟨hJ6,hS6,C5.out.ok.arena hsw.ok,hqw,by rw [hsw.nur]; exact C5.out.nb,by dsimp only; rw [hlw]; exact C5.out.ql⟩)
       have T6 := Lib.hid (show CSTo w H wv ev rv qv rg (mRound d1) w6 from CSTo.join K1.out O1.out ⟨wv2,_,C6.out,by
        have k1 : Keeps (fun k => H.Own wv1 ev1 k ∨ SideFp H.ps rv qv k) w1 w3 := K3.out
        have k2 : Keeps (fun k => H.Own wv2 (.slice eo s2.ep.length ec) k ∨ SideFp H.ps rv qv k) w3 w6 := ((KA.out.mono (fun _ _ h => .inl h)).trans (K5.out.mono (fun _ _ h => h.elim))).trans hk6
        exact k1.then k2 (fun k hk => by
         rcases hk with hk | hk
         ·exact (O2.out k hk).imp .inl id
         ·exact .inl (.inr hk)),O2.out⟩)
       have HG := Lib.hid (show (mRound d1).s.A.grn = A3.grn ∧ (mRound d1).c = c2 by rw [HRD.out]; exact ⟨rfl,rfl⟩)
       clear hW hsw hqw hlw hJ6 hS6 hk6 C5 K5 KA HA2 HSC HRD hel
       have q2 := C6.out.J.cells.2.2.1; have cl := C6.out.J.hc.lt
       rw [HG.out.2] at q2
       go_wp2_with fail
       refine wp_region_ro (.free 0 (.free 1 (.free 2 (.free 4 (.pure 3 (.run 5 (.free 6 (.free 7 (.fin))))))))) [] (fun w' => w'.cell? ⟨H.pc,2,none⟩ = some (.int .i64 c2)) (by kernel_rfl) (by kernel_rfl) q2 ?_
       iterate 5 first | (refine wpRO_free rfl rfl _ (fun w' => by go_simp; exact Gives.mk _ _) (fun K hK => ?_); go_simp; refine hK _ ?_; clear hK K) | (refine wpRO_skipF rfl rfl (fun K hK => ?_); go_simp; refine hK _ ?_; clear hK K) | (refine wpRO_pure rfl rfl _ (fun w' hG => by obtain g0 := hG; exact gives_agg2 rfl (by decide +kernel) rfl (by assumption) (by assumption)) (fun K hK => ?_); go_simp; refine hK _ ?_; clear hK K) | (refine wpRO_pure rfl rfl _ (fun w' hG => by obtain g0 := hG; go_simp; exact Gives.mk _ _) (fun K hK => ?_); go_simp; refine hK _ ?_; clear hK K) | (refine wpRO_skip rfl rfl (fun K hK => ?_); go_simp; refine hK _ ?_; clear hK K)
       refine wpRO_run rfl rfl (fun K hK => ?_); unfold gRun; go_simp
       refine (mTop_c (C6.out.same ((Keeps.refl (fun _ => False) w6).drew)).J C6.out.nb).mono ?_
       rintro e w7 ⟨rfl,hk⟩
       have K7 := Lib.hid ((Keeps.refl (fun _ => False) w6).drew.trans hk)
       have C7 := Lib.hid (C6.out.same K7.out)
       refine hK _ _ (fun _ => by have := C7.out.J.cells.2.2.1; rw [HG.out.2] at this; exact this) ?_
       clear hK K hk q2 cl
       rw [HG.out.1]
       have T7 := Lib.hid (show CSTo w H wv ev rv qv rg (mRound d1) w7 by
        obtain ⟨a,b,c,k,o⟩ := T6.out
        exact ⟨a,b,c.same K7.out,k.trans (K7.out.mono (fun _ _ h => h.elim)),o⟩)
       have HRO := Lib.hid (ScOk.round HC1.out.ok); have HSR := Lib.hid (Sm.round d1 HC1.out.ok.ok).grn
       have HD1 := Lib.hid (And.intro HC1.out.ok.c1 (And.intro HC1.out.ok.ok.h3 HC1.out.ok.ok.h4))
       have HD2 := Lib.hid (And.intro C7.out.ok.c1 (And.intro C7.out.ok.ok.h3 C7.out.ok.ok.h4))
       by_cases hmore : c2 < A3.grn
       ·have hd : decide (c2 < (A3.grn : Int)) = true := by simpa using hmore
        have HM := Lib.hid (show (mRound d1).c < (mRound d1).s.A.grn by rw [HG.out.1,HG.out.2]; exact hmore)
        have HMU7 := Lib.hid (drainMu_of C7.out true)
        clear hmore
        iterate 2 first | (refine wpRO_free rfl rfl _ (fun w' => by go_simp; exact Gives.mk _ _) (fun K hK => ?_); go_simp; refine hK _ ?_; clear hK K) | (refine wpRO_skipF rfl rfl (fun K hK => ?_); go_simp; refine hK _ ?_; clear hK K)
        refine wpRO_fin ?_
        go_wp2_with fail
        go_roundw
        case rel =>
         refine .inl ⟨n - 1,mRound d1,rfl,T7.out, ?_, ?_, .inr HM.out⟩
         ·rw [HE.out]
          obtain ⟨n,rfl⟩ : ∃ k,n = k + 1 := ⟨n - 1,by have := HN.out; have := HD1.out; omega⟩
          exact mDrain_more _ HM.out
         ·have h1 := HN.out; have h2 := HRO.out; have h3 := HGR.out; have h4 := HD1.out
          rcases h3 with h3 | h3
          ·have := h2.1.c0; omega
          ·have := h2.2.2 h3; omega
        case measure =>
         have h1 := HMU.out; have h2 := HMU7.out; have h3 := HRO.out; have h4 := HSR.out; have h5 := HM.out; have h6 := HD1.out; have h7 := HD2.out
         rw [h1,h2]
         have := h3.2.1
         by_cases hq : d1.c < d1.s.A.grn
         ·have := h3.2.2 hq; simp only [if_true]; omega
         ·simp only [if_true]; omega
       ·have hd : decide (c2 < (A3.grn : Int)) = false := by simpa using hmore
        have HM := Lib.hid (show ¬ (mRound d1).c < (mRound d1).s.A.grn by rw [HG.out.1,HG.out.2]; exact hmore)
        have HMU7 := Lib.hid (drainMu_of C7.out false)
        clear hmore
        iterate 2 first | (refine wpRO_free rfl rfl _ (fun w' => by go_simp; exact Gives.mk _ _) (fun K hK => ?_); go_simp; refine hK _ ?_; clear hK K) | (refine wpRO_skipF rfl rfl (fun K hK => ?_); go_simp; refine hK _ ?_; clear hK K)
        refine wpRO_fin ?_
        go_wp2_with fail
        go_roundw
        case rel => exact .inr ⟨rfl,by rw [HE.out,mDrain_last _ HM.out]; exact T7.out⟩
        case measure =>
         have h1 := HMU.out; have h2 := HMU7.out; have h3 := HRO.out; have h4 := HSR.out; have h6 := HD1.out; have h7 := HD2.out
         rw [h1,h2]
         have := h3.2.1
         simp only [if_true,Bool.false_eq_true,if_false]; omega
  ·have HT := Lib.hid ht
   clear ht
   go_wp2_with fail
   go_end0
   exact ⟨rfl,HT.out⟩
end
end Go.Proofs.Ytjifdalflepcoab
namespace Go.Proofs.Ytjifdalflepcoab
open Go.RowKit
set_option linter.unusedVariables false
set_option linter.unusedSimpArgs false
section
variable {w w' : World} {H : CH} {wv ev rv qv : Value} {rg : List (Int × Int)} {d : Md} {s : Ms} {c : Int}
abbrev PcAt (w : World) (b : Nat) (H : CH) : Prop := Blk w b [.pointer (some ⟨H.pc,0,none⟩)] 171
def SavedRet (w : World) (H : CH) (e : Ending) (w' : World) : Prop :=
 ∃ b,e = .returned (.agg #[.func (.func 146) #[.pointer (some ⟨H.pc,0,none⟩)] #[], .func (.func 151) #[] #[.pointer (some ⟨b,0,none⟩)], .func (.func 147) #[.pointer (some ⟨H.pc,0,none⟩)] #[]]) ∧
  PcAt w' b H ∧ Keeps (fun _ => False) w w' ∧ w.heap.size ≤ b
set_option maxHeartbeats 1000000 in
set_option maxRecDepth 100000 in
theorem mSaved_c (J : CutJ w H wv ev s c) :
  Calls Try.prog 121 #[.pointer (some ⟨H.pc,0,none⟩)] w (SavedRet w H) := by
 have HJ := Lib.hid J
 clear J
 go_enter Try.func121,Try.ntmps121
 go_wp2_with fail
 generalize hwa : (w.alloc (.cells #[.pointer (some ⟨H.pc,0,none⟩)] 171)).alloc (.cells #[.nilFunc, .nilFunc, .nilFunc] 178) = wa
 have HB := Lib.hid (show PcAt wa w.heap.size H by rw [← hwa]; exact Blk.alloc (Blk.newAt _ rfl rfl) _)
 have HR := Lib.hid (show Blk wa (w.heap.size + 1) [.nilFunc, .nilFunc, .nilFunc] 178 by rw [← hwa]; exact Blk.newAt _ (by simp) rfl)
 have HK := Lib.hid (show Keeps (fun _ => False) w wa by rw [← hwa]; exact ((Keeps.refl _ _).alloc _).alloc _)
 clear hwa
 refine (mLiving_c (HJ.out.same HK.out)).mono ?_
 rintro e w1 ⟨rfl,hk⟩
 have HB1 := Lib.hid (hk.blk HB.out (fun h => h)); have HR1 := Lib.hid (hk.blk HR.out (fun h => h)); have HK1 := Lib.hid (HK.out.trans hk)
 clear hk HB HR HK
 unfold mLivV
 have r0 := HR1.out.cell 0; have r1 := HR1.out.cell 1; have r2 := HR1.out.cell 2; have rl := HR1.out.lt; have f0 := HR1.out.free 0; have f1 := HR1.out.free 1; have f2 := HR1.out.free 2
 simp only [List.getElem?_cons_zero,List.getElem?_cons_succ] at r0 r1 r2
 go_wp2_with fail
 have hb3 := (((HR1.out.setSame 0 (.func (.func 146) #[.pointer (some ⟨H.pc,0,none⟩)] #[])).setSame 1 (.func (.func 151) #[] #[.pointer (some ⟨w.heap.size,0,none⟩)])).setSame 2 (.func (.func 147) #[.pointer (some ⟨H.pc,0,none⟩)] #[])).alloc (.cells #[.func (.func 146) #[.pointer (some ⟨H.pc,0,none⟩)] #[], .func (.func 151) #[] #[.pointer (some ⟨w.heap.size,0,none⟩)], .func (.func 147) #[.pointer (some ⟨H.pc,0,none⟩)] #[]] 178)
 have hk3 := ((((Keeps.refl (· = w.heap.size + 1) w1).setCell (p := ⟨w.heap.size + 1,0,none⟩) (.inl rfl) (.func (.func 146) #[.pointer (some ⟨H.pc,0,none⟩)] #[])).setCell (p := ⟨w.heap.size + 1,1,none⟩) (.inl rfl) (.func (.func 151) #[] #[.pointer (some ⟨w.heap.size,0,none⟩)])).setCell (p := ⟨w.heap.size + 1,2,none⟩) (.inl rfl) (.func (.func 147) #[.pointer (some ⟨H.pc,0,none⟩)] #[])).alloc (.cells #[.func (.func 146) #[.pointer (some ⟨H.pc,0,none⟩)] #[], .func (.func 151) #[] #[.pointer (some ⟨w.heap.size,0,none⟩)], .func (.func 147) #[.pointer (some ⟨H.pc,0,none⟩)] #[]] 178)
 have l0 := hb3.cell 0; have l1 := hb3.cell 1; have l2 := hb3.cell 2
 simp only [List.getElem?_cons_zero,List.getElem?_cons_succ,List.set_cons_zero,List.set_cons_succ] at l0 l1 l2
 refine bodyPost_ret (v := .agg #[.func (.func 146) #[.pointer (some ⟨H.pc,0,none⟩)] #[], .func (.func 151) #[] #[.pointer (some ⟨w.heap.size,0,none⟩)], .func (.func 147) #[.pointer (some ⟨H.pc,0,none⟩)] #[]]) (by simp [results,Try.results121,go_sem,l0,l1,l2]) rfl ⟨w.heap.size,rfl,hk3.blk HB1.out (by omega),HK1.out.then hk3 (fun k hk => .inr (by omega)),Nat.le_refl _⟩
set_option maxHeartbeats 1000000 in
set_option maxRecDepth 100000 in
theorem mSaved1_c (x : Int) (b : Nat) (C : CS w H wv ev rv qv rg d) (hb : PcAt w b H) :
  Calls Try.prog 151 #[.int .i64 x, .pointer (some ⟨b,0,none⟩)] w fun e w' => e = .returned (.int .i64 (mNow (mBring d.s.A x) x)) ∧ CSTo w H wv ev rv qv rg (mDrain 2000 ⟨{ d.s with A := mBring d.s.A x },d.c,d.q⟩) w' := by
 have HC := Lib.hid C; have HB := Lib.hid hb
 have b0 := hb.cell 0; have bl := hb.lt
 simp only [List.getElem?_cons_zero] at b0
 clear C hb
 go_enter Try.func151,Try.ntmps151
 go_wp2_with fail
 refine (mBring_c x HC.out.J).mono ?_
 rintro e w1 ⟨rfl,t⟩
 have hsm := Sm.bring HC.out.ok.ok x
 obtain ⟨a1,b1,J1,k1,o1⟩ := HC.out.J.arenaTo t
 have C1 := Lib.hid (show CS w1 H wv ev rv qv rg ⟨{ d.s with A := mBring d.s.A x },d.c,d.q⟩ from
  ⟨HC.out.J.arena t,HC.out.S.keep k1 (fun b hb hk => HC.out.J.side_apart HC.out.S hk hb),HC.out.ok.arena hsm.ok,HC.out.q,by rw [HC.out.nb]; exact congrArg (fun x : Nat => (x : Int)) hsm.nur.symm,HC.out.ql⟩)
 have K1 := Lib.hid (show Keeps (H.Own wv ev) w w1 from k1)
 have HB1 := Lib.hid (show PcAt w1 b H from k1.blk HB.out (fun h => by
  obtain ⟨_,T,h',hT⟩ := HC.out.J.own_type h
  refine HB.out.ne h' ?_ rfl
  rcases hT with rfl | rfl | rfl | rfl | rfl <;> decide))
 clear b0 bl t hsm J1 k1 o1
 have b0 := HB1.out.cell 0; have bl := HB1.out.lt
 simp only [List.getElem?_cons_zero] at b0
 go_wp2_with fail
 refine (mDrain_c C1.out).mono ?_
 rintro e w2 ⟨rfl,t⟩
 have T2 := Lib.hid (CSTo.join (K1.out.mono (fun _ _ h => .inl h)) (fun k hk => .inl hk) t)
 clear t b0 bl
 go_wp2_with fail
 go_ret
 exact ⟨rfl,T2.out⟩
def mSettleL (H : CH) (b : Nat) : Liv Try.prog H.ps Mt where
 J := fun w t F => ∃ wv ev,CutJ w H wv ev t.1 t.2 ∧ ScOk t.1 t.2 ∧ H.base = t.1.A.nur ∧ PcAt w b H ∧ F = fun k => H.Own wv ev k ∨ k = b
 D := fun _ x => R64 x
 DK := fun _ x => R64 x
 alive := mtAlive
 keep := mtKeep
 now := mtNow
 fa := 146
 fk := 151
 fn := 147
 a1 := #[.pointer (some ⟨H.pc,0,none⟩)]
 a2 := #[]
 k1 := #[]
 k2 := #[.pointer (some ⟨b,0,none⟩)]
 n1 := #[.pointer (some ⟨H.pc,0,none⟩)]
 n2 := #[]
 ea := fun args w => by kernel_rfl
 ek := fun args w => by kernel_rfl
 en := fun args w => by kernel_rfl
 J_keep := fun h k hn => by
  obtain ⟨wv,ev,h1,h2,h3,h4,rfl⟩ := h
  exact ⟨wv,ev,h1.keep k (fun b hb => hn b (.inl hb)),h2,h3,k.blk h4 (hn _ (.inr rfl)),rfl⟩
 J_lt := fun h hk => by
  obtain ⟨wv,ev,h1,h2,h3,h4,rfl⟩ := h
  rcases hk with hk | rfl
  ·exact h1.own_lt hk
  ·exact h4.lt
 alive_c := fun w t F x hJ _ => by
  obtain ⟨wv,ev,h1, -⟩ := hJ
  exact (mAlive_c x h1).mono (by rintro e w' ⟨rfl,rfl⟩; exact ⟨rfl,Keeps.refl _ _⟩)
 now_c := fun w t F x hJ _ => by
  obtain ⟨wv,ev,h1, -⟩ := hJ
  exact (mNow_c x h1).mono (by rintro e w' ⟨rfl,rfl⟩; exact ⟨rfl,Keeps.refl _ _⟩)
 keep_c := fun w t F rv qv regs wait x hJ hS hA hx hq hl => by
  obtain ⟨wv,ev,h1,h2,h3,h4,rfl⟩ := hJ
  refine (mSaved1_c (d := ⟨t.1,t.2,wait⟩) x b ⟨h1,hS,h2,fun e he => hq e he,h3,hl⟩ h4).mono ?_
  rintro e w' ⟨rfl,wv',ev',C',k',o'⟩
  refine ⟨rfl,_,⟨wv',ev',C'.J,C'.ok,C'.nb,k'.blk h4 (fun h => ?_),rfl⟩,C'.S,fun k hk => ?_,k'.mono (fun k _ hk => hk.elim (fun h => .inl (.inl h)) .inr),fun k hk => ?_⟩
  ·rcases h with h | h
   ·obtain ⟨_,T,h',hT⟩ := h1.own_type h
    refine h4.ne h' ?_ rfl
    rcases hT with rfl | rfl | rfl | rfl | rfl <;> decide
   ·exact hA b ⟨.inr rfl,h⟩
  ·rcases hk with ⟨hk | hk,hs⟩
   ·exact C'.J.side_apart C'.S hk hs
   ·exact hA k ⟨.inr hk,hs⟩
  ·rcases hk with hk | hk
   ·exact (o' k hk).imp .inl id
   ·exact .inl (.inr hk)
 DK_D := fun h => h
 DK_keep := fun _ h => h
 D_keep := fun _ h => h
 D_new := fun h => mNow_R64 h
 D_wait := fun {t wait x} _ h => QOk.drain 2000 (d := ⟨{ t.1 with A := mBring t.1.A x },t.2,wait⟩) h
 keep_len := mDrain_len _ _
set_option maxHeartbeats 1000000 in
set_option maxRecDepth 100000 in
theorem mFix_c (i : Int) (q : Bool) (b : Nat) (J : CutJ w H wv ev s c) (hb : PcAt w b H) :
  Calls Try.prog 152 #[.int .i64 i, .bool q, .pointer (some ⟨b,0,none⟩)] w fun e w' => e = .returned (.tuple #[]) ∧ ArenaTo w H.pa H.g w' (mFix s.A i q) := by
 have HJ := Lib.hid J; have HB := Lib.hid hb
 have b0 := hb.cell 0; have bl := hb.lt
 simp only [List.getElem?_cons_zero] at b0
 clear J hb
 obtain ⟨c0, -, -, -, -,p0, -, -, -⟩ := HJ.out.cells
 have pl := HJ.out.hp.lt; have cl := HJ.out.hc.lt
 have HD := Lib.hid (HJ.out.same ((Keeps.refl (fun _ => False) w).drew))
 cases q
 ·go_enter Try.func152,Try.ntmps152
  go_wp2_with fail
  refine wp_region_ro (.free 7 (.free 16 (.pure 0 (.free 1 (.free 2 (.pure 3 (.free 4 (.free 5 (.pure 6 (.pure 8 (.pure 9 (.free 10 (.free 11 (.pure 12 (.free 13 (.free 14 (.pure 15 (.run 17 (.run 18 (.run 19 (.swi [] (.fin)))))))))))))))))))))) [19] (fun w' => w'.cell? ⟨b,0,none⟩ = some (.pointer (some ⟨H.pc,0,none⟩)) ∧ w'.cell? ⟨H.pc,0,none⟩ = some (.pointer (some ⟨H.p,0,none⟩)) ∧ w'.cell? ⟨H.p,0,none⟩ = some (.pointer (some ⟨H.pa,0,none⟩))) (by kernel_rfl) (by kernel_rfl) ⟨b0,c0,p0⟩ ?_
  iterate 17 first | (refine wpRO_free rfl rfl _ (fun w' => by go_simp; exact Gives.mk _ _) (fun K hK => ?_); go_simp; refine hK _ ?_; clear hK K) | (refine wpRO_skipF rfl rfl (fun K hK => ?_); go_simp; refine hK _ ?_; clear hK K) | (refine wpRO_pure rfl rfl _ (fun w' hG => by obtain ⟨g0,g1,g2⟩ := hG; exact gives_agg2 rfl (by decide +kernel) rfl (by assumption) (by assumption)) (fun K hK => ?_); go_simp; refine hK _ ?_; clear hK K) | (refine wpRO_pure rfl rfl _ (fun w' hG => by obtain ⟨g0,g1,g2⟩ := hG; go_simp; exact Gives.mk _ _) (fun K hK => ?_); go_simp; refine hK _ ?_; clear hK K) | (refine wpRO_skip rfl rfl (fun K hK => ?_); go_simp; refine hK _ ?_; clear hK K)
  refine wpRO_run rfl rfl (fun K hK => ?_); unfold gRun; go_simp
  refine (Load_c i _ HD.out.ha).mono ?_
  rintro e w1 ⟨rfl,rfl⟩
  refine hK _ _ (fun h => h) ?_
  clear hK K
  refine wpRO_run rfl rfl (fun K hK => ?_); unfold gRun; go_simp
  refine (mNow_c (s.A.load i) HD.out).mono ?_
  rintro e w1 ⟨rfl,rfl⟩
  refine hK _ _ (fun h => h) ?_
  clear hK K
  skip
  refine wpRO_chg rfl rfl rfl (fun K hK => ?_); unfold gRun; go_simp
  have HR := Lib.hid (mNow_R64 (A := s.A) (HD.out.ha.ok.load i))
  refine (Store_c i _ _ HD.out.ha HR.out).mono ?_
  rintro e w3 ⟨rfl,t⟩
  have T2 := Lib.hid (ArenaTo.from_same (w := w) ((Keeps.refl (fun _ => False) w).drew) t)
  clear t
  refine hK _ _ ?_
  clear hK K c0 p0 pl cl
  refine wpRO_swi (fun _ => True) trivial (wpRO_fin ?_)
  go_wp2_with fail
  go_end0
  exact ⟨rfl,T2.out⟩
 ·go_enter Try.func152,Try.ntmps152
  go_wp2_with fail
  refine wp_region_ro (.free 7 (.pure 0 (.free 1 (.free 2 (.pure 3 (.free 4 (.free 5 (.pure 6 (.run 8 (.run 9 (.swi [] (.fin)))))))))))) [9] (fun w' => w'.cell? ⟨b,0,none⟩ = some (.pointer (some ⟨H.pc,0,none⟩)) ∧ w'.cell? ⟨H.pc,0,none⟩ = some (.pointer (some ⟨H.p,0,none⟩)) ∧ w'.cell? ⟨H.p,0,none⟩ = some (.pointer (some ⟨H.pa,0,none⟩))) (by kernel_rfl) (by kernel_rfl) ⟨b0,c0,p0⟩ ?_
  iterate 8 first | (refine wpRO_free rfl rfl _ (fun w' => by go_simp; exact Gives.mk _ _) (fun K hK => ?_); go_simp; refine hK _ ?_; clear hK K) | (refine wpRO_skipF rfl rfl (fun K hK => ?_); go_simp; refine hK _ ?_; clear hK K) | (refine wpRO_pure rfl rfl _ (fun w' hG => by obtain ⟨g0,g1,g2⟩ := hG; exact gives_agg2 rfl (by decide +kernel) rfl (by assumption) (by assumption)) (fun K hK => ?_); go_simp; refine hK _ ?_; clear hK K) | (refine wpRO_pure rfl rfl _ (fun w' hG => by obtain ⟨g0,g1,g2⟩ := hG; go_simp; exact Gives.mk _ _) (fun K hK => ?_); go_simp; refine hK _ ?_; clear hK K) | (refine wpRO_skip rfl rfl (fun K hK => ?_); go_simp; refine hK _ ?_; clear hK K)
  refine wpRO_run rfl rfl (fun K hK => ?_); unfold gRun; go_simp
  refine (Gone_c _).mono ?_
  rintro e w1 ⟨rfl,rfl⟩
  refine hK _ _ (fun h => h) ?_
  clear hK K
  skip
  refine wpRO_chg rfl rfl rfl (fun K hK => ?_); unfold gRun; go_simp
  refine (Store_c i 3 _ HD.out.ha (by unfold R64; omega)).mono ?_
  rintro e w3 ⟨rfl,t⟩
  have T2 := Lib.hid (ArenaTo.from_same (w := w) ((Keeps.refl (fun _ => False) w).drew) t)
  clear t
  refine hK _ _ ?_
  clear hK K c0 p0 pl cl
  refine wpRO_swi (fun _ => True) trivial (wpRO_fin ?_)
  go_wp2_with fail
  go_end0
  exact ⟨rfl,T2.out⟩
end
end Go.Proofs.Ytjifdalflepcoab
namespace Go.Proofs.Ytjifdalflepcoab
open Go.RowKit
set_option linter.unusedVariables false
set_option linter.unusedSimpArgs false
def mGoneW1 (A : Ar) (i : Int) : Ar := mFix A (i + 1) (!mAlive A (A.load (i + 1)))
theorem mGoneW_snoc {A : Ar} {l : List Int} {k : Nat} (h : k < l.length) : mGoneW A (l.take (k + 1)) = mGoneW1 (mGoneW A (l.take k)) (l.getD k 0) := by
 unfold mGoneW
 rw [← List.take_append_getElem h,List.foldl_append,List.getD_eq_getElem?_getD,List.getElem?_eq_getElem h]; rfl
theorem mGoneE_snoc {A : Ar} {l : List Int} {k : Nat} (h : k < l.length) : (l.take (k + 1)).foldl mGoneE1 A = mGoneE1 ((l.take k).foldl mGoneE1 A) (l.getD k 0) := by
 rw [← List.take_append_getElem h,List.foldl_append,List.getD_eq_getElem?_getD,List.getElem?_eq_getElem h]; rfl
section
variable {w w' : World} {H : CH} {wv ev rv qv : Value} {rg : List (Int × Int)} {d : Md} {s : Ms} {c : Int}
theorem CutJ.var (J : CutJ w H wv ev s c) {b : Nat} (hb : PcAt w b H) {A : Ar} (t : ArenaTo w H.pa H.g w' A) : PcAt w' b H := t.k.blk hb (fun h => by
 rcases h with h | h
 ·exact hb.ne J.ha.hp (by decide) h
 ·exact hb.ne J.ha.hg (by decide) h)
set_option maxHeartbeats 4000000 in
set_option maxRecDepth 100000 in
theorem mGone_c (J : CutJ w H wv ev s c) (hs : MsOk s 100000) :
  Calls Try.prog 122 #[.pointer (some ⟨H.pc,0,none⟩)] w fun e w' => e = .returned (.tuple #[]) ∧ ArenaTo w H.pa H.g w' (mGone s) := by
 obtain ⟨wo,wc,hwv, -, -, -⟩ := J.hw.rd
 obtain ⟨eo,ec,hev, -, -, -⟩ := J.he.rd
 subst hwv; subst hev
 have HJ0 := Lib.hid J
 have hwb := hs.wb; have heb := hs.eb; have hl := hs.len
 have HWB := Lib.hid hwb; have HEB := Lib.hid heb
 clear J hwb heb hs
 generalize hwx : w.alloc (.cells #[.pointer (some ⟨H.pc,0,none⟩)] 171) = wx
 have HK := Lib.hid (show Keeps (fun _ => False) w wx by rw [← hwx]; exact (Keeps.refl _ _).alloc _)
 have HB := Lib.hid (show PcAt wx w.heap.size H by rw [← hwx]; exact Blk.newAt _ rfl rfl)
 have HX := Lib.hid hwx
 have HJ := Lib.hid (HJ0.out.same HK.out)
 clear hwx
 have q3 := HJ0.out.cells.2.2.2.1; have cl := HJ0.out.hc.lt
 go_enter Try.func122,Try.ntmps122
 go_wp2_with fail
 rw [HX.out]
 go_loopw [14] (fun u wr => ∃ k : Nat,k ≤ s.wk.length ∧ u = .int .i64 k ∧ ArenaTo wx H.pa H.g wr (mGoneW s.A (s.wk.take k))) (fun u _ => s.wk.length - (intOf u).toNat)
 case atStart => exact ⟨0,Nat.zero_le _,rfl,ArenaTo.refl HJ.out.ha (Keeps.refl _ _)⟩
 case round =>
  clear q3 cl
  obtain ⟨k,hk,rfl,t⟩ := hrel
  have T := Lib.hid t
  have JR := Lib.hid (HJ.out.arena t)
  have BR := Lib.hid (HJ.out.var HB.out t)
  clear t
  have b0 := BR.out.cell 0; have bl := BR.out.lt
  simp only [List.getElem?_cons_zero] at b0
  have c0 := JR.out.cells.1; have p0 := JR.out.cells.2.2.2.2.2.1; have pl := JR.out.hp.lt; have cl := JR.out.hc.lt
  by_cases hlt : k < s.wk.length
  ·obtain ⟨_,_,e',rd, -, -⟩ := JR.out.hw.rd
   cases e'
   obtain ⟨ge,oe,rfl,d0⟩ := rd.int k hlt
   have hgl := (JR.out.hw.own rfl).1
   have hin := HWB.out (s.wk.getD k 0) (by rw [List.getD_eq_getElem?_getD,List.getElem?_eq_getElem hlt]; exact List.getElem_mem hlt)
   have HTK := Lib.hid (mGoneW_snoc (A := s.A) hlt)
   generalize s.wk.getD k 0 = i at *
   generalize mGoneW s.A (s.wk.take k) = B at *
   have hi1 : IntKind.i64.wrap (i + 1) = i + 1 := IntWalk.i64_in _ (by omega)
   clear rd
   go_wp2_with fail
   have JD := Lib.hid (JR.out.same ((Keeps.refl (fun _ => False) wr).drew))
   have BD := Lib.hid (((Keeps.refl (fun _ => False) wr).drew).blk BR.out (fun h => h))
   refine wp_region_ro (.free 0 (.free 1 (.free 2 (.free 11 (.free 12 (.pure 3 (.pure 4 (.free 5 (.free 6 (.pure 7 (.free 8 (.free 9 (.pure 10 (.run 13 (.run 14 (.swi [16] (.free 15 (.run 16 (.swi [] (.fin)))))))))))))))))))) [14,15,16] (fun w' => w'.cell? ⟨w.heap.size,0,none⟩ = some (.pointer (some ⟨H.pc,0,none⟩)) ∧ w'.cell? ⟨H.pc,0,none⟩ = some (.pointer (some ⟨H.p,0,none⟩)) ∧ w'.cell? ⟨H.p,0,none⟩ = some (.pointer (some ⟨H.pa,0,none⟩))) (by kernel_rfl) (by kernel_rfl) ⟨b0,c0,p0⟩ ?_
   iterate 13 first | (refine wpRO_free rfl rfl _ (fun w' => by go_simp; exact Gives.mk _ _) (fun K hK => ?_); go_simp; refine hK _ ?_; clear hK K) | (refine wpRO_skipF rfl rfl (fun K hK => ?_); go_simp; refine hK _ ?_; clear hK K) | (refine wpRO_pure rfl rfl _ (fun w' hG => by obtain ⟨g0,g1,g2⟩ := hG; exact gives_agg2 rfl (by decide +kernel) rfl (by assumption) (by assumption)) (fun K hK => ?_); go_simp; refine hK _ ?_; clear hK K) | (refine wpRO_pure rfl rfl _ (fun w' hG => by obtain ⟨g0,g1,g2⟩ := hG; go_simp; exact Gives.mk _ _) (fun K hK => ?_); go_simp; refine hK _ ?_; clear hK K) | (refine wpRO_skip rfl rfl (fun K hK => ?_); go_simp; refine hK _ ?_; clear hK K)
   refine wpRO_run rfl rfl (fun K hK => ?_); unfold gRun; go_simp
   refine (Load_c (i + 1) _ JD.out.ha).mono ?_
   rintro e w1 ⟨rfl,rfl⟩
   refine hK _ _ (fun h => h) ?_
   clear hK K
   refine wpRO_chg rfl rfl rfl (fun K hK => ?_); unfold gRun; go_simp
   refine (mAlive_c (B.load (i + 1)) JD.out).mono ?_
   rintro e w1 ⟨rfl,rfl⟩
   refine hK _ _ ?_
   clear hK K
   refine wpRO_swi (fun _ => True) trivial ?_
   iterate 1 first | (refine wpRO_free rfl rfl _ (fun w' => by go_simp; exact Gives.mk _ _) (fun K hK => ?_); go_simp; refine hK _ ?_; clear hK K) | (refine wpRO_skipF rfl rfl (fun K hK => ?_); go_simp; refine hK _ ?_; clear hK K)
   refine wpRO_chg rfl rfl rfl (fun K hK => ?_); unfold gRun; go_simp
   refine (mFix_c (i + 1) (!mAlive B (B.load (i + 1))) w.heap.size JD.out BD.out).mono ?_
   rintro e w2 ⟨rfl,t⟩
   have T2 := Lib.hid (T.out.trans (ArenaTo.from_same ((Keeps.refl (fun _ => False) wr).drew) t))
   clear t
   refine hK _ _ ?_
   clear hK K
   refine wpRO_swi (fun _ => True) trivial (wpRO_fin ?_)
   clear b0 bl c0 p0 pl cl d0
   go_wp2_with fail
   go_roundw
   case rel => exact ⟨k + 1,hlt,by go_num,by rw [HTK.out]; exact T2.out⟩
   case measure => simp [intOf]; omega
  ·obtain rfl : k = s.wk.length := by omega
   rw [List.take_length] at T JR
   have HW0 := Lib.hid (show mGone s = s.ep.foldl mGoneE1 (mGoneW s.A s.wk) from rfl)
   generalize mGoneW s.A s.wk = B at *
   obtain ⟨w1,rfl⟩ : ∃ x : World,x = wr := ⟨wr,rfl⟩
   have q4 := JR.out.cells.2.2.2.2.1
   try dsimp only at q4
   go_wp2_with fail
   go_loopw [41] (fun u wr => ∃ k : Nat,k ≤ s.ep.length ∧ u = .int .i64 k ∧ ArenaTo w1 H.pa H.g wr ((s.ep.take k).foldl mGoneE1 B)) (fun u _ => s.ep.length - (intOf u).toNat)
   case atStart => exact ⟨0,Nat.zero_le _,rfl,ArenaTo.refl JR.out.ha (Keeps.refl _ _)⟩
   case round =>
    clear b0 bl c0 p0 pl cl q4
    obtain ⟨k,hk,rfl,t⟩ := hrel
    have T4 := Lib.hid t
    have JQ := Lib.hid (JR.out.arena t)
    have BQ := Lib.hid (JR.out.var BR.out t)
    clear t
    have b0 := BQ.out.cell 0; have bl := BQ.out.lt
    simp only [List.getElem?_cons_zero] at b0
    have c0 := JQ.out.cells.1; have p0 := JQ.out.cells.2.2.2.2.2.1; have pl := JQ.out.hp.lt; have cl := JQ.out.hc.lt
    by_cases hlt2 : k < s.ep.length
    ·obtain ⟨_,_,e',rd, -, -⟩ := JQ.out.he.rd
     cases e'
     obtain ⟨ge,oe,rfl,d0⟩ := rd.int k hlt2
     have hgl := (JQ.out.he.own rfl).1
     have hin := HEB.out (s.ep.getD k 0) (by rw [List.getD_eq_getElem?_getD,List.getElem?_eq_getElem hlt2]; exact List.getElem_mem hlt2)
     have HTK := Lib.hid (mGoneE_snoc (A := B) hlt2)
     generalize s.ep.getD k 0 = i at *
     generalize (s.ep.take k).foldl mGoneE1 B = D at *
     have hi1 : IntKind.i64.wrap (i + 1) = i + 1 := IntWalk.i64_in _ (by omega)
     have hi2 : IntKind.i64.wrap (i + 2) = i + 2 := IntWalk.i64_in _ (by omega)
     clear rd
     go_wp2_with fail
     have JD := Lib.hid (JQ.out.same ((Keeps.refl (fun _ => False) wr).drew))
     have BD := Lib.hid (((Keeps.refl (fun _ => False) wr).drew).blk BQ.out (fun h => h))
     refine wp_region_ro (.free 8 (.free 9 (.pure 0 (.pure 1 (.free 2 (.free 3 (.pure 4 (.free 5 (.free 6 (.pure 7 (.run 10 (.run 11 (.swi [] (.free 12 (.free 13 (.fin)))))))))))))))) [11,12,13] (fun w' => w'.cell? ⟨w.heap.size,0,none⟩ = some (.pointer (some ⟨H.pc,0,none⟩)) ∧ w'.cell? ⟨H.pc,0,none⟩ = some (.pointer (some ⟨H.p,0,none⟩)) ∧ w'.cell? ⟨H.p,0,none⟩ = some (.pointer (some ⟨H.pa,0,none⟩))) (by kernel_rfl) (by kernel_rfl) ⟨b0,c0,p0⟩ ?_
     iterate 10 first | (refine wpRO_free rfl rfl _ (fun w' => by go_simp; exact Gives.mk _ _) (fun K hK => ?_); go_simp; refine hK _ ?_; clear hK K) | (refine wpRO_skipF rfl rfl (fun K hK => ?_); go_simp; refine hK _ ?_; clear hK K) | (refine wpRO_pure rfl rfl _ (fun w' hG => by obtain ⟨g0,g1,g2⟩ := hG; exact gives_agg2 rfl (by decide +kernel) rfl (by assumption) (by assumption)) (fun K hK => ?_); go_simp; refine hK _ ?_; clear hK K) | (refine wpRO_pure rfl rfl _ (fun w' hG => by obtain ⟨g0,g1,g2⟩ := hG; go_simp; exact Gives.mk _ _) (fun K hK => ?_); go_simp; refine hK _ ?_; clear hK K) | (refine wpRO_skip rfl rfl (fun K hK => ?_); go_simp; refine hK _ ?_; clear hK K)
     refine wpRO_run rfl rfl (fun K hK => ?_); unfold gRun; go_simp
     refine (Load_c (i + 1) _ JD.out.ha).mono ?_
     rintro e w2 ⟨rfl,rfl⟩
     refine hK _ _ (fun h => h) ?_
     clear hK K
     refine wpRO_chg rfl rfl rfl (fun K hK => ?_); unfold gRun; go_simp
     refine (mAlive_c (D.load (i + 1)) JD.out).mono ?_
     rintro e w2 ⟨rfl,rfl⟩
     refine hK _ _ ?_
     clear hK K
     refine wpRO_swi (fun _ => True) trivial ?_
     iterate 2 first | (refine wpRO_free rfl rfl _ (fun w' => by go_simp; exact Gives.mk _ _) (fun K hK => ?_); go_simp; refine hK _ ?_; clear hK K) | (refine wpRO_skipF rfl rfl (fun K hK => ?_); go_simp; refine hK _ ?_; clear hK K)
     refine wpRO_fin ?_
     clear b0 bl c0 p0 pl cl d0
     generalize hdd : (!mAlive D (D.load (i + 1))) = dd
     have HDD := Lib.hid hdd
     clear hdd
     go_wp2_with fail
     refine (mFix_c (i + 1) dd w.heap.size JD.out BD.out).mono ?_
     rintro e w3 ⟨rfl,t⟩
     have T3 := Lib.hid (T4.out.trans (ArenaTo.from_same ((Keeps.refl (fun _ => False) wr).drew) t))
     have J3 := Lib.hid (JD.out.arena t)
     have B3 := Lib.hid (JD.out.var BD.out t)
     clear t
     go_wp2_with fail
     refine (mFix_c (i + 2) dd w.heap.size J3.out B3.out).mono ?_
     rintro e w4 ⟨rfl,t⟩
     have T5 := Lib.hid (T3.out.trans t)
     clear t
     go_wp2_with fail
     go_roundw
     case rel => exact ⟨k + 1,hlt2,by go_num,by rw [HTK.out,mGoneE1,HDD.out]; exact T5.out⟩
     case measure => simp [intOf]; omega
    ·obtain rfl : k = s.ep.length := by omega
     rw [List.take_length, ← HW0.out] at T4
     have T6 := Lib.hid (ArenaTo.from_same HK.out (T.out.trans T4.out))
     clear T4 JQ BQ
     go_wp2_with fail
     go_end0
     exact ⟨rfl,T6.out⟩
end
end Go.Proofs.Ytjifdalflepcoab
namespace Go.Proofs.Ytjifdalflepcoab
open Go.RowKit
set_option linter.unusedVariables false
set_option linter.unusedSimpArgs false
theorem mRoots_snoc : ∀ (l : List Int) (A : Ar) (x : Int),mRoots A (l ++ [x]) = (mBring (mRoots A l).1 x,(mRoots A l).2 ++ [mNow (mBring (mRoots A l).1 x) x])
 | [],A,x => rfl
 | y :: l,A,x => by
  show ((mRoots (mBring A y) (l ++ [x])).1,mNow (mBring A y) y :: (mRoots (mBring A y) (l ++ [x])).2) = _
  rw [mRoots_snoc l]
  rfl
theorem mRoots_len : ∀ (l : List Int) (A : Ar),(mRoots A l).2.length = l.length
 | [],A => rfl
 | y :: l,A => by
  show (mNow (mBring A y) y :: (mRoots (mBring A y) l).2).length = _
  rw [List.length_cons,mRoots_len l,List.length_cons]
theorem Sm.roots : ∀ (l : List Int) {A : Ar},A.ok → Sm A (mRoots A l).1
 | [],A,h => Sm.refl h
 | y :: l,A,h => (Sm.bring h y).trans (Sm.roots l (Sm.bring h y).ok)
def rootsN (A : Ar) (rt : List Int) (k : Nat) : List Int := (mRoots A (rt.take k)).2 ++ rt.drop k
theorem rootsN_len {A : Ar} {rt : List Int} {k : Nat} (h : k ≤ rt.length) : (rootsN A rt k).length = rt.length := by
 unfold rootsN
 rw [List.length_append,mRoots_len,List.length_take,List.length_drop]; omega
theorem rootsN_get {A : Ar} {rt : List Int} {k : Nat} (h : k < rt.length) : (rootsN A rt k).getD k 0 = rt.getD k 0 := by
 unfold rootsN
 have hl : (mRoots A (rt.take k)).2.length = k := by rw [mRoots_len,List.length_take]; omega
 rw [List.getD_eq_getElem?_getD,List.getElem?_append_right (by omega),hl,Nat.sub_self,List.getElem?_drop,Nat.add_zero,List.getD_eq_getElem?_getD]
theorem rootsN_step {A : Ar} {rt : List Int} {k : Nat} (h : k < rt.length) : (mRoots A (rt.take (k + 1))).1 = mBring (mRoots A (rt.take k)).1 (rt.getD k 0) ∧
  (rootsN A rt k).set k (mNow (mBring (mRoots A (rt.take k)).1 (rt.getD k 0)) (rt.getD k 0)) = rootsN A rt (k + 1) := by
 have e : rt.getD k 0 = rt[k] := by rw [List.getD_eq_getElem?_getD,List.getElem?_eq_getElem h]; rfl
 have hs := mRoots_snoc (rt.take k) A (rt[k])
 rw [List.take_append_getElem h] at hs
 have hl : (mRoots A (rt.take k)).2.length = k := by rw [mRoots_len,List.length_take]; omega
 rw [e]
 refine ⟨by rw [hs], ?_⟩
 unfold rootsN
 rw [hs,List.set_append_right _ _ (by omega),hl,Nat.sub_self,List.drop_eq_getElem_cons h,List.set_cons_zero,List.append_assoc]
 rfl
structure MC (w0 : World) (h : WH) (w : World) (pc : Nat) (n0 : Int) (wv ev rv qv : Value) (cd : List Bool) (rt : List Int) (rg : List (Int × Int)) (d : Md) : Prop where
 C : CS w ⟨h.p,h.pa,h.g,h.pc,h.ps,h.ro,pc,n0⟩ wv ev rv qv rg d
 hc : CardsAt w h.pc h.cb n0 cd
 hr : Sl w 2 1 h.ro rt.length (rt.map (Value.int .i64))
 ap : ¬ ownB h.ro h.g
 K : Keeps h.Own w0 w
 own : ∀ k,((CH.mk h.p h.pa h.g h.pc h.ps h.ro pc n0).Own wv ev k ∨ SideFp h.ps rv qv k) → h.Own k ∨ w0.heap.size ≤ k
section
variable {w0 w w' : World} {h : WH} {pc : Nat} {n0 : Int} {wv ev rv qv : Value} {cd : List Bool} {rt : List Int} {rg : List (Int × Int)} {d d' : Md}
theorem MC.type (M : MC w0 h w pc n0 wv ev rv qv cd rt rg d) {b : Nat} {l : List Value} {T : TypeId} (hb : Blk w b l T) (h1 : T ≠ 65 ∧ T ≠ 120 ∧ T ≠ 2 ∧ T ≠ 173 ∧ T ≠ 3 ∧ T ≠ 129 ∧ T ≠ 170) :
  ¬ ((CH.mk h.p h.pa h.g h.pc h.ps h.ro pc n0).Own wv ev b ∨ SideFp h.ps rv qv b) := by
 rintro (hk | hk)
 ·obtain ⟨_,U,h',hU⟩ := M.C.J.own_type hk
  refine hb.ne h' ?_ rfl
  rcases hU with rfl | rfl | rfl | rfl | rfl
  ·exact h1.1
  ·exact h1.2.1
  ·exact h1.2.2.1
  ·exact h1.2.2.2.1
  ·exact h1.2.2.2.2.1
 ·obtain ⟨_,U,h',hU⟩ := M.C.S.fp_type hk
  refine hb.ne h' ?_ rfl
  rcases hU with rfl | rfl
  ·exact h1.2.2.2.2.2.1
  ·exact h1.2.2.2.2.2.2
theorem MC.roots_ne (M : MC w0 h w pc n0 wv ev rv qv cd rt rg d) {b : Nat} (hb : ownB h.ro b) : ¬ ((CH.mk h.p h.pa h.g h.pc h.ps h.ro pc n0).Own wv ev b ∨ SideFp h.ps rv qv b) := by
 obtain ⟨_,l,hbl⟩ := M.hr.own hb
 rintro ((hk | hk | hk | hk | hk | hk) | hk)
 ·exact hbl.ne M.C.J.hp (by decide) hk
 ·exact hbl.ne M.C.J.ha.hp (by decide) hk
 ·subst hk; exact M.ap hb
 ·exact hbl.ne M.C.J.hc (by decide) hk
 ·obtain ⟨_,l',h'⟩ := M.C.J.hw.own hk; exact hbl.ne h' (by decide) rfl
 ·obtain ⟨_,l',h'⟩ := M.C.J.he.own hk; exact hbl.ne h' (by decide) rfl
 ·obtain ⟨_,U,h',hU⟩ := M.C.S.fp_type hk
  refine hbl.ne h' ?_ rfl
  rcases hU with rfl | rfl <;> decide
theorem MC.step (M : MC w0 h w pc n0 wv ev rv qv cd rt rg d) (t : CSTo w ⟨h.p,h.pa,h.g,h.pc,h.ps,h.ro,pc,n0⟩ wv ev rv qv rg d' w') : ∃ wv' ev',MC w0 h w' pc n0 wv' ev' rv qv cd rt rg d' ∧ ∀ k,(CH.mk h.p h.pa h.g h.pc h.ps h.ro pc n0).Own wv' ev' k → (CH.mk h.p h.pa h.g h.pc h.ps h.ro pc n0).Own wv ev k ∨ w.heap.size ≤ k := by
 obtain ⟨a,b,C',k,o⟩ := t
 refine ⟨a,b,⟨C',M.hc.keep k (M.type M.hc.hp (by decide)) (M.type M.hc.hq (by decide)),M.hr.keep k (fun b hb => M.roots_ne hb),M.ap,M.K.then k (fun k hk => M.own k hk),fun k hk => ?_⟩,o⟩
 rcases hk with hk | hk
 ·rcases o k hk with h1 | h1
  ·exact M.own k (.inl h1)
  ·exact .inr (Nat.le_trans M.K.size h1)
 ·exact M.own k (.inr hk)
theorem MC.same (M : MC w0 h w pc n0 wv ev rv qv cd rt rg d) (k : Keeps (fun _ => False) w w') : MC w0 h w' pc n0 wv ev rv qv cd rt rg d :=
 ⟨M.C.same k,M.hc.keep k (fun h => h) (fun h => h),M.hr.keep k (fun _ _ h => h),M.ap,M.K.trans (k.mono fun _ _ h => h.elim),M.own⟩
def OwnI (h : WH) (pc : Nat) (n0 : Int) (sz : Nat) (wv ev : Value) : Prop := ∀ k,(CH.mk h.p h.pa h.g h.pc h.ps h.ro pc n0).Own wv ev k → (k = h.p ∨ k = h.pa ∨ k = h.g ∨ k = pc) ∨ sz ≤ k
theorem OwnI.nil (h : WH) (pc : Nat) (n0 : Int) (sz : Nat) : OwnI h pc n0 sz (.slice none 0 0) (.slice none 0 0) := by
 rintro k (h | h | h | h | h | h)
 ·exact .inl (.inl h)
 ·exact .inl (.inr (.inl h))
 ·exact .inl (.inr (.inr (.inl h)))
 ·exact .inl (.inr (.inr (.inr h)))
 ·exact (nil_own h).elim
 ·exact (nil_own h).elim
theorem OwnI.step {sz : Nat} {wv' ev' : Value} (hI : OwnI h pc n0 sz wv ev) (o : ∀ k,(CH.mk h.p h.pa h.g h.pc h.ps h.ro pc n0).Own wv' ev' k → (CH.mk h.p h.pa h.g h.pc h.ps h.ro pc n0).Own wv ev k ∨ w.heap.size ≤ k) (hsz : sz ≤ w.heap.size) : OwnI h pc n0 sz wv' ev' := fun k hk => by
 rcases o k hk with h1 | h1
 ·exact hI k h1
 ·exact .inr (Nat.le_trans hsz h1)
theorem MC.list_apart (M : MC w0 h w pc n0 wv ev rv qv cd rt rg d) {sz n : Nat} {v : Value} {xs : List Value} (hI : OwnI h pc n0 sz wv ev) (hs : Sl w 3 1 v n xs) (hlt : ∀ b,ownB v b → b < sz) {b : Nat} (hb : ownB v b) :
  ¬ ((CH.mk h.p h.pa h.g h.pc h.ps h.ro pc n0).Own wv ev b ∨ SideFp h.ps rv qv b) := by
 obtain ⟨_,l,h'⟩ := hs.own hb
 rintro (hk | hk)
 ·rcases hI b hk with (h1 | h1 | h1 | h1) | h1
  ·exact h'.ne M.C.J.hp (by decide) h1
  ·exact h'.ne M.C.J.ha.hp (by decide) h1
  ·exact h'.ne M.C.J.ha.hg (by decide) h1
  ·exact h'.ne M.C.J.hc (by decide) h1
  ·have := hlt b hb; omega
 ·obtain ⟨_,U,h2,hU⟩ := M.C.S.fp_type hk
  refine h'.ne h2 ?_ rfl
  rcases hU with rfl | rfl <;> decide
theorem MC.root (M : MC w0 h w pc n0 wv ev rv qv cd rt rg d) {g o cap k : Nat} {x : Int} (e : h.ro = .slice (some ⟨g,o,none⟩) rt.length cap) (hk : k < rt.length) :
  MC w0 h (w.setCell ⟨g,o + k,none⟩ (.int .i64 x)) pc n0 wv ev rv qv cd (rt.set k x) rg d := by
 have hown : ownB h.ro g := by rw [e]; rfl
 have kk : Keeps (ownB h.ro) w (w.setCell ⟨g,o + k,none⟩ (.int .i64 x)) := (Keeps.refl _ _).setCell (p := ⟨g,o + k,none⟩) (.inl hown) _
 have ne : ∀ {b : Nat} {c : List Value} {T : TypeId},Blk w b c T → T ≠ 2 → ¬ ownB h.ro b := fun hb h1 hf => by
  obtain ⟨_,c',hc⟩ := M.hr.own hf
  exact hb.ne hc h1 rfl
 refine ⟨M.C.keep kk (fun b hb ho => M.roots_ne ho (.inl hb)) (fun b hb ho => M.roots_ne ho (.inr hb)),M.hc.keep kk (ne M.hc.hp (by decide)) (ne M.hc.hq (by decide)), ?_,M.ap,M.K.trans (kk.mono (fun k _ hk => .inr (.inr (.inr (.inr hk))))),M.own⟩
 have hs := M.hr
 rw [e] at hs ⊢
 have := hs.set (j := k) (u := .int .i64 x) (by omega)
 rw [List.length_set,List.map_set]
 exact this
theorem MC.rootCells (M : MC w0 h w pc n0 wv ev rv qv cd rt rg d) (h12 : rt.length = 12) : ∃ g o cap,h.ro = .slice (some ⟨g,o,none⟩) 12 cap ∧ g < w.heap.size ∧ (∀ k,w.frozen? ⟨g,k,none⟩ = false) ∧ ∀ k,k < rt.length → w.cell? ⟨g,o + k,none⟩ = some (.int .i64 (rt.getD k 0)) := by
 obtain ⟨ao,cap,e,hrd, -, -⟩ := M.hr.rd
 obtain ⟨g,o,rfl,hg,hc⟩ := hrd (by intro e; have := congrArg List.length e; rw [List.length_map,h12] at this; cases this)
 have hown : ownB h.ro g := by rw [e]; rfl
 obtain ⟨-,cur,hb⟩ := M.hr.own hown
 refine ⟨g,o,cap,by rw [e,h12],hg,fun k => hb.free k,fun k hk => ?_⟩
 rw [hc k (by simpa using hk)]
 simp [List.getD,hk]
structure ME (w0 : World) (h : WH) (w : World) (pc : Nat) (n0 : Int) (wv ev rv qv : Value) (cd : List Bool) (rt : List Int) (rg wt : List (Int × Int)) (s : Ms) (c : Int) : Prop where
 J : CutJ w ⟨h.p,h.pa,h.g,h.pc,h.ps,h.ro,pc,n0⟩ wv ev s c
 S : SideAt w h.ps rv qv rg wt
 hc : CardsAt w h.pc h.cb n0 cd
 hr : Sl w 2 1 h.ro rt.length (rt.map (Value.int .i64))
 ap : ¬ ownB h.ro h.g
 K : Keeps h.Own w0 w
 own : ∀ k,SideFp h.ps rv qv k → h.Own k ∨ w0.heap.size ≤ k
theorem ME.arena {wt : List (Int × Int)} {s : Ms} {c : Int} {A : Ar} (M : ME w0 h w pc n0 wv ev rv qv cd rt rg wt s c) (t : ArenaTo w h.pa h.g w' A) : ME w0 h w' pc n0 wv ev rv qv cd rt rg wt { s with A := A } c := by
 have n1 : ∀ {b : Nat} {c : List Value} {T : TypeId},Blk w b c T → T ≠ 120 → T ≠ 2 → ¬ (b = h.pa ∨ b = h.g) := fun hb h1 h2 e => by
  rcases e with e | e
  ·exact hb.ne M.J.ha.hp h1 e
  ·exact hb.ne M.J.ha.hg h2 e
 refine ⟨M.J.arena t,M.S.keep t.k (fun b hb => ?_),M.hc.keep t.k (n1 M.hc.hp (by decide) (by decide)) (n1 M.hc.hq (by decide) (by decide)),M.hr.keep t.k (fun b hb => ?_),M.ap,M.K.trans (t.k.mono (fun k _ hk => .inr (.inl hk))),M.own⟩
 ·obtain ⟨c,T,hc,hT⟩ := M.S.fp_type hb
  rcases hT with rfl | rfl
  ·exact n1 hc (by decide) (by decide)
  ·exact n1 hc (by decide) (by decide)
 ·obtain ⟨_,l,hb'⟩ := M.hr.own hb
  rintro (rfl | rfl)
  ·exact hb'.ne M.J.ha.hp (by decide) rfl
  ·exact M.ap hb
theorem ME.cards {wt : List (Int × Int)} {s : Ms} {c : Int} {l : List Bool} (M : ME w0 h w pc n0 wv ev rv qv cd rt rg wt s c) (t : CardsAt w' h.pc h.cb n0 l) (k : Keeps (· = h.cb) w w') : ME w0 h w' pc n0 wv ev rv qv l rt rg wt s c := by
 have n1 : ∀ {b : Nat} {c : List Value} {T : TypeId},Blk w b c T → T ≠ 4 → ¬ (b = h.cb) := fun hb h1 e => hb.ne M.hc.hq h1 e
 refine ⟨M.J.keep k (fun b hb => ?_),M.S.keep k (fun b hb => ?_),t,M.hr.keep k (fun b hb => ?_),M.ap,M.K.trans (k.mono (fun k _ hk => .inr (.inr (.inl (.inr hk))))),M.own⟩
 ·obtain ⟨_,T,hc,hT⟩ := M.J.own_type hb
  refine n1 hc ?_
  rcases hT with rfl | rfl | rfl | rfl | rfl <;> decide
 ·obtain ⟨c,T,hc,hT⟩ := M.S.fp_type hb
  refine n1 hc ?_
  rcases hT with rfl | rfl <;> decide
 ·obtain ⟨_,l,hb'⟩ := M.hr.own hb
  exact n1 hb' (by decide)
theorem ME.done {wt : List (Int × Int)} {s : Ms} {c : Int} (M : ME w0 h w pc n0 wv ev rv qv cd rt rg wt s c) (hn : n0 = s.A.nur) (hok : (Wo.mk s.A cd rt rg wt).ok) : WoodTo w0 h w ⟨s.A,cd,rt,rg,wt⟩ := by
 refine ⟨⟨h.p,h.pa,h.g,h.pc,h.cb,h.ps,rv,qv,h.ro⟩,⟨M.J.hp,M.J.ha,by dsimp only; rw [← hn]; exact M.hc,M.S,M.hr,M.ap,hok⟩,rfl,M.K, ?_⟩
 rintro k (hk | hk | hk | hk | hk)
 ·exact .inl (.inl hk)
 ·exact .inl (.inr (.inl hk))
 ·exact .inl (.inr (.inr (.inl hk)))
 ·exact M.own k hk
 ·exact .inl (.inr (.inr (.inr (.inr hk))))
end
theorem list_bounds (A : Ar) : ∀ (n : Nat) (i j : Int), ∀ p ∈ A.list n i j,i ≤ p ∧ p < j
 | 0,i,j,p,h => by unfold Ar.list at h; cases h
 | n + 1,i,j,p,h => by
  unfold Ar.list at h
  split at h
  ·split at h
   ·rename_i h1 h2
    have hf := A.thing_fields i
    rcases List.mem_cons.1 h with rfl | h
    ·omega
    ·have := list_bounds A n _ _ p h; omega
   ·cases h
  ·cases h
theorem Sm.goneW {A : Ar} : ∀ (l : List Int) {B : Ar},Sm A B → Sm A (mGoneW B l)
 | [],B,h => h
 | i :: l,B,h => Sm.goneW l (h.trans (Sm.fix h.ok (i + 1) _))
theorem Sm.goneE {A : Ar} : ∀ (l : List Int) {B : Ar},Sm A B → Sm A (l.foldl mGoneE1 B)
 | [],B,h => h
 | i :: l,B,h => Sm.goneE l ((h.trans (Sm.fix h.ok (i + 1) _)).trans (Sm.fix (Sm.fix h.ok (i + 1) _).ok (i + 2) _))
theorem Sm.gone {s : Ms} (h : s.A.ok) : Sm s.A (mGone s) := Sm.goneE s.ep (Sm.goneW s.wk (Sm.refl h))
theorem mDirty_snoc {base : Int} {cd : List Bool} {s : Ms} {l : List Int} {k : Nat} (h : k < l.length) : mDirty base cd s (l.take (k + 1)) = if dirtyL base cd (l.getD k 0) = true then mLook (mDirty base cd s (l.take k)) (l.getD k 0) else mDirty base cd s (l.take k) := by
 unfold mDirty
 rw [← List.take_append_getElem h,List.foldl_append,List.getD_eq_getElem?_getD,List.getElem?_eq_getElem h]; rfl
end Go.Proofs.Ytjifdalflepcoab
namespace Go.Proofs.Ytjifdalflepcoab
open Go.RowKit
set_option linter.unusedVariables false
set_option linter.unusedSimpArgs false
def MinorRet (w : World) (h : WH) (O : Wo) (e : Ending) (w' : World) : Prop := e = .returned (.int .i64 (mCut O).1) ∧ WoodTo w h w' (mCut O).2
section
variable {w w' : World} {h : WH} {O : Wo}
set_option maxHeartbeats 8000000 in
set_option maxRecDepth 100000 in
theorem minorCut_c {W : Wd} {φ : Int → Int} (R : Rep O W φ) (H : WoodAt w h O) :
  Calls Try.prog 75 #[.pointer (some ⟨h.p,0,none⟩)] w (MinorRet w h O) := by
 have HH := Lib.hid H
 have hok := H.ok
 obtain ⟨p0,p1,p2,p3⟩ := H.ptrs
 have pl := H.hp.lt
 have o1 := hok.ha.h1; have o2 := hok.ha.h2; have o3 := hok.ha.h3; have o4 := hok.ha.h4
 have HR := Lib.hid R
 clear H R
 have HOK := Lib.hid hok
 clear hok
 go_enter Try.func75,Try.ntmps75
 go_wp2_with fail
 refine (Used_c w HH.out.ha).mono ?_
 rintro e w1 ⟨rfl,hk⟩
 have H1 := Lib.hid (HH.out.keep hk (fun _ _ h => h)); have K1 := Lib.hid hk
 clear p0 p1 p2 p3 pl hk
 obtain ⟨p0,p1,p2,p3⟩ := H1.out.ptrs
 have pl := H1.out.hp.lt
 go_wp2_with fail
 refine (Free_c w1 H1.out.ha).mono ?_
 rintro e w2 ⟨rfl,hk⟩
 have H2 := Lib.hid (H1.out.keep hk (fun _ _ h => h)); have K2 := Lib.hid (K1.out.trans hk)
 clear p0 p1 p2 p3 pl hk H1 K1
 by_cases hfull : (O.ar.yng : Int) > (O.ar.ws.length : Int) - O.ar.grn
 ·have HE := Lib.hid (show mCut O = (3,O) by unfold mCut; rw [if_pos hfull])
  have hd : decide (((O.ar.ws.length - O.ar.grn : Nat) : Int) < (O.ar.yng : Int)) = true := by simp; omega
  have hd2 : decide (O.ar.ws.length - O.ar.grn < O.ar.yng) = true := by simp; omega
  clear hfull
  go_wp2_with fail
  go_ret
  refine ⟨by rw [HE.out]; rfl, ?_⟩
  rw [HE.out]
  exact WoodTo.same HH.out K2.out
 ·have hd : decide (((O.ar.ws.length - O.ar.grn : Nat) : Int) < (O.ar.yng : Int)) = false := by simp; omega
  have hd2 : decide (O.ar.ws.length - O.ar.grn < O.ar.yng) = false := by simp; omega
  have HF := Lib.hid hfull
  clear hfull
  obtain ⟨p0,p1,p2,p3⟩ := H2.out.ptrs
  have pl := H2.out.hp.lt
  go_wp2_with fail
  clear hd hd2
  refine (Bounds_c w2 H2.out.ha).mono ?_
  rintro e w3 ⟨rfl,hk⟩
  have H3 := Lib.hid (H2.out.keep hk (fun _ _ h => h)); have K3 := Lib.hid (K2.out.trans hk)
  clear p0 p1 p2 p3 pl hk H2 K2
  obtain ⟨p0,p1,p2,p3⟩ := H3.out.ptrs
  have pl := H3.out.hp.lt
  go_wp2_with fail
  generalize hwb : w3.alloc (.cells #[.pointer (some ⟨h.p,0,none⟩), .int .i64 O.ar.nur, .int .i64 0, .slice none 0 0, .slice none 0 0] 173) = wb
  have KB := Lib.hid (show Keeps (fun _ => False) w3 wb by rw [← hwb]; exact (Keeps.refl _ _).alloc _)
  have HB := Lib.hid (show Blk wb w3.heap.size [.pointer (some ⟨h.p,0,none⟩), .int .i64 O.ar.nur, .int .i64 0, .slice none 0 0, .slice none 0 0] 173 by rw [← hwb]; exact Blk.newAt _ rfl rfl)
  have MB := Lib.hid (show MC w h wb w3.heap.size O.ar.nur (.slice none 0 0) (.slice none 0 0) h.rv h.wv O.cd O.rt O.rg ⟨⟨O.ar,[],[]⟩,0,O.wt⟩ by
   have HBW := H3.out.keep KB.out (fun _ _ h => h)
   have hok := HOK.out
   refine ⟨⟨⟨HBW.hp,HBW.ha,HB.out,Sl.nil _ _ _,Sl.nil _ _ _,fun k hk => nil_own hk.1⟩,HBW.hs,⟨hok.ha,⟨by simp,(fun i hi => by cases hi),(fun i hi => by cases hi)⟩,by show (0 : Int) ≤ 0; omega,by show (0 : Int) ≤ 1300; omega⟩,fun e he => hok.hw e he,rfl,by have := hok.hq; dsimp only; omega⟩,HBW.hc,HBW.hr,HBW.ap,(K3.out.trans KB.out).mono (fun _ _ h => h.elim), ?_⟩
   rintro k ((rfl | rfl | rfl | rfl | hk | hk) | hk)
   ·exact .inl (.inl rfl)
   ·exact .inl (.inr (.inl (.inl rfl)))
   ·exact .inl (.inr (.inl (.inr rfl)))
   ·exact .inr K3.out.size
   ·exact (nil_own hk).elim
   ·exact (nil_own hk).elim
   ·exact .inl (.inr (.inr (.inr (.inl hk)))))
  clear hwb p0 p1 p2 p3 pl H3 HB KB
  generalize w3.heap.size = pc at *
  go_wp2_with fail
  refine (Things_c wb MB.out.C.J.ha).mono ?_
  rintro e w4 ⟨ao,ac,bo,bc,rfl, -,hls,hk, -,hlo⟩
  have M4 := Lib.hid (MB.out.same hk); have HLS := Lib.hid hls; have HLO := Lib.hid hlo
  have HLT := Lib.hid (fun b hb => (hls.own (k := b) hb).1)
  clear hls hlo hk
  have cl := M4.out.C.J.hc.lt
  go_wp2_with fail
  refine (mTop_c M4.out.C.J M4.out.C.nb).mono ?_
  rintro e w5 ⟨rfl,hk⟩
  have HSZ5 := Lib.hid hk.size
  have M5 := Lib.hid (M4.out.same hk); have HLS5 := Lib.hid (HLS.out.keep hk (fun _ _ h => h))
  clear hk cl HLS
  have q2 := M5.out.C.J.cells.2.2.1; have cl := M5.out.C.J.hc.lt; have fz := M5.out.C.J.hc.free 2
  have q3 := M5.out.C.J.cells.2.2.2.2.2.2.2.2; have pl := M5.out.C.J.hp.lt
  dsimp only at q2 q3
  obtain ⟨gr,og,rcap,ero, -, -, -⟩ := M5.out.rootCells HOK.out.h12
  have HRO := Lib.hid ero
  rw [ero] at q3
  clear ero
  have HA5 := Lib.hid M5.out.C.ok.ok
  have hsto := (M5.out.C.J.setC (O.ar.grn : Int))
  obtain ⟨wv6,ev6,M6',o6⟩ := M5.out.step (M5.out.C.cut hsto ⟨M5.out.C.ok.ok,M5.out.C.ok.ms.more (by dsimp only; omega),by omega,by omega⟩ rfl)
  have M6 := Lib.hid M6'
  have HI6 := Lib.hid ((OwnI.nil h pc O.ar.nur w4.heap.size).step o6 HSZ5.out)
  have HLS6 := Lib.hid (HLS5.out.keep ((Keeps.refl (· = pc) w5).setCell (p := ⟨pc,2,none⟩) (.inl rfl) (.int .i64 (O.ar.grn : Int))) (fun b hb e => by
   obtain ⟨_,l,h'⟩ := HLS5.out.own hb
   exact h'.ne M5.out.C.J.hc (by decide) e))
  clear M6' hsto o6
  dsimp only at M6 HLS6
  go_wp2_with fail
  have HSZ6 := Lib.hid (show w5.heap.size ≤ (w5.setCell ⟨pc,2,none⟩ (.int .i64 (O.ar.grn : Int))).heap.size by simp)
  generalize w5.setCell ⟨pc,2,none⟩ (.int .i64 (O.ar.grn : Int)) = w6 at *
  clear M5 HLS5 q2 q3 cl fz pl MB M4
  go_loopw [65] (fun u wr => ∃ k : Nat,k ≤ 12 ∧ u = .int .i64 k ∧ ∃ wv ev,MC w h wr pc O.ar.nur wv ev h.rv h.wv O.cd (rootsN O.ar O.rt k) O.rg ⟨⟨(mRoots O.ar (O.rt.take k)).1,[],[]⟩,O.ar.grn,O.wt⟩ ∧ OwnI h pc O.ar.nur w4.heap.size wv ev ∧ w4.heap.size ≤ wr.heap.size ∧ Sl wr 3 1 (.slice bo O.ar.things.2.length bc) O.ar.things.2.length (O.ar.things.2.map (Value.int .i64))) (fun u _ => 12 - (intOf u).toNat)
  case atStart => exact ⟨0,Nat.zero_le _,rfl,_,_,M6.out,HI6.out,by have := HSZ5.out; have := HSZ6.out; omega,HLS6.out⟩
  case round =>
   clear M6 HLS6 HI6 ev6 wv6
   obtain ⟨k,hk,rfl,wv,ev,hM,hI,hsz,hls⟩ := hrel
   have M := Lib.hid hM; have HLS := Lib.hid hls; have HI := Lib.hid hI; have HSR := Lib.hid hsz
   clear hM hls hI hsz
   by_cases hlt : k < 12
   ·have hl12 := HOK.out.h12
    have hrl : (rootsN O.ar O.rt k).length = 12 := by rw [rootsN_len (by omega)]; exact hl12
    have hst := rootsN_step (A := O.ar) (rt := O.rt) (k := k) (by omega)
    have hgt := rootsN_get (A := O.ar) (rt := O.rt) (k := k) (by omega)
    have HST := Lib.hid hst
    obtain ⟨gr',og',rcap',ero,hgl,hfz,hcl⟩ := M.out.rootCells hrl
    rw [HRO.out] at ero
    cases ero
    have d0 := hcl k (by omega)
    rw [hgt] at d0
    have q3 := M.out.C.J.cells.2.2.2.2.2.2.2.2; have pl := M.out.C.J.hp.lt
    dsimp only at q3
    rw [HRO.out] at q3
    have hf := hfz (og + k)
    have HFZ := Lib.hid hfz
    clear hst hgt hcl hl12 hfz
    generalize O.rt.getD k 0 = x at *
    go_wp2_with fail
    have MD := Lib.hid (M.out.same ((Keeps.refl (fun _ => False) wr).drew))
    refine wp_region_ro (.free 0 (.free 1 (.free 2 (.free 4 (.free 5 (.free 6 (.pure 3 (.run 7 (.free 8 (.run 9 (.swi [] (.fin)))))))))))) [9] (fun w' => w'.cell? ⟨h.p,3,none⟩ = some (.slice (some ⟨gr,og,none⟩) 12 rcap)) (by kernel_rfl) (by kernel_rfl) q3 ?_
    iterate 7 first | (refine wpRO_free rfl rfl _ (fun w' => by go_simp; exact Gives.mk _ _) (fun K hK => ?_); go_simp; refine hK _ ?_; clear hK K) | (refine wpRO_skipF rfl rfl (fun K hK => ?_); go_simp; refine hK _ ?_; clear hK K) | (refine wpRO_pure rfl rfl _ (fun w' hG => by obtain g0 := hG; exact gives_agg2 rfl (by decide +kernel) rfl (by assumption) (by assumption)) (fun K hK => ?_); go_simp; refine hK _ ?_; clear hK K) | (refine wpRO_pure rfl rfl _ (fun w' hG => by obtain g0 := hG; go_simp; exact Gives.mk _ _) (fun K hK => ?_); go_simp; refine hK _ ?_; clear hK K) | (refine wpRO_skip rfl rfl (fun K hK => ?_); go_simp; refine hK _ ?_; clear hK K)
    refine wpRO_run rfl rfl (fun K hK => ?_); unfold gRun; go_simp
    refine (mBring_c x MD.out.C.J).mono ?_
    rintro e w7 ⟨rfl,t⟩
    have T := Lib.hid t
    have hsm := Sm.bring MD.out.C.ok.ok x
    obtain ⟨wv7,ev7,M7',o7⟩ := MD.out.step (MD.out.C.cut (MD.out.C.J.arenaTo t) (MD.out.C.ok.arena hsm.ok) hsm.nur)
    have M7 := Lib.hid M7'
    have HI7 := Lib.hid (HI.out.step o7 HSR.out)
    have HS7 := Lib.hid (Nat.le_trans HSR.out t.k.size)
    have q3' := M7.out.C.J.cells.2.2.2.2.2.2.2.2
    dsimp only at q3'
    rw [HRO.out] at q3'
    refine hK _ _ (fun _ => q3') ?_
    clear hK K M7' o7 hsm t q3 q3' d0 hgl pl hf
    obtain ⟨gr',og',rcap',ero,hgl,hfz,hcl⟩ := M7.out.rootCells hrl
    rw [HRO.out] at ero
    cases ero
    have d0 := hcl k (by omega)
    have hf := hfz (og + k)
    clear hcl hfz
    iterate 1 first | (refine wpRO_free rfl rfl _ (fun w' => by go_simp; exact Gives.mk _ _) (fun K hK => ?_); go_simp; refine hK _ ?_; clear hK K) | (refine wpRO_skipF rfl rfl (fun K hK => ?_); go_simp; refine hK _ ?_; clear hK K)
    refine wpRO_chg rfl rfl rfl (fun K hK => ?_); unfold gRun; go_simp
    refine hK _ _ ?_
    clear hK K d0 hf
    refine wpRO_swi (fun _ => True) trivial (wpRO_fin ?_)
    have M8 := Lib.hid (M7.out.root (x := mNow (mBring (mRoots O.ar (O.rt.take k)).1 x) x) (by rw [HRO.out,hrl]) (by rw [hrl]; exact hlt))
    have HL8 := Lib.hid (show Sl (w7.setCell ⟨gr,og + k,none⟩ (.int .i64 (mNow (mBring (mRoots O.ar (O.rt.take k)).1 x) x))) 3 1 (.slice bo O.ar.things.2.length bc) O.ar.things.2.length (O.ar.things.2.map (Value.int .i64)) by
     have k1 := (Keeps.refl (fun _ => False) wr).drew
     have h1 := HLS.out.keep k1 (fun _ _ h => h)
     have h2 := h1.keep T.out.k (fun b hb e => MD.out.list_apart HI.out h1 HLT.out hb (.inl (e.elim (fun e => .inr (.inl e)) (fun e => .inr (.inr (.inl e))))))
     refine h2.keep ((Keeps.refl (· = gr) w7).setCell (p := ⟨gr,og + k,none⟩) (.inl rfl) _) (fun b hb e => ?_)
     obtain ⟨_,l,h'⟩ := M7.out.hr.own (k := gr) (by rw [HRO.out]; rfl)
     obtain ⟨_,l2,h3⟩ := h2.own hb
     exact h3.ne h' (by decide) e)
    rw [HST.out.2] at M8
    clear M7 T MD
    go_wp2_with fail
    go_roundw
    case rel => exact ⟨k + 1,hlt,by go_num,_,_,by rw [HST.out.1]; exact M8.out,HI7.out,by have := HS7.out; simpa using this,HL8.out⟩
    case measure => simp [intOf]; omega
   ·obtain rfl : k = 12 := by omega
    have hr12 : rootsN O.ar O.rt 12 = (mRoots O.ar O.rt).2 := by
     unfold rootsN
     rw [List.take_of_length_le (by rw [HOK.out.h12]; exact Nat.le_refl _),List.drop_eq_nil_of_le (by rw [HOK.out.h12]; exact Nat.le_refl _),List.append_nil]
    rw [hr12,List.take_of_length_le (by rw [HOK.out.h12]; exact Nat.le_refl _)] at M
    clear hr12 hlt hk
    obtain ⟨w7,rfl⟩ : ∃ x : World,x = wr := ⟨wr,rfl⟩
    have HLL := Lib.hid (show O.ar.things.2.length ≤ 1300 from Ar.list_len O.ar 1300 _ _)
    have HLB := Lib.hid (show ∀ p ∈ O.ar.things.2,0 ≤ p ∧ p ≤ 1300 from fun p hp => by have := list_bounds O.ar 1300 _ _ p hp; omega)
    obtain ⟨L,hL⟩ : ∃ L,O.ar.things.2 = L := ⟨_,rfl⟩
    have HLE := Lib.hid hL
    rw [hL] at HLS HLL HLB HLT
    obtain ⟨A1,hA1⟩ : ∃ A,(mRoots O.ar O.rt).1 = A := ⟨_,rfl⟩
    have HA1 := Lib.hid hA1
    rw [hA1] at M
    obtain ⟨rt1,hrt1⟩ : ∃ l,(mRoots O.ar O.rt).2 = l := ⟨_,rfl⟩
    have HRT := Lib.hid hrt1
    rw [hrt1] at M
    rw [hL]
    clear hL hA1 hrt1
    have hll := HLL.out
    go_wp2_with fail
    go_loopw [82] (fun u wr => ∃ k : Nat,k ≤ L.length ∧ u = .int .i64 k ∧ ∃ wv ev,MC w h wr pc O.ar.nur wv ev h.rv h.wv O.cd rt1 O.rg ⟨mDirty O.ar.nur O.cd ⟨A1,[],[]⟩ (L.take k),O.ar.grn,O.wt⟩ ∧ MsOk (mDirty O.ar.nur O.cd ⟨A1,[],[]⟩ (L.take k)) k ∧ OwnI h pc O.ar.nur w4.heap.size wv ev ∧ w4.heap.size ≤ wr.heap.size ∧ Sl wr 3 1 (.slice bo L.length bc) L.length (L.map (Value.int .i64))) (fun u _ => L.length - (intOf u).toNat)
    case atStart => exact ⟨0,Nat.zero_le _,rfl,_,_,M.out,⟨by simp [mDirty],(fun i hi => by cases hi),(fun i hi => by cases hi)⟩,HI.out,HSR.out,HLS.out⟩
    case round =>
     clear M HI HSR HLS wv ev
     obtain ⟨k,hk,rfl,wv,ev,hM,hms,hI,hsz,hls⟩ := hrel
     have M := Lib.hid hM; have HLS := Lib.hid hls; have HI := Lib.hid hI; have HSR := Lib.hid hsz; have HMS := Lib.hid hms
     clear hM hls hI hsz hms
     by_cases hlt : k < L.length
     ·obtain ⟨_,_,e',rd, -, -⟩ := HLS.out.rd
      cases e'
      obtain ⟨ge,oe,rfl,d0⟩ := rd.int k hlt
      have hgl := (HLS.out.own rfl).1
      have hin := HLB.out (L.getD k 0) (by rw [List.getD_eq_getElem?_getD,List.getElem?_eq_getElem hlt]; exact List.getElem_mem hlt)
      have HDS := Lib.hid (mDirty_snoc (base := O.ar.nur) (cd := O.cd) (s := ⟨A1,[],[]⟩) hlt)
      have hml := HMS.out.len
      generalize L.getD k 0 = i at *
      obtain ⟨sk,hsk⟩ : ∃ s,mDirty O.ar.nur O.cd ⟨A1,[],[]⟩ (L.take k) = s := ⟨_,rfl⟩
      rw [hsk] at M HMS HDS hml
      clear hsk rd
      have p1 := M.out.C.J.cells.2.2.2.2.2.2.1; have pl := M.out.C.J.hp.lt
      dsimp only at p1
      have hcd := HOK.out.hc
      go_wp2_with fail
      refine (Dirty_c h.pc h.cb O.ar.nur i O.cd wr M.out.hc (by omega) (by omega) (by omega) (by omega) (by omega)).mono ?_
      rintro e w8 ⟨rfl,rfl⟩
      clear p1 pl d0
      cases hdi : dirtyL O.ar.nur O.cd i
      ·have HE := Lib.hid (HDS.out.trans (if_neg (by rw [hdi]; decide)))
       clear hdi HDS
       go_wp2_with fail
       go_roundw
       case rel =>
        (repeat apply Exists.intro)
        exact ⟨⟨k + 1,hlt,by go_num,wv,ev,by rw [HE.out]; exact M.out,by rw [HE.out]; exact HMS.out.more (by omega),HI.out,HSR.out,HLS.out⟩,rfl⟩
       case measure => simp [intOf]; omega
      ·have HE := Lib.hid (HDS.out.trans (if_pos hdi))
       clear hdi HDS
       go_wp2_with fail
       refine (mLook_c i M.out.C.J hin.1 hin.2 (by dsimp only; have := HLL.out; omega)).mono ?_
       rintro e w8 ⟨rfl,t⟩
       have hml2 := (HMS.out.look hin.1 hin.2)
       have HMS2 := Lib.hid hml2
       have hsm := Sm.look M.out.C.ok.ok i
       obtain ⟨_,_,_,kt,_⟩ := id t
       have HL8 := Lib.hid (HLS.out.keep kt (fun b hb ho => M.out.list_apart HI.out HLS.out HLT.out hb (.inl ho)))
       obtain ⟨wv8,ev8,M8',o8⟩ := M.out.step (M.out.C.cut t ⟨hsm.ok,hml2.more (by have := HLL.out; dsimp only; omega),by dsimp only; omega,by dsimp only; omega⟩ hsm.nur)
       have M8 := Lib.hid M8'
       have HI8 := Lib.hid (HI.out.step o8 HSR.out)
       have HS8 := Lib.hid (Nat.le_trans HSR.out kt.size)
       clear t kt hml2 hsm M8' o8
       go_wp2_with fail
       go_roundw
       case rel =>
        (repeat apply Exists.intro)
        exact ⟨⟨k + 1,hlt,by go_num,wv8,ev8,by rw [HE.out]; exact M8.out,by rw [HE.out]; exact HMS2.out.more (by omega),HI8.out,HS8.out,HL8.out⟩,rfl⟩
       case measure => simp [intOf]; omega
     ·obtain rfl : k = L.length := by omega
      rw [List.take_length] at M
      clear HMS HLS hlt hk
      have HPRE := Lib.hid (show mPre O = mDrain 2000 ⟨mDirty O.ar.nur O.cd ⟨A1,[],[]⟩ L,O.ar.grn,O.wt⟩ by unfold mPre; rw [HLE.out,HA1.out])
      go_wp2_with fail
      refine (mDrain_c M.out.C).mono ?_
      rintro e w8 ⟨rfl,t⟩
      obtain ⟨wv8,ev8,M8', -⟩ := M.out.step t
      rw [← HPRE.out] at M8'
      have M8 := Lib.hid M8'
      clear t M8' M
      have p2 := M8.out.C.J.cells.2.2.2.2.2.2.2.1; have pl := M8.out.C.J.hp.lt
      dsimp only at p2
      go_wp2_with fail
      refine wp_region_ro (.free 0 (.free 1 (.free 2 (.free 4 (.pure 3 (.run 5 (.run 6 (.swi [] (.fin))))))))) [6] (fun w' => w'.cell? ⟨h.p,2,none⟩ = some (.pointer (some ⟨h.ps,0,none⟩))) (by kernel_rfl) (by kernel_rfl) p2 ?_
      iterate 5 first | (refine wpRO_free rfl rfl _ (fun w' => by go_simp; exact Gives.mk _ _) (fun K hK => ?_); go_simp; refine hK _ ?_; clear hK K) | (refine wpRO_skipF rfl rfl (fun K hK => ?_); go_simp; refine hK _ ?_; clear hK K) | (refine wpRO_pure rfl rfl _ (fun w' hG => by obtain g0 := hG; exact gives_agg2 rfl (by decide +kernel) rfl (by assumption) (by assumption)) (fun K hK => ?_); go_simp; refine hK _ ?_; clear hK K) | (refine wpRO_pure rfl rfl _ (fun w' hG => by obtain g0 := hG; go_simp; exact Gives.mk _ _) (fun K hK => ?_); go_simp; refine hK _ ?_; clear hK K) | (refine wpRO_skip rfl rfl (fun K hK => ?_); go_simp; refine hK _ ?_; clear hK K)
      refine wpRO_run rfl rfl (fun K hK => ?_); unfold gRun; go_simp
      refine (mSaved_c (M8.out.same ((Keeps.refl (fun _ => False) w8).drew)).C.J).mono ?_
      rintro e w9 ⟨b,rfl,hb,hk,hlo⟩
      have M9 := Lib.hid (M8.out.same ((Keeps.refl (fun _ => False) w8).drew.trans hk))
      have HB9 := Lib.hid hb; have HLO9 := Lib.hid (show w8.heap.size ≤ b from hlo)
      have p2' := M9.out.C.J.cells.2.2.2.2.2.2.2.1
      dsimp only at p2'
      refine hK _ _ (fun _ => p2') ?_
      clear hK K hb hk hlo p2 p2' pl
      skip
      refine wpRO_chg rfl rfl rfl (fun K hK => ?_); unfold gRun; go_simp
      have hq24 := HOK.out.hq
      refine (Settle_c h.ps (mSettleL ⟨h.p,h.pa,h.g,h.pc,h.ps,h.ro,pc,O.ar.nur⟩ b) ((mPre O).s,(mPre O).c) (fun k => (CH.mk h.p h.pa h.g h.pc h.ps h.ro pc O.ar.nur).Own wv8 ev8 k ∨ k = b) h.rv h.wv O.rg (mPre O).q w9 ⟨wv8,ev8,M9.out.C.J,M9.out.C.ok,M9.out.C.nb,HB9.out,rfl⟩ M9.out.C.S (fun k hk => by
       rcases hk with ⟨h1 | h1,h2⟩
       ·exact M9.out.C.J.side_apart M9.out.C.S h1 h2
       ·subst h1
        obtain ⟨_,U,h3,hU⟩ := M9.out.C.S.fp_type h2
        refine HB9.out.ne h3 ?_ rfl
        rcases hU with rfl | rfl <;> decide) (by omega) (by rw [HPRE.out,mDrain_len]; dsimp only; omega) (fun e he => HOK.out.hg e he) (fun e he => M9.out.C.q e he)).mono ?_
      rintro e w10 ⟨rfl,F',rv',qv',⟨wv',ev',hJ',hsc,hnb,hb',rfl⟩,hS', -,hk', -,hsf⟩
      refine hK _ _ ?_
      clear hK K
      refine wpRO_swi (fun _ => True) trivial (wpRO_fin ?_)
      have HPS := Lib.hid (show passM (mSettleL ⟨h.p,h.pa,h.g,h.pc,h.ps,h.ro,pc,O.ar.nur⟩ b).alive (mSettleL ⟨h.p,h.pa,h.g,h.pc,h.ps,h.ro,pc,O.ar.nur⟩ b).keep ((mPre O).s,(mPre O).c) O.rg (mPre O).q = mPass O from rfl)
      rw [HPS.out] at hJ' hsc hnb hS'
      have M10 := Lib.hid (show ME w h w10 pc O.ar.nur wv' ev' rv' qv' O.cd rt1 (newRegs mtAlive mtNow (mPass O).1 (mPass O).2.2) (newWait mtAlive mtNow (mPass O).1 (mPass O).2.1) (mPass O).1.1 (mPass O).1.2 by
       have hne : ∀ {k : Nat} {l : List Value} {T : TypeId},Blk w9 k l T → T ≠ 171 → ¬ ((CH.mk h.p h.pa h.g h.pc h.ps h.ro pc O.ar.nur).Own wv8 ev8 k ∨ SideFp h.ps h.rv h.wv k) → ¬ (((CH.mk h.p h.pa h.g h.pc h.ps h.ro pc O.ar.nur).Own wv8 ev8 k ∨ k = b) ∨ SideFp h.ps h.rv h.wv k) := fun hb hT hn hx => by
        rcases hx with (h1 | h1) | h1
        ·exact hn (.inl h1)
        ·subst h1; exact hb.ne HB9.out hT rfl
        ·exact hn (.inr h1)
       have M := M9.out
       refine ⟨hJ',hS',M.hc.keep hk' (hne M.hc.hp (by decide) (M.type M.hc.hp (by decide))) (hne M.hc.hq (by decide) (M.type M.hc.hq (by decide))),M.hr.keep hk' (fun k hk => ?_),M.ap,M.K.then hk' (fun k hk => ?_),fun k hk => ?_⟩
       ·obtain ⟨_,l,h'⟩ := M.hr.own hk
        exact hne h' (by decide) (M.roots_ne hk)
       ·rcases hk with (h1 | h1) | h1
        ·exact M.own k (.inl h1)
        ·subst h1; exact .inr (Nat.le_trans M8.out.K.size HLO9.out)
        ·exact M.own k (.inr h1)
       ·rcases hsf k hk with h1 | h1
        ·exact M.own k (.inr h1)
        ·exact .inr (Nat.le_trans M.K.size h1))
      have HSC := Lib.hid (show ScOk (mPass O).1.1 (mPass O).1.2 from hsc)
      have HNB := Lib.hid (show (O.ar.nur : Int) = (mPass O).1.1.A.nur from hnb)
      clear hJ' hsc hnb hb' hS' hk' hsf HPS M8 M9
      go_wp2_with fail
      refine (mGone_c M10.out.J (HSC.out.ms.more (by have := HSC.out.c1; omega))).mono ?_
      rintro e w11 ⟨rfl,t⟩
      have M11 := Lib.hid (M10.out.arena t)
      clear t M10
      have p1 := M11.out.J.cells.2.2.2.2.2.2.1; have pl := M11.out.J.hp.lt
      dsimp only at p1
      go_wp2_with fail
      refine (Clear_c h.pc h.cb O.ar.nur O.cd w11 M11.out.hc).mono ?_
      rintro e w12 ⟨rfl,hc,hk⟩
      have M12 := Lib.hid (M11.out.cards hc hk)
      clear hc hk p1 pl M11
      have p0 := M12.out.J.cells.2.2.2.2.2.1; have pl := M12.out.J.hp.lt
      dsimp only at p0
      go_wp2_with fail
      refine (AClear_c w12 M12.out.J.ha).mono ?_
      rintro e w13 ⟨rfl,t⟩
      have M13 := Lib.hid (M12.out.arena t)
      clear t M12 p0 pl
      have HE := Lib.hid (show mCut O = (0,⟨(mGone (mPass O).1.1).clear,List.replicate O.cd.length false,rt1,newRegs mtAlive mtNow (mPass O).1 (mPass O).2.2,newWait mtAlive mtNow (mPass O).1 (mPass O).2.1⟩) by
       unfold mCut
       rw [if_neg (by have := HF.out; omega),HRT.out]
       congr 2
       simp [List.eq_replicate_iff])
      have HRM := Lib.hid (HR.out.minor.2)
      go_wp2_with fail
      go_ret
      refine ⟨by rw [HE.out]; rfl, ?_⟩
      obtain ⟨ψ,R'⟩ := HRM.out
      have hok' := R'.ho
      rw [HE.out] at hok' ⊢
      refine M13.out.done ?_ hok'
      rw [HNB.out]
      have := (Sm.gone HSC.out.ok).nur
      show ((mPass O).1.1.A.nur : Int) = ((mGone (mPass O).1.1).clear.nur : Int)
      rw [← this]; rfl
end
end Go.Proofs.Ytjifdalflepcoab
namespace Go.Proofs.Ytjifdalflepcoab
open Go.RowKit
set_option linter.unusedVariables false
set_option linter.unusedSimpArgs false
def mB1 : Wo := (woC (Wo.new 16 8) 0 1 2 1 0).2
theorem mb1 : (mCut mB1).1 = 0 := by decide +kernel
theorem mb2 : (mCut mB1).2.ar.yng = 0 := by decide +kernel
theorem mb3 : (mCut mB1).2.ar.grn - (mCut mB1).2.ar.nur = 3 := by decide +kernel
theorem mb4 : (mCut mB1).2.view.2.length = 1 := by decide +kernel
theorem rootN0 : rootN 0 = 0 := by decide +kernel
theorem rootN1 : rootN 1 = 1 := by decide +kernel
section
variable {w w' : World} {h : BH} {O O' : Wo} {W W' : Wd}
set_option maxHeartbeats 16000000 in
set_option maxRecDepth 100000 in
theorem bothDoX_c (d xa xb xc : Int) (B : BothAt w h O W) (hd : d < 0 ∨ 5 < d) (hb : R64 xa) :
  Calls Try.prog 74 #[.pointer (some ⟨h.p,0,none⟩), .agg #[.int .i64 d, .int .i64 xa, .int .i64 xb, .int .i64 xc]] w (BothDoRet w h O W d xa xb (rootN xa) (rootN xc)) := by
 have e0 : (d == 0) = false := by simp; omega
 have e1 : (d == 1) = false := by simp; omega
 have e2 : (d == 2) = false := by simp; omega
 have e3 : (d == 3) = false := by simp; omega
 have e4 : (d == 4) = false := by simp; omega
 have e5 : (d == 5) = false := by simp; omega
 have HWO := Lib.hid (show woC O d xa xb (rootN xa) (rootN xc) = (0,O) by unfold woC; repeat (rw [if_neg (by omega)]))
 have HWD := Lib.hid (show wdC W d xa xb (rootN xa) (rootN xc) = (0,W) by unfold wdC; repeat (rw [if_neg (by omega)]))
 clear hd
 have HBW := Lib.hid B
 have ka := (Keeps.refl (fun _ => False) w).alloc (.cells #[.int .i64 d, .int .i64 xa, .int .i64 xb, .int .i64 xc] 112)
 have hs : Blk (w.alloc (.cells #[.int .i64 d, .int .i64 xa, .int .i64 xb, .int .i64 xc] 112)) w.heap.size [.int .i64 d, .int .i64 xa, .int .i64 xb, .int .i64 xc] 112 := Blk.newAt _ rfl rfl
 have HB1 := Lib.hid (B.same ka); have SB := Lib.hid hs; have K1 := Lib.hid ka; have HBB := Lib.hid hb
 clear ka hs B hb
 go_enter Try.func74,Try.ntmps74
 go_wp2_with fail
 generalize w.alloc (.cells #[.int .i64 d, .int .i64 xa, .int .i64 xb, .int .i64 xc] 112) = w1 at *
 generalize w.heap.size = sb at *
 have s0 := SB.out.cell 0; have s1 := SB.out.cell 1; have s2 := SB.out.cell 2; have s3 := SB.out.cell 3; have sl := SB.out.lt
 simp only [List.getElem?_cons_zero,List.getElem?_cons_succ] at s0 s1 s2 s3
 refine wp_region_ro (.free 0 (.free 3 (.pure 1 (.pure 4 (.run 2 (.run 5 (.swi [] (.free 6 (.free 7 (.fin)))))))))) [5,6,7] (fun w' => w'.cell? ⟨sb,1,none⟩ = some (.int .i64 xa) ∧ w'.cell? ⟨sb,3,none⟩ = some (.int .i64 xc)) (by kernel_rfl) (by kernel_rfl) ⟨s1,s3⟩ ?_
 iterate 4 first | (refine wpRO_free rfl rfl _ (fun w' => by go_simp; exact Gives.mk _ _) (fun K hK => ?_); go_simp; refine hK _ ?_; clear hK K) | (refine wpRO_skipF rfl rfl (fun K hK => ?_); go_simp; refine hK _ ?_; clear hK K) | (refine wpRO_pure rfl rfl _ (fun w' hG => by obtain ⟨s1,s3⟩ := hG; exact gives_agg2 rfl (by decide +kernel) rfl (by assumption) (by assumption)) (fun K hK => ?_); go_simp; refine hK _ ?_; clear hK K) | (refine wpRO_pure rfl rfl _ (fun w' hG => by obtain ⟨s1,s3⟩ := hG; go_simp; exact Gives.mk _ _) (fun K hK => ?_); go_simp; refine hK _ ?_; clear hK K) | (refine wpRO_skip rfl rfl (fun K hK => ?_); go_simp; refine hK _ ?_; clear hK K)
 refine wpRO_run rfl rfl (fun K hK => ?_); unfold gRun; go_simp
 refine (Root_c xa _).mono ?_
 rintro e w2 ⟨rfl,rfl⟩
 refine hK _ _ (fun hg => hg) ?_
 clear hK K
 refine wpRO_chg rfl rfl rfl (fun K hK => ?_); unfold gRun; go_simp
 refine (Root_c xc _).mono ?_
 rintro e w2 ⟨rfl,rfl⟩
 refine hK _ _ ?_
 clear hK K
 refine wpRO_swi (fun _ => True) trivial ?_
 iterate 2 first | (refine wpRO_free rfl rfl _ (fun w' => by go_simp; exact Gives.mk _ _) (fun K hK => ?_); go_simp; refine hK _ ?_; clear hK K) | (refine wpRO_skipF rfl rfl (fun K hK => ?_); go_simp; refine hK _ ?_; clear hK K)
 refine wpRO_fin ?_
 have ha12 := rootN_lt xa; have hc12 := rootN_lt xc
 generalize rootN xa = a at *
 generalize rootN xc = c at *
 have HB2 := Lib.hid (HB1.out.same ((Keeps.refl (fun _ => False) w1).drew)); have K2 := Lib.hid (K1.out.drew); have SB2 := Lib.hid (show Blk w1.drew sb _ _ from SB.out.drew)
 clear s0 s1 s2 s3 sl HB1 K1 SB
 generalize w1.drew = w2 at *
 have s0 := SB2.out.cell 0; have s1 := SB2.out.cell 1; have s2 := SB2.out.cell 2; have s3 := SB2.out.cell 3; have sl := SB2.out.lt
 simp only [List.getElem?_cons_zero,List.getElem?_cons_succ] at s0 s1 s2 s3
 have b0 := HB2.out.hp.cell 0; have b1 := HB2.out.hp.cell 1; have bl := HB2.out.hp.lt
 simp only [List.getElem?_cons_zero,List.getElem?_cons_succ] at b0 b1
 have hor12 := HB2.out.H.ok.h12
 obtain ⟨g,o,cap,hro,hown,hgl,q3,fz,rcs⟩ := HB2.out.H.roots
 obtain ⟨q0,q1,q2, -⟩ := HB2.out.H.ptrs
 have ra := rcs a (by omega); have rc := rcs c (by omega)
 have fc := fz (o + c)
 rw [hor12] at q3 hro
 have HRO := Lib.hid hro; have HOWN := Lib.hid hown; have HO12 := Lib.hid hor12; have HFZ := Lib.hid fz; have HRCS := Lib.hid rcs
 have ql := HB2.out.H.hp.lt
 clear hro hown hor12 fz rcs
 have yl : (O.ar.yng : Int) ≤ 1280 := by have := HB2.out.H.ok.ha.h1; have := HB2.out.H.ok.ha.h2; have := HB2.out.H.ok.ha.h3; have := HB2.out.H.ok.ha.h4; omega
 have ha12i : (a : Int) < 12 := by omega
 have hc12i : (c : Int) < 12 := by omega
 clear q0 q1 q2 q3 ql ra rc b0 b1 bl hgl fc
 go_wp2_with fail
 go_ret
 unfold BothDoRet
 rw [HWO.out,HWD.out]
 exact ⟨rfl,BothTo.same HBW.out K2.out⟩
theorem bothDo_c (d xa xb xc : Int) (B : BothAt w h O W) (hT : W.T.length ≤ 90000) (ha : R64 xa) (hb : R64 xb) :
  Calls Try.prog 74 #[.pointer (some ⟨h.p,0,none⟩), .agg #[.int .i64 d, .int .i64 xa, .int .i64 xb, .int .i64 xc]] w (BothDoRet w h O W d xa xb (rootN xa) (rootN xc)) := by
 rcases (by omega : d = 0 ∨ d = 1 ∨ d = 2 ∨ d = 3 ∨ d = 4 ∨ d = 5 ∨ (d < 0 ∨ 5 < d)) with rfl | rfl | rfl | rfl | rfl | rfl | hd
 ·exact bothDo0_c xa xb xc B hT hb
 ·exact bothDo1_c xa xb xc B hb
 ·exact bothDo2_c xa xb xc B hb
 ·exact bothDo3_c xa xb xc B ha
 ·exact bothDo4_c xa xb xc B ha
 ·exact bothDo5_c xa xb xc B ha
 ·exact bothDoX_c d xa xb xc B hd ha
end
section
variable {w0 w w' : World} {p : Nat} {h : BH} {O O' : Wo} {W W' : Wd}
theorem BM.pc (M : BM w0 w p h O W) : w.cell? ⟨p,0,none⟩ = some (.pointer (some ⟨h.a.p,0,none⟩)) ∧ w.cell? ⟨p,1,none⟩ = some (.pointer (some ⟨h.b.p,0,none⟩)) ∧ p < w.heap.size := by
 have := M.B.pcells
 rw [M.e] at this
 exact this
theorem BM.do_c (M : BM w0 w p h O W) (d xa xb xc : Int) (hT : W.T.length ≤ 90000) (ha : R64 xa) (hb : R64 xb) :
  Calls Try.prog 74 #[.pointer (some ⟨p,0,none⟩), .agg #[.int .i64 d, .int .i64 xa, .int .i64 xb, .int .i64 xc]] w (BothDoRet w h O W d xa xb (rootN xa) (rootN xc)) := by
 have := bothDo_c d xa xb xc M.B hT ha hb
 rw [M.e] at this
 exact this
theorem BM.wood (M : BM w0 w p h O W) (t : WoodTo w h.a w' O') : ∃ h',BM w0 w' p h' O' W := M.to (BothTo.wood M.B t)
set_option maxHeartbeats 16000000 in
set_option maxRecDepth 100000 in
theorem minorBegun_c (w : World) : Calls Try.prog 72 #[] w fun e w' => e = .returned (.bool true) ∧ Keeps (fun _ => False) w w' := by
 have hfit : Ar.fits 16 8 = true := by decide
 have HFIT := Lib.hid hfit
 go_enter Try.func72,Try.ntmps72
 go_wp2_with fail
 refine (start_yes 16 8 w hfit).mono ?_
 rintro e w1 ⟨h,rfl,B1,k1,o1⟩
 have M1 := Lib.hid (show BM w w1 h.p h _ _ from ⟨B1,rfl,k1,o1⟩)
 have R1 := Lib.hid (Rep.new HFIT.out)
 have hdo := M1.out.do_c 0 1 2 0 (by simp [Wd.new]) (by unfold R64; decide) (by unfold R64; decide)
 rw [rootN0,rootN1] at hdo
 have hcs := R1.out.cs 0 1 2 (a := 1) (c := 0) (by decide) (by decide)
 have hmb : (woC (Wo.new 16 8) 0 1 2 1 0).2 = mB1 := rfl
 have hdd := decide_eq_true hcs.1
 unfold BothDoRet at hdo
 rw [hdd,hmb] at hdo
 rw [hmb] at hcs
 obtain ⟨-,ψ,hR2⟩ := hcs
 have R2 := Lib.hid hR2
 have HDO := Lib.hid hdo
 clear B1 k1 o1 hfit hdo hdd hmb hR2
 generalize h.p = p at *
 generalize (wdC (Wd.new 16 8) 0 1 2 1 0).2 = W1 at *
 go_wp2_with fail
 refine HDO.out.mono ?_
 rintro e w2 ⟨rfl,ht⟩
 obtain ⟨h2,hM2⟩ := M1.out.to ht
 have M2 := Lib.hid hM2
 obtain ⟨c0,c1,pl⟩ := hM2.pc
 clear ht hM2 M1 HDO R1 HFIT
 go_wp2_with fail
 refine (minorCut_c R2.out M2.out.B.H).mono ?_
 rintro e w3 ⟨rfl,ht⟩
 obtain ⟨h3,hM3⟩ := M2.out.wood ht
 have M3 := Lib.hid hM3
 obtain ⟨c0,c1,pl⟩ := hM3.pc
 have q0 := hM3.B.H.ptrs.1; have ql := hM3.B.H.hp.lt
 rw [mb1]
 clear ht hM3 M2 R2
 go_wp2_with fail
 refine (Used_c _ M3.out.B.H.ha).mono ?_
 rintro e w4 ⟨rfl,hk⟩
 have M4 := Lib.hid (M3.out.same hk)
 rw [mb2,mb3]
 clear c0 c1 pl q0 ql hk M3
 obtain ⟨c0,c1,pl⟩ := M4.out.pc
 go_wp2_with fail
 refine (View_c _ M4.out.B.H).mono ?_
 rintro e w5 ⟨v,rfl,⟨ro,rc,no,nc,F,rfl, -, -, -⟩,hk⟩
 have K5 := Lib.hid (M4.out.K.trans hk)
 rw [mb4]
 generalize (mCut mB1).2.view.1.length = vl at *
 have hfd : ∀ w : World,(Instr.field 72 (.agg #[.slice ro vl rc, .slice no 1 nc]) 1).run Try.prog w = .ok (.slice no 1 nc) w := fun _ => by kernel_rfl
 clear c0 c1 pl hk M4
 go_wp2_with fail
 go_ret
 exact ⟨rfl,K5.out⟩
end
end Go.Proofs.Ytjifdalflepcoab
namespace Go.Proofs.Ytjifdalflepcoab
set_option linter.unusedVariables false
set_option linter.unusedSimpArgs false
section
variable {O : Wo} {W : Wd} {φ : Int → Int}
theorem setR_len (W : Wd) (r : Int) (v : Vl) : (W.setR r v).T.length = W.T.length := rfl
theorem setF_len (W : Wd) (i : Int) (fs : List Vl) : (W.setF i fs).T.length = W.T.length := by simp [Wd.setF]
theorem wdC_len (W : Wd) (d xa b : Int) {a c : Nat} (ha : a < 12) (hc : c < 12) : (wdC W d xa b a c).2.T.length ≤ W.T.length + 1 := by
 unfold wdC
 by_cases d0 : d = 0
 ·rw [if_pos d0]
  unfold Wd.fresh
  split
  ·simp [Wd.put]
  ·simp
 rw [if_neg d0]
 by_cases d1 : d = 1
 ·rw [if_pos d1]
  unfold Wd.do
  rw [if_pos (check12 ha hc b)]
  show (W.set _).2.T.length ≤ _
  unfold Wd.set
  split
  ·rw [setF_len]; omega
  ·dsimp only; omega
 rw [if_neg d1]
 by_cases d2 : d = 2
 ·rw [if_pos d2]
  unfold Wd.do
  rw [if_pos (check11 ha hc b)]
  show (W.get _).2.T.length ≤ _
  unfold Wd.get
  split
  ·rw [setR_len]; omega
  ·dsimp only; omega
 rw [if_neg d2]
 by_cases d3 : d = 3
 ·rw [if_pos d3]
  unfold Wd.do
  split
  ·show (W.setR _ _).T.length ≤ _
   rw [setR_len]; omega
  ·dsimp only; omega
 rw [if_neg d3]
 by_cases d4 : d = 4
 ·rw [if_pos d4]
  unfold Wd.do
  rw [if_pos (check2 hc)]
  show (W.setR _ _).T.length ≤ _
  rw [setR_len]; omega
 rw [if_neg d4]
 by_cases d5 : d = 5
 ·rw [if_pos d5]
  unfold Wd.do
  rw [if_pos (check9 ha hc)]
  show (W.reg _).2.T.length ≤ _
  unfold Wd.reg
  split
  ·dsimp only; omega
  ·split <;> (dsimp only; omega)
 rw [if_neg d5]
 dsimp only; omega
end
end Go.Proofs.Ytjifdalflepcoab
namespace Go.Proofs.Ytjifdalflepcoab
open Go.RowKit
set_option linter.unusedVariables false
set_option linter.unusedSimpArgs false
def NoneW (h : Int) (k n : Nat) : Prop := ∀ (i j : Nat),(i < k ∨ i = k ∧ j < n) → fitsW i j = true → 16 * (j : Int) + i ≠ h
theorem NoneW.all {h : Int} (hn : NoneW h 6 0) : partsW h = (0,0,7) := by
 apply partsW_no
 cases hf : fitsW (h % 16) (h / 16)
 ·rfl
 ·have hb := fitsW_spec hf
  have := hn (h % 16).toNat (h / 16).toNat (.inl (by omega)) (by
   rw [Int.toNat_of_nonneg (by omega),Int.toNat_of_nonneg (by omega)]; exact hf)
  exfalso; apply this
  rw [Int.toNat_of_nonneg (by omega),Int.toNat_of_nonneg (by omega)]; omega
theorem NoneW.next {h : Int} {k n : Nat} (hn : NoneW h k n) (hx : fitsW k n = true → 16 * (n : Int) + k ≠ h) : NoneW h k (n + 1) := by
 intro i j hij hf
 by_cases e : i = k ∧ j = n
 ·obtain ⟨rfl,rfl⟩ := e; exact hx hf
 ·exact hn i j (by omega) hf
theorem NoneW.row {h : Int} {k : Nat} (hn : NoneW h k 13) : NoneW h (k + 1) 0 := by
 intro i j hij hf
 have := fitsW_spec hf
 exact hn i j (by omega) hf
end Go.Proofs.Ytjifdalflepcoab
namespace Go.Proofs.Ytjifdalflepcoab
open Go.RowKit
set_option linter.unusedVariables false
set_option linter.unusedSimpArgs false
structure RoomAt (w : World) (p g : Nat) (A : Ar) : Prop where
 hp : Blk w p [.slice (some ⟨g,0,none⟩) A.ws.length A.ws.length, .int .i64 A.nur, .int .i64 A.yng, .int .i64 ((A.grn - A.nur : Nat) : Int)] 44
 hg : Blk w g (A.ws.map (Value.int .i64)) 2
 ok : A.ok
theorem RoomAt.ne {w : World} {p g : Nat} {A : Ar} (h : RoomAt w p g A) : p ≠ g := h.hp.ne h.hg (by decide)
theorem RoomAt.keep {w w' : World} {p g : Nat} {A : Ar} {S : Nat → Prop} (h : RoomAt w p g A) (k : Keeps S w w') (h1 : ¬ S p) (h2 : ¬ S g) : RoomAt w' p g A :=
 ⟨k.blk h.hp h1,k.blk h.hg h2,h.ok⟩
theorem RoomAt.cells {w : World} {p g : Nat} {A : Ar} (h : RoomAt w p g A) :
  w.cell? ⟨p,0,none⟩ = some (.slice (some ⟨g,0,none⟩) A.ws.length A.ws.length) ∧ w.cell? ⟨p,1,none⟩ = some (.int .i64 A.nur) ∧ w.cell? ⟨p,2,none⟩ = some (.int .i64 A.yng) ∧ w.cell? ⟨p,3,none⟩ = some (.int .i64 ((A.grn - A.nur : Nat) : Int)) :=
 ⟨h.hp.cell 0,h.hp.cell 1,h.hp.cell 2,h.hp.cell 3⟩
theorem RoomAt.word {w : World} {p g : Nat} {A : Ar} (h : RoomAt w p g A) (i : Nat) (hi : i < A.ws.length) : w.cell? ⟨g,i,none⟩ = some (.int .i64 (A.ws.getD i 0)) := by
 rw [h.hg.cell i,List.getElem?_map,List.getElem?_eq_getElem hi]
 simp [List.getD,hi]
structure RoomTo (w : World) (p g : Nat) (w' : World) (A : Ar) : Prop where
 at_ : RoomAt w' p g A
 k : Keeps (fun b => b = p ∨ b = g) w w'
section
variable {p g : Nat} {A : Ar}
end
end Go.Proofs.Ytjifdalflepcoab
namespace Go.Proofs.Ytjifdalflepcoab
open Go.RowKit
set_option linter.unusedVariables false
set_option linter.unusedSimpArgs false
section
variable {p g : Nat} {A : Ar}
theorem RoomTo.refl {w w' : World} (h : RoomAt w p g A) (k : Keeps (fun _ => False) w w') : RoomTo w p g w' A := ⟨h.keep k (fun h => h) (fun h => h),k.self⟩
end
def faultM (n o : Int) : Int × Int := if Ar.fits n o = true then (0,0) else (1, -1)
set_option maxHeartbeats 2000000 in
set_option maxRecDepth 100000 in
theorem F_c (a b : Int) (w : World) :
  Calls Try.prog 81 #[.int .i64 a, .int .i64 b] w fun e w' => e = .returned (.agg #[.int .i64 a, .int .i64 b]) ∧ Keeps (fun _ => False) w w' := by
 go_enter Try.func81,Try.ntmps81
 go_wp2_with fail
 exact bodyPost_ret (v := .agg #[.int .i64 a, .int .i64 b]) (by simp [results,Try.results81,go_sem]) rfl ⟨rfl,(Keeps.refl _ _).alloc _⟩
set_option maxHeartbeats 2000000 in
set_option maxRecDepth 100000 in
theorem RoomFault_c (n o : Int) (w : World) :
  Calls Try.prog 20 #[.int .i64 n, .int .i64 o] w fun e w' => e = .returned (.agg #[.int .i64 (faultM n o).1, .int .i64 (faultM n o).2]) ∧ Keeps (fun _ => False) w w' := by
 cases hf : Ar.fits n o
 ·have HE := Lib.hid (show faultM n o = (1, -1) by unfold faultM; rw [hf]; rfl)
  have hc : n < 16 ∨ 256 < n ∨ o < 0 ∨ 1024 < o := by
   by_cases h1 : 16 ≤ n
   ·by_cases h2 : n ≤ 256
    ·by_cases h3 : 0 ≤ o
     ·by_cases h4 : o ≤ 1024
      ·simp [Ar.fits,h1,h2,h3,h4] at hf
      ·omega
     ·omega
    ·omega
   ·omega
  clear hf
  by_cases c1 : n < 16
  ·have d1 : decide (n < 16) = true := by simpa using c1
   clear hc
   go_enter Try.func20,Try.ntmps20
   go_wp2_with fail
   refine (F_c 1 (-1) _).mono ?_
   rintro e w1 ⟨rfl,hk⟩
   have hka := (Keeps.refl (fun _ => False) w).alloc (.cells #[.int .i64 0, .int .i64 0] 26)
   have hb := hk.blk (show Blk (w.alloc (.cells #[.int .i64 0, .int .i64 0] 26)) w.heap.size [.int .i64 0, .int .i64 0] 26 from Blk.newAt _ rfl rfl) (fun h => h)
   have HKA := Lib.hid (hka.trans hk); have HB := Lib.hid hb
   have l0 := hb.cell 0; have l1 := hb.cell 1; have ll := hb.lt; have f0 := hb.free 0; have f1 := hb.free 1
   simp only [List.getElem?_cons_zero,List.getElem?_cons_succ] at l0 l1
   clear hk hka hb
   go_wp2_with fail
   have hb3 := (HB.out.setSame 0 (.int .i64 1)).setSame 1 (.int .i64 (-1))
   have x0 := hb3.cell 0; have x1 := hb3.cell 1
   simp only [List.set_cons_zero,List.set_cons_succ,List.getElem?_cons_zero,List.getElem?_cons_succ] at x0 x1
   refine bodyPost_ret (v := .agg #[.int .i64 1, .int .i64 (-1)]) (by simp [results,Try.results20,go_sem,x0,x1]) rfl ⟨by rw [HE.out], ?_⟩
   exact (HKA.out.setCell (p := ⟨w.heap.size,0,none⟩) (.inr (Nat.le_refl _)) _).setCell (p := ⟨w.heap.size,1,none⟩) (.inr (Nat.le_refl _)) _
  have d1 : decide (n < 16) = false := by simpa using c1
  by_cases c2 : 256 < n
  ·have d2 : decide (256 < n) = true := by simpa using c2
   clear hc
   go_enter Try.func20,Try.ntmps20
   go_wp2_with fail
   refine (F_c 1 (-1) _).mono ?_
   rintro e w1 ⟨rfl,hk⟩
   have hka := (Keeps.refl (fun _ => False) w).alloc (.cells #[.int .i64 0, .int .i64 0] 26)
   have hb := hk.blk (show Blk (w.alloc (.cells #[.int .i64 0, .int .i64 0] 26)) w.heap.size [.int .i64 0, .int .i64 0] 26 from Blk.newAt _ rfl rfl) (fun h => h)
   have HKA := Lib.hid (hka.trans hk); have HB := Lib.hid hb
   have l0 := hb.cell 0; have l1 := hb.cell 1; have ll := hb.lt; have f0 := hb.free 0; have f1 := hb.free 1
   simp only [List.getElem?_cons_zero,List.getElem?_cons_succ] at l0 l1
   clear hk hka hb
   go_wp2_with fail
   have hb3 := (HB.out.setSame 0 (.int .i64 1)).setSame 1 (.int .i64 (-1))
   have x0 := hb3.cell 0; have x1 := hb3.cell 1
   simp only [List.set_cons_zero,List.set_cons_succ,List.getElem?_cons_zero,List.getElem?_cons_succ] at x0 x1
   refine bodyPost_ret (v := .agg #[.int .i64 1, .int .i64 (-1)]) (by simp [results,Try.results20,go_sem,x0,x1]) rfl ⟨by rw [HE.out], ?_⟩
   exact (HKA.out.setCell (p := ⟨w.heap.size,0,none⟩) (.inr (Nat.le_refl _)) _).setCell (p := ⟨w.heap.size,1,none⟩) (.inr (Nat.le_refl _)) _
  have d2 : decide (256 < n) = false := by simpa using c2
  by_cases c3 : o < 0
  ·have d3 : decide (o < 0) = true := by simpa using c3
   clear hc
   go_enter Try.func20,Try.ntmps20
   go_wp2_with fail
   refine (F_c 1 (-1) _).mono ?_
   rintro e w1 ⟨rfl,hk⟩
   have hka := (Keeps.refl (fun _ => False) w).alloc (.cells #[.int .i64 0, .int .i64 0] 26)
   have hb := hk.blk (show Blk (w.alloc (.cells #[.int .i64 0, .int .i64 0] 26)) w.heap.size [.int .i64 0, .int .i64 0] 26 from Blk.newAt _ rfl rfl) (fun h => h)
   have HKA := Lib.hid (hka.trans hk); have HB := Lib.hid hb
   have l0 := hb.cell 0; have l1 := hb.cell 1; have ll := hb.lt; have f0 := hb.free 0; have f1 := hb.free 1
   simp only [List.getElem?_cons_zero,List.getElem?_cons_succ] at l0 l1
   clear hk hka hb
   go_wp2_with fail
   have hb3 := (HB.out.setSame 0 (.int .i64 1)).setSame 1 (.int .i64 (-1))
   have x0 := hb3.cell 0; have x1 := hb3.cell 1
   simp only [List.set_cons_zero,List.set_cons_succ,List.getElem?_cons_zero,List.getElem?_cons_succ] at x0 x1
   refine bodyPost_ret (v := .agg #[.int .i64 1, .int .i64 (-1)]) (by simp [results,Try.results20,go_sem,x0,x1]) rfl ⟨by rw [HE.out], ?_⟩
   exact (HKA.out.setCell (p := ⟨w.heap.size,0,none⟩) (.inr (Nat.le_refl _)) _).setCell (p := ⟨w.heap.size,1,none⟩) (.inr (Nat.le_refl _)) _
  have d3 : decide (o < 0) = false := by simpa using c3
  have d4 : decide (1024 < o) = true := by simp; omega
  clear hc
  go_enter Try.func20,Try.ntmps20
  go_wp2_with fail
  refine (F_c 1 (-1) _).mono ?_
  rintro e w1 ⟨rfl,hk⟩
  have hka := (Keeps.refl (fun _ => False) w).alloc (.cells #[.int .i64 0, .int .i64 0] 26)
  have hb := hk.blk (show Blk (w.alloc (.cells #[.int .i64 0, .int .i64 0] 26)) w.heap.size [.int .i64 0, .int .i64 0] 26 from Blk.newAt _ rfl rfl) (fun h => h)
  have HKA := Lib.hid (hka.trans hk); have HB := Lib.hid hb
  have l0 := hb.cell 0; have l1 := hb.cell 1; have ll := hb.lt; have f0 := hb.free 0; have f1 := hb.free 1
  simp only [List.getElem?_cons_zero,List.getElem?_cons_succ] at l0 l1
  clear hk hka hb
  go_wp2_with fail
  have hb3 := (HB.out.setSame 0 (.int .i64 1)).setSame 1 (.int .i64 (-1))
  have x0 := hb3.cell 0; have x1 := hb3.cell 1
  simp only [List.set_cons_zero,List.set_cons_succ,List.getElem?_cons_zero,List.getElem?_cons_succ] at x0 x1
  refine bodyPost_ret (v := .agg #[.int .i64 1, .int .i64 (-1)]) (by simp [results,Try.results20,go_sem,x0,x1]) rfl ⟨by rw [HE.out], ?_⟩
  exact (HKA.out.setCell (p := ⟨w.heap.size,0,none⟩) (.inr (Nat.le_refl _)) _).setCell (p := ⟨w.heap.size,1,none⟩) (.inr (Nat.le_refl _)) _
 ·have HE := Lib.hid (show faultM n o = (0,0) by unfold faultM; rw [hf]; rfl)
  simp [Ar.fits] at hf
  have d1 : decide (n < 16) = false := by simp; omega
  have d2 : decide (256 < n) = false := by simp; omega
  have d3 : decide (o < 0) = false := by simp; omega
  have d4 : decide (1024 < o) = false := by simp; omega
  clear hf
  go_enter Try.func20,Try.ntmps20
  go_wp2_with fail
  refine bodyPost_ret (v := .agg #[.int .i64 0, .int .i64 0]) (by simp [results,Try.results20,go_sem]) rfl ⟨?_,(Keeps.refl _ _).alloc _⟩
  rw [HE.out]
end Go.Proofs.Ytjifdalflepcoab
namespace Go.Proofs.Ytjifdalflepcoab
set_option linter.unusedVariables false
set_option linter.unusedSimpArgs false
theorem partsW_head {k f : Int} (h : fitsW k f = true) : partsW (16 * f + k) = (k,f,0) := by
 have hs := fitsW_spec h
 have e1 : (16 * f + k) % 16 = k := by omega
 have e2 : (16 * f + k) / 16 = f := by omega
 unfold partsW
 rw [e1,e2,if_pos h]
theorem thingW_get {k f : Int} {j : Nat} (h : (j : Int) ≤ f) (hj : 0 < j) : (thingW k f).getD j 0 = 2 := by
 obtain ⟨j,rfl⟩ : ∃ i,j = i + 1 := ⟨j - 1,by omega⟩
 unfold thingW
 rw [List.getD_cons_succ,List.getD_eq_getElem?_getD,List.getElem?_replicate,if_pos (by omega)]
 rfl
section
variable {A : Ar} {k f : Int}
theorem Ar.made (hok : A.ok) (h : fitsW k f = true ∧ 1 + f ≤ (A.nur : Int) - A.yng) :
  ((A.make k f).2.thing A.yng = (k,f,0)) ∧ (∀ j : Nat,0 < j → (j : Int) ≤ f → (A.make k f).2.load ((A.yng : Int) + j) = 2) := by
 have hs := fitsW_spec h.1
 have h1 := hok.h1; have h2 := hok.h2; have h3 := hok.h3
 have hlen := thingW_length (k := k) hs.2.2.1
 rw [Ar.make_yes h]
 have key : ∀ j : Nat,(j : Int) ≤ f → Ar.load { A with yng := A.yng + (1 + f).toNat,ws := lay A.ws A.yng (thingW k f) } ((A.yng : Int) + j) = (thingW k f).getD j 0 := by
  intro j hj
  have hu : Ar.inUse { A with yng := A.yng + (1 + f).toNat,ws := lay A.ws A.yng (thingW k f) } ((A.yng : Int) + j) = true := by
   simp [Ar.inUse,Ar.young]; omega
  unfold Ar.load
  rw [if_pos hu]
  show (lay A.ws A.yng (thingW k f)).getD _ 0 = _
  rw [show ((A.yng : Int) + j).toNat = A.yng + j by omega,lay_getD (by omega),if_pos (by omega)]
  congr 1; omega
 refine ⟨?_,fun j hj hjf => by rw [key j hjf,thingW_get hjf hj]⟩
 unfold Ar.thing
 have := key 0 (by omega)
 simp only [Int.natCast_zero,Int.add_zero] at this
 rw [this]
 exact partsW_head h.1
end
end Go.Proofs.Ytjifdalflepcoab
namespace Go.Proofs.Ytjifdalflepcoab
open Go.RowKit
set_option linter.unusedVariables false
set_option linter.unusedSimpArgs false
theorem Rd.nth {w : World} {ao : Option Addr} {l : List Int} (h : Rd w ao (l.map (Value.int .i64))) (i : Nat) (hi : i < l.length) :
  ∃ g o,ao = some ⟨g,o,none⟩ ∧ g < w.heap.size ∧ w.cell? ⟨g,o + i,none⟩ = some (.int .i64 (l.getD i 0)) := by
 obtain ⟨g,o,rfl,hg,hc⟩ := h (by intro e; simp at e; subst e; simp at hi)
 refine ⟨g,o,rfl,hg, ?_⟩
 rw [hc i (by simpa using hi)]
 simp [List.getD,hi]
theorem ArenaTo.fresh {w0 w w' : World} {p g : Nat} {A : Ar} (h : Keeps (fun _ => False) w0 w) (t : ArenaTo w p g w' A) (hp : w0.heap.size ≤ p) (hg : w0.heap.size ≤ g) : Keeps (fun _ => False) w0 w' :=
 h.then t.k (by rintro k (rfl | rfl); exact .inr hp; exact .inr hg)
def bA1 : Ar := ((Ar.new 16 8).make 1 2).2
def bA2 : Ar := (bA1.make 2 12).2
def bA3 : Ar := (bA2.make 5 0).2
def bA4 : Ar := (bA3.copy 0).2
theorem b1 : ((Ar.new 16 8).make 1 2).1 = 0 := by decide +kernel
theorem b2 : (bA1.make 2 12).1 = 3 := by decide +kernel
theorem b3 : (bA2.make 5 0).1 = -1 := by decide +kernel
theorem b4 : (bA3.copy 0).1 = 16 := by decide +kernel
theorem b5 : bA4.thing 16 = (1,2,0) := by decide +kernel
theorem b6 : bA4.things = ([0,3],[16]) := by decide +kernel
theorem b7 : bA4.load 1 = 2 := by decide +kernel
end Go.Proofs.Ytjifdalflepcoab
namespace Go.Proofs.Ytjifdalflepcoab
open Go.RowKit
set_option linter.unusedVariables false
set_option linter.unusedSimpArgs false
section
variable {p g : Nat} {A : Ar}
end
end Go.Proofs.Ytjifdalflepcoab
namespace Go.Proofs.Ytjifdalflepcoab
open Go.RowKit
set_option linter.unusedVariables false
set_option linter.unusedSimpArgs false
theorem count_rep (n : Nat) : countL (List.replicate n false) = 0 := by simp [countL,List.filter_replicate]
theorem count_set {l : List Bool} : ∀ {k : Nat},k < l.length → countL (l.set k true) = if l.getD k false then countL l else countL l + 1 := by
 induction l with
 | nil => intro k h; simp at h
 | cons a l ih =>
  intro k h
  cases k with
  | zero => cases a <;> simp [countL]
  | succ k =>
   have := ih (k := k) (by simpa using h)
   cases a <;> simp [countL] at this ⊢ <;> split at this <;> simp_all
end Go.Proofs.Ytjifdalflepcoab
namespace Go.Proofs.Ytjifdalflepcoab
open Go.RowKit
set_option linter.unusedVariables false
set_option linter.unusedSimpArgs false
structure DW (w0 w : World) (p : Nat) (h : WH) (q gq gr : Nat) (O : Wo) (A : Ar) (L : List Int) (dv : Value) (ds : List Int) : Prop where
 M : WM w0 w p h O
 R : RoomAt w q gq A
 G : Blk w gr (L.map (Value.int .i64)) 2
 D : Sl w 3 1 dv ds.length (ds.map (Value.int .i64))
 aq : ¬ h.Own q
 ag : ¬ h.Own gq
 ar : ¬ h.Own gr
 ad : ∀ k,ownB dv k → ¬ h.Own k
 nq : w0.heap.size ≤ q
 ng : w0.heap.size ≤ gq
 nr : w0.heap.size ≤ gr
 nd : ∀ k,ownB dv k → w0.heap.size ≤ k
 ne : gq ≠ gr
section
variable {w0 w w' : World} {p : Nat} {h : WH} {q gq gr : Nat} {O O' : Wo} {A A' : Ar} {L : List Int} {dv : Value} {ds : List Int}
theorem DW.wood (D : DW w0 w p h q gq gr O A L dv ds) (t : WoodTo w h w' O') : ∃ h',DW w0 w' p h' q gq gr O' A L dv ds := by
 obtain ⟨h',H',e',k',o'⟩ := t
 have old : ∀ k,¬ h.Own k → k < w.heap.size → ¬ h'.Own k := fun k hk hl hn => by
  rcases o' k hn with h1 | h1
  ·exact hk h1
  ·omega
 refine ⟨h',⟨H',e'.trans D.M.e,D.M.K.then k' (fun b hb => .inr (D.M.own b hb)),fun b hb => ?_⟩,D.R.keep k' D.aq D.ag,k'.blk D.G D.ar,D.D.keep k' D.ad,old _ D.aq D.R.hp.lt,old _ D.ag D.R.hg.lt,old _ D.ar D.G.lt,
  fun k hk => old _ (D.ad k hk) (D.D.own hk).1,D.nq,D.ng,D.nr,D.nd,D.ne⟩
 rcases o' b hb with h1 | h1
 ·exact D.M.own b h1
 ·have := D.M.K.size; omega
theorem DW.room (D : DW w0 w p h q gq gr O A L dv ds) (t : RoomTo w q gq w' A') : DW w0 w' p h q gq gr O A' L dv ds := by
 refine ⟨⟨D.M.H.keep t.k ?_,D.M.e,D.M.K.then t.k ?_,D.M.own⟩,t.at_,t.k.blk D.G ?_,D.D.keep t.k ?_,D.aq,D.ag,D.ar,D.ad,D.nq,D.ng,D.nr,D.nd,D.ne⟩
 ·rintro b hb (rfl | rfl)
  ·exact D.aq hb
  ·exact D.ag hb
 ·rintro k (rfl | rfl)
  ·exact .inr D.nq
  ·exact .inr D.ng
 ·rintro (e | e)
  ·exact D.G.ne D.R.hp (by decide) e
  ·exact D.ne e.symm
 ·rintro k hk (e | e)
  ·obtain ⟨-,cur,hb⟩ := D.D.own hk
   exact hb.ne D.R.hp (by decide) e
  ·obtain ⟨-,cur,hb⟩ := D.D.own hk
   exact hb.ne D.R.hg (by decide) e
theorem DW.same (D : DW w0 w p h q gq gr O A L dv ds) (k : Keeps (fun _ => False) w w') : DW w0 w' p h q gq gr O A L dv ds :=
 ⟨D.M.same k,D.R.keep k (fun h => h) (fun h => h),k.blk D.G (fun h => h),D.D.keep k (fun _ _ h => h),D.aq,D.ag,D.ar,D.ad,D.nq,D.ng,D.nr,D.nd,D.ne⟩
theorem DW.app (D : DW w0 w p h q gq gr O A L dv ds) {v2 : Value} {x : Int} (hs : Sl w' 3 1 v2 (ds.length + 1) (ds.map (Value.int .i64) ++ [.int .i64 x])) (hk : Keeps (ownB dv) w w') (ho : ∀ k,ownB v2 k → ownB dv k ∨ w.heap.size ≤ k) :
  DW w0 w' p h q gq gr O A L v2 (ds ++ [x]) := by
 have tp : ∀ {k : Nat} {c : List Value} {T : TypeId},Blk w k c T → T ≠ 3 → ¬ ownB dv k := fun hb hT hk => by
  obtain ⟨-,cur,hb2⟩ := D.D.own hk
  exact hb.ne hb2 hT rfl
 refine ⟨⟨D.M.H.keep hk (fun b hb hd => D.ad b hd hb),D.M.e,D.M.K.then hk (fun b hb => .inr (D.nd b hb)),D.M.own⟩,D.R.keep hk (tp D.R.hp (by decide)) (tp D.R.hg (by decide)),hk.blk D.G (tp D.G (by decide)), ?_,D.aq,D.ag,D.ar,fun k hk2 hn => ?_,D.nq,D.ng,D.nr,fun k hk2 => ?_,D.ne⟩
 ·rw [List.length_append,List.map_append]; exact hs
 ·rcases ho k hk2 with h1 | h1
  ·exact D.ad k h1 hn
  ·have := D.M.H.own_lt hn; omega
 ·rcases ho k hk2 with h1 | h1
  ·exact D.nd k h1
  ·have := D.M.K.size; omega
theorem DW.nb (D : DW w0 w p h q gq gr O A L dv ds) {b : Nat} {c : List Value} (hb : Blk w b c 61) : ¬ h.Own b ∧ ¬ (b = q ∨ b = gq) ∧ b ≠ gr ∧ ¬ ownB dv b := by
 refine ⟨fun hn => ?_, ?_,hb.ne D.G (by decide),fun hk => ?_⟩
 ·obtain ⟨c2,T,hc,hT⟩ := D.M.H.own_type hn
  rcases hT with rfl | rfl | rfl | rfl | rfl | rfl | rfl <;> exact hb.ne hc (by decide) rfl
 ·rintro (e | e)
  ·exact hb.ne D.R.hp (by decide) e
  ·exact hb.ne D.R.hg (by decide) e
 ·obtain ⟨-,cur,hb2⟩ := D.D.own hk
  exact hb.ne hb2 (by decide) rfl
structure DX (w0 w : World) (p : Nat) (h : WH) (q gq gr : Nat) (O : Wo) (A : Ar) (L : List Int) (dv : Value) (ds : List Int) (b : Nat) (c : List Value) : Prop where
 D : DW w0 w p h q gq gr O A L dv ds
 B : Blk w b c 61
variable {b : Nat} {c : List Value}
theorem DX.wood (D : DX w0 w p h q gq gr O A L dv ds b c) (t : WoodTo w h w' O') : ∃ h',DX w0 w' p h' q gq gr O' A L dv ds b c := by
 obtain ⟨h',D'⟩ := D.D.wood t
 obtain ⟨-, -, -,k', -⟩ := t
 exact ⟨h',D',k'.blk D.B (D.D.nb D.B).1⟩
theorem DX.arena (D : DX w0 w p h q gq gr O A L dv ds b c) {B : Ar} (t : ArenaTo w h.pa h.g w' B) (hn : B.nur = O.ar.nur) : DX w0 w' p h q gq gr { O with ar := B } A L dv ds b c := by
 have kk : Keeps h.Own w w' := t.k.mono (fun k _ hk => .inr (.inl hk))
 exact ⟨⟨⟨D.D.M.H.arena t hn,D.D.M.e,D.D.M.K.then kk (fun b hb => .inr (D.D.M.own b hb)),D.D.M.own⟩,D.D.R.keep kk D.D.aq D.D.ag,kk.blk D.D.G D.D.ar,D.D.D.keep kk D.D.ad,D.D.aq,D.D.ag,D.D.ar,D.D.ad,D.D.nq,D.D.ng,D.D.nr,D.D.nd,D.D.ne⟩,kk.blk D.B (D.D.nb D.B).1⟩
theorem DX.room (D : DX w0 w p h q gq gr O A L dv ds b c) (t : RoomTo w q gq w' A') : DX w0 w' p h q gq gr O A' L dv ds b c :=
 ⟨D.D.room t,t.k.blk D.B (D.D.nb D.B).2.1⟩
theorem DX.same (D : DX w0 w p h q gq gr O A L dv ds b c) (k : Keeps (fun _ => False) w w') : DX w0 w' p h q gq gr O A L dv ds b c := ⟨D.D.same k,k.blk D.B (fun h => h)⟩
theorem DX.app (D : DX w0 w p h q gq gr O A L dv ds b c) {v2 : Value} {x : Int} (hs : Sl w' 3 1 v2 (ds.length + 1) (ds.map (Value.int .i64) ++ [.int .i64 x])) (hk : Keeps (ownB dv) w w') (ho : ∀ k,ownB v2 k → ownB dv k ∨ w.heap.size ≤ k) :
  DX w0 w' p h q gq gr O A L v2 (ds ++ [x]) b c := ⟨D.D.app hs hk ho,hk.blk D.B (D.D.nb D.B).2.2.2⟩
theorem DW.root (D : DW w0 w p h q gq gr O A L dv ds) {k : Nat} (hk : k < L.length) : w.cell? ⟨gr,k,none⟩ = some (.int .i64 (L.getD k 0)) := by
 rw [D.G.cell,List.getElem?_map,List.getElem?_eq_getElem hk]
 simp [List.getD,hk]
end
structure DirtyOk (cd : List Bool) (ds : List Int) : Prop where
 n : countL cd = ds.length
 m : ∀ j : Nat,cd.getD j false = true ↔ (j : Int) ∈ ds
theorem DirtyOk.new (n : Nat) : DirtyOk (List.replicate n false) [] := by
 refine ⟨count_rep n,fun j => ?_⟩
 rw [List.getD_eq_getElem?_getD,List.getElem?_replicate]
 split <;> simp
theorem DirtyOk.mark {cd : List Bool} {ds : List Int} (H : DirtyOk cd ds) {j : Nat} (hj : j < cd.length) : DirtyOk (cd.set j true) (if (j : Int) ∈ ds then ds else ds ++ [(j : Int)]) := by
 have hn := H.n
 have hc := count_set hj
 have hm := H.m j
 have get : ∀ i : Nat,(cd.set j true).getD i false = true ↔ i = j ∨ cd.getD i false = true := fun i => by
  simp only [List.getD_eq_getElem?_getD,List.getElem?_set]
  by_cases e : j = i
  ·subst e; simp [hj]
  ·rw [if_neg e]
   constructor
   ·intro h; exact .inr h
   ·rintro (h | h)
    ·exact absurd h.symm e
    ·exact h
 by_cases c : (j : Int) ∈ ds
 ·rw [if_pos c]
  rw [if_pos (hm.2 c)] at hc
  refine ⟨hc.trans hn,fun i => ?_⟩
  rw [get,H.m]
  constructor
  ·rintro (rfl | h)
   ·exact c
   ·exact h
  ·exact .inr
 ·rw [if_neg c]
  rw [if_neg (fun h => c (hm.1 h))] at hc
  refine ⟨by rw [hc,hn,List.length_append]; rfl,fun i => ?_⟩
  rw [get,H.m,List.mem_append,List.mem_singleton]
  constructor
  ·rintro (rfl | h)
   ·exact .inr rfl
   ·exact .inl h
  ·rintro (h | h)
   ·exact .inr h
   ·exact .inl (by omega)
structure DS (n o : Int) (O : Wo) (ds : List Int) : Prop where
 nur : (O.ar.nur : Int) = n
 len : (O.ar.ws.length : Int) = n + o
 cl : O.cd.length = cardsN o
 di : DirtyOk O.cd ds
theorem DS.new {n o : Int} (h : Ar.fits n o = true) : DS n o (Wo.new n o) [] := by
 simp [Ar.fits] at h
 refine ⟨?_, ?_, ?_,DirtyOk.new _⟩
 ·simp [Wo.new,Ar.new]; omega
 ·simp [Wo.new,Ar.new]; omega
 ·simp [Wo.new]
theorem DS.le {n o : Int} {O : Wo} {ds : List Int} (S : DS n o O ds) (h : O.ok) : ds.length ≤ 1000 := by
 have h1 := S.di.n; have h2 := countL_le O.cd; have h3 := h.hc
 omega
end Go.Proofs.Ytjifdalflepcoab
namespace Go.Proofs.Ytjifdalflepcoab
open Go.RowKit
set_option linter.unusedVariables false
set_option linter.unusedSimpArgs false
section
variable {w w' : World}
end
end Go.Proofs.Ytjifdalflepcoab
namespace Go.Proofs.Ytjifdalflepcoab
set_option linter.unusedVariables false
set_option linter.unusedSimpArgs false
section
variable {O : Wo} {W : Wd} {φ : Int → Int}
theorem Wd.cut_len (W : Wd) (major : Bool) : (W.cut major).2.T.length = W.T.length := by
 unfold Wd.cut
 split
 ·rfl
 ·split
  ·rfl
  ·exact Wd.after_len
theorem Rep.olds_eq (R : Rep O W φ) : ((O.ar.grn - O.ar.nur : Nat) : Int) = W.olds := by
 have h := R.ho.ha.h2
 rw [← R.so]; omega
end
end Go.Proofs.Ytjifdalflepcoab
namespace Go.Proofs.Ytjifdalflepcoab
open Go.RowKit
set_option linter.unusedVariables false
set_option linter.unusedSimpArgs false
end Go.Proofs.Ytjifdalflepcoab
namespace Go.Proofs.Ytjifdalflepcoab
open Go.RowKit
set_option linter.unusedVariables false
set_option linter.unusedSimpArgs false
theorem wpList_agg2g {P : Program} {w : World} {ops : Array Oper} {o : Oper} {a : Act} {rest : List Oper} {Q : Exit → Act → World → Prop} (hw : Region.wanted o (yielded ops a.tmps) = true) (t : TypeId) (x : Operand) (ho : o.op = .load t x) (hr : rowB P t 2 = true) (b off : Nat) (hx : a.eval x = .pointer (some ⟨b,off,none⟩)) (v0 v1 : Value)
  (h0 : w.cell? ⟨b,off,none⟩ = some v0) (h1 : w.cell? ⟨b,off + 1,none⟩ = some v1) (h : wpList P ops Q rest (a.put o.dst (.agg #[v0,v1])) w) : wpList P ops Q (o :: rest) a w := by
 obtain ⟨d,hu,hd,hi⟩ := rowB_spec hr
 exact wpList_step fun K hK => by
  rw [if_pos hw]
  exact wp_load_mid t x ho b off hx [v0,v1] d (rangeAt2 h0 h1) hu hd hi (hK _ _ h)
end Go.Proofs.Ytjifdalflepcoab
namespace Go.Proofs.Ytjifdalflepcoab
open Go.RowKit
set_option linter.unusedVariables false
set_option linter.unusedSimpArgs false
theorem Rep.lens {O : Wo} {W : Wd} {φ : Int → Int} (R : Rep O W φ) : O.view.1.length = 12 ∧ O.view.2.length ≤ 1300 ∧ ∀ n ∈ O.view.2,n.2.length ≤ 100 := by
 rw [R.view]
 exact (Wd.seen R.hw).lens R.hw
theorem ViewV.rep {w : World} {lo : Nat} {v : Value} {O : Wo} {W : Wd} {φ : Int → Int} (H : ViewV w lo v O.view) (R : Rep O W φ) : ViewR w v O.view := by
 obtain ⟨h1,h2,h3⟩ := R.lens
 exact H.r (by omega) (by omega) (fun n hn => Nat.le_trans (h3 n hn) (by decide))
section
variable {w w' : World}
end
end Go.Proofs.Ytjifdalflepcoab
namespace Go.Proofs.Ytjifdalflepcoab
open Go.RowKit
set_option linter.unusedVariables false
set_option linter.unusedSimpArgs false
structure RVH where
 mb : Nat
 wb : Nat
 vb : Nat
 fb : Nat
def RVH.fn (g : RVH) : Value := .func (.func 108) #[] #[.pointer (some ⟨g.mb,0,none⟩), .pointer (some ⟨g.wb,0,none⟩), .pointer (some ⟨g.vb,0,none⟩), .pointer (some ⟨g.fb,0,none⟩)]
structure RvAt (w : World) (g : RVH) (h : RW) (W : Wd) (rv mv nv : Value) (F : Nat → Prop) (s : VS) : Prop where
 H : WorldAt w h W
 hm : Blk w g.mb [mv] 50
 hw : Blk w g.wb [.pointer (some ⟨h.p,0,none⟩)] 94
 hv : Blk w g.vb [rv,nv] 72
 hf : Blk w g.fb [g.fn] 165
 M : Sl w 3 1 mv s.1.length (s.1.map (Value.int .i64))
 N : NodesAt w nv F s.2
 hF : ∀ k,F k → k < w.heap.size ∧ ∃ c,Blk w k c 78
 bd : ∀ i ∈ s.1,0 ≤ i ∧ i ≤ 1000000
def RvFp (g : RVH) (mv nv : Value) (k : Nat) : Prop := k = g.mb ∨ k = g.vb ∨ ownB mv k ∨ ownB nv k
section
variable {w w' : World} {g : RVH} {h : RW} {W : Wd} {rv mv nv : Value} {F : Nat → Prop} {s : VS}
theorem RvAt.fp_ne (V : RvAt w g h W rv mv nv F s) {k : Nat} {c : List Value} {T : TypeId} (hc : Blk w k c T) (h1 : T ≠ 50) (h2 : T ≠ 72) (h3 : T ≠ 3) (h4 : T ≠ 83) : ¬ RvFp g mv nv k := by
 rintro (rfl | rfl | hk | hk)
 ·exact hc.ne V.hm h1 rfl
 ·exact hc.ne V.hv h2 rfl
 ·obtain ⟨_,c',hc'⟩ := V.M.own hk; exact hc.ne hc' h3 rfl
 ·obtain ⟨_,c',hc'⟩ := V.N.own hk; exact hc.ne hc' h4 rfl
theorem RvAt.lt (V : RvAt w g h W rv mv nv F s) {k : Nat} (hk : RvFp g mv nv k) : k < w.heap.size := by
 rcases hk with rfl | rfl | hk | hk
 ·exact V.hm.lt
 ·exact V.hv.lt
 ·exact (V.M.own hk).1
 ·exact (V.N.own hk).1
theorem RvAt.world_ne (V : RvAt w g h W rv mv nv F s) {k : Nat} (hk : h.Own k) : ¬ RvFp g mv nv k := by
 obtain ⟨_,c,T,hc,hT⟩ := V.H.own_type hk
 rcases hT with rfl | rfl | rfl | rfl <;> exact V.fp_ne hc (by decide) (by decide) (by decide) (by decide)
theorem RvAt.keep {S : Nat → Prop} (V : RvAt w g h W rv mv nv F s) (k : Keeps S w w') (h1 : ∀ j,RvFp g mv nv j → ¬ S j) (h2 : ∀ j,h.Own j → ¬ S j) (h3 : ∀ j,F j → ¬ S j) (h4 : ¬ S g.wb) (h5 : ¬ S g.fb) : RvAt w' g h W rv mv nv F s :=
 ⟨V.H.keep k h2,k.blk V.hm (h1 _ (.inl rfl)),k.blk V.hw h4,k.blk V.hv (h1 _ (.inr (.inl rfl))),k.blk V.hf h5,V.M.keep k (fun j hj => h1 j (.inr (.inr (.inl hj)))),V.N.keep k (fun j hj _ => h3 j hj) (fun j hj => h1 j (.inr (.inr (.inr hj)))),
  fun j hj => by obtain ⟨a,c,hc⟩ := V.hF j hj; exact ⟨Nat.lt_of_lt_of_le a k.size,c,k.blk hc (h3 j hj)⟩,V.bd⟩
theorem RvAt.same (V : RvAt w g h W rv mv nv F s) (k : Keeps (fun _ => False) w w') : RvAt w' g h W rv mv nv F s := V.keep k (fun _ _ h => h) (fun _ _ h => h) (fun _ _ h => h) (fun h => h) (fun h => h)
theorem RvAt.other {b : Nat} (V : RvAt w g h W rv mv nv F s) (k : Keeps (· = b) w w') (hb : ¬ RvFp g mv nv b) (h2 : ¬ h.Own b) (h3 : ¬ F b) (h4 : b ≠ g.wb) (h5 : b ≠ g.fb) : RvAt w' g h W rv mv nv F s :=
 V.keep k (fun j hj e => hb (e ▸ hj)) (fun j hj e => h2 (e ▸ hj)) (fun j hj e => h3 (e ▸ hj)) (fun e => h4 e.symm) (fun e => h5 e.symm)
def RvTo (w : World) (g : RVH) (h : RW) (W : Wd) (rv mv nv : Value) (F : Nat → Prop) (s' : VS) (w' : World) : Prop :=
 ∃ mv' nv' F',RvAt w' g h W rv mv' nv' F' s' ∧ Keeps (RvFp g mv nv) w w' ∧ (∀ k,ownB mv' k → ownB mv k ∨ w.heap.size ≤ k) ∧ (∀ k,ownB nv' k → ownB nv k ∨ w.heap.size ≤ k) ∧ ∀ k,F' k → F k ∨ w.heap.size ≤ k
theorem RvTo.refl (V : RvAt w g h W rv mv nv F s) (k : Keeps (fun _ => False) w w') : RvTo w g h W rv mv nv F s w' :=
 ⟨mv,nv,F,V.same k,k.mono (fun _ _ h => h.elim),fun _ h => .inl h,fun _ h => .inl h,fun _ h => .inl h⟩
theorem RvTo.from_same {w1 : World} {s' : VS} (k : Keeps (fun _ => False) w w1) (t : RvTo w1 g h W rv mv nv F s' w') : RvTo w g h W rv mv nv F s' w' := by
 obtain ⟨mv',nv',F',V,k2,o0,o1,o2⟩ := t
 exact ⟨mv',nv',F',V,(k.mono (fun _ _ h => h.elim)).trans k2,fun j hj => (o0 j hj).imp id (fun h => Nat.le_trans k.size h),fun j hj => (o1 j hj).imp id (fun h => Nat.le_trans k.size h),fun j hj => (o2 j hj).imp id (fun h => Nat.le_trans k.size h)⟩
theorem RvFp.step {mv' nv' : Value} (o0 : ∀ k,ownB mv' k → ownB mv k ∨ w.heap.size ≤ k) (o1 : ∀ k,ownB nv' k → ownB nv k ∨ w.heap.size ≤ k) {k : Nat} (hk : RvFp g mv' nv' k) : RvFp g mv nv k ∨ w.heap.size ≤ k := by
 rcases hk with rfl | rfl | hk | hk
 ·exact .inl (.inl rfl)
 ·exact .inl (.inr (.inl rfl))
 ·exact (o0 k hk).imp (fun h => .inr (.inr (.inl h))) id
 ·exact (o1 k hk).imp (fun h => .inr (.inr (.inr h))) id
theorem RvTo.then {w1 w2 : World} {s1 s2 : VS} (t : RvTo w g h W rv mv nv F s1 w1) (u : ∀ mv1 nv1 F1,RvAt w1 g h W rv mv1 nv1 F1 s1 → RvTo w1 g h W rv mv1 nv1 F1 s2 w2) : RvTo w g h W rv mv nv F s2 w2 := by
 obtain ⟨mv1,nv1,F1,V1,k1,a0,a1,a2⟩ := t
 obtain ⟨mv2,nv2,F2,V2,k2,b0,b1,b2⟩ := u mv1 nv1 F1 V1
 refine ⟨mv2,nv2,F2,V2,k1.then k2 (fun j hj => RvFp.step a0 a1 hj),fun j hj => ?_,fun j hj => ?_,fun j hj => ?_⟩
 ·rcases b0 j hj with h | h
  ·exact a0 j h
  ·exact .inr (Nat.le_trans k1.size h)
 ·rcases b1 j hj with h | h
  ·exact a1 j h
  ·exact .inr (Nat.le_trans k1.size h)
 ·rcases b2 j hj with h | h
  ·exact a2 j h
  ·exact .inr (Nat.le_trans k1.size h)
theorem RvTo.done {w1 w2 w3 : World} {s' : VS} {b : Nat} (k1 : Keeps (fun _ => False) w w1) (t : RvTo w1 g h W rv mv nv F s' w2) (hb0 : w.heap.size ≤ b) (hb1 : b < w1.heap.size) (hF : ¬ F b) (hO : ¬ h.Own b) (hbt : ∃ c,Blk w2 b c 78) (k : Keeps (· = b) w2 w3) :
  RvTo w g h W rv mv nv F s' w3 := by
 obtain ⟨mv',nv',F',V,k2,o0,o1,o2⟩ := t
 obtain ⟨c,hc⟩ := hbt
 refine ⟨mv',nv',F',V.other k (V.fp_ne hc (by decide) (by decide) (by decide) (by decide)) hO (fun hf => ?_) (hc.ne V.hw (by decide)) (hc.ne V.hf (by decide)),((k1.mono (fun _ _ h => h.elim)).trans k2).then k (fun j hj => .inr (by rw [hj]; exact hb0)),
  fun j hj => (o0 j hj).imp id (fun h => Nat.le_trans k1.size h),fun j hj => (o1 j hj).imp id (fun h => Nat.le_trans k1.size h),fun j hj => (o2 j hj).imp id (fun h => Nat.le_trans k1.size h)⟩
 rcases o2 b hf with h1 | h1
 ·exact hF h1
 ·omega
def RvRet (w : World) (g : RVH) (h : RW) (W : Wd) (rv mv nv : Value) (F : Nat → Prop) (r : Vl × VS) (e : Ending) (w' : World) : Prop :=
 e = .returned (.agg #[.int .i64 r.1.1, .int .i64 r.1.2]) ∧ RvTo w g h W rv mv nv F r.2 w'
set_option maxHeartbeats 4000000 in
set_option maxRecDepth 100000 in
theorem rvalue_plain (v : Vl) (n : Nat) (V : RvAt w g h W rv mv nv F s) (h3 : v.1 ≠ 3) :
  Calls Try.prog 108 #[.agg #[.int .i64 v.1, .int .i64 v.2], .pointer (some ⟨g.mb,0,none⟩), .pointer (some ⟨g.wb,0,none⟩), .pointer (some ⟨g.vb,0,none⟩), .pointer (some ⟨g.fb,0,none⟩)] w (RvRet w g h W rv mv nv F (valM W.gr n v s)) := by
 have HE := Lib.hid (valM_plain W.gr n s h3)
 have HV := Lib.hid V
 obtain ⟨v1,v2⟩ := v
 dsimp only at h3 ⊢
 have hd : (v1 != 3) = true := by simpa using h3
 clear h3 V
 go_enter Try.func108,Try.ntmps108
 go_upto_region 1 with (fail)
 have ka := (Keeps.refl (fun _ => False) w).alloc (.cells #[.int .i64 (v1), .int .i64 v2] 78)
 have xb1 : Blk (w.alloc (.cells #[.int .i64 (v1), .int .i64 v2] 78)) w.heap.size [.int .i64 (v1), .int .i64 v2] 78 := Blk.newAt _ rfl rfl
 have sz1 : (w.alloc (.cells #[.int .i64 (v1), .int .i64 v2] 78)).heap.size = w.heap.size + 1 := by simp
 have K1 := Lib.hid (ka.alloc (.cells #[.int .i64 0, .int .i64 0] 78))
 have XB := Lib.hid (xb1.alloc (.cells #[.int .i64 0, .int .i64 0] 78))
 have RB := Lib.hid (show Blk ((w.alloc (.cells #[.int .i64 (v1), .int .i64 v2] 78)).alloc (.cells #[.int .i64 0, .int .i64 0] 78)) (w.heap.size + 1) [.int .i64 0, .int .i64 0] 78 from Blk.newAt _ sz1.symm rfl)
 have V1 := Lib.hid (HV.out.same K1.out)
 have RNF : Hid (¬ F (w.heap.size + 1)) := fun hf => by have := (HV.out.hF _ hf).1; omega
 have RNO : Hid (¬ h.Own (w.heap.size + 1)) := fun hf => by have := (HV.out.H.own_type hf).1; omega
 have XNO : Hid (¬ h.Own w.heap.size) := fun hf => by have := (HV.out.H.own_type hf).1; omega
 have XNF : Hid (¬ F w.heap.size) := fun hf => by have := (HV.out.hF _ hf).1; omega
 clear ka xb1 sz1
 generalize (w.alloc (.cells #[.int .i64 (v1), .int .i64 v2] 78)).alloc (.cells #[.int .i64 0, .int .i64 0] 78) = w1 at *
 generalize hxb : w.heap.size = xb at XB RB RNF RNO XNO XNF ⊢
 have HXB := Lib.hid hxb
 clear hxb
 generalize hrb : xb + 1 = rb at RB RNF RNO ⊢
 have HRX := Lib.hid hrb
 clear hrb
 have HRB := Lib.hid (show w.heap.size ≤ rb by have := HXB.out; have := HRX.out; omega)
 have b0 := XB.out.cell 0; have b1 := XB.out.cell 1; have bl := XB.out.lt; have r0 := RB.out.cell 0; have r1 := RB.out.cell 1; have rl := RB.out.lt; have f0 := RB.out.free 0; have f1 := RB.out.free 1
 simp only [List.getElem?_cons_zero,List.getElem?_cons_succ] at b0 b1 r0 r1
 go_wp2_with (refine wpList_agg2 rfl 78 (.tmp 5) rfl (by kernel_rfl) xb 0 rfl _ _ b0 b1 ?_)
 have hb3 := (RB.out.setSame 0 (.int .i64 v1)).setSame 1 (.int .i64 v2)
 have x0' := hb3.cell 0; have x1' := hb3.cell 1
 simp only [List.set_cons_zero,List.set_cons_succ,List.getElem?_cons_zero,List.getElem?_cons_succ] at x0' x1'
 refine bodyPost_ret (v := .agg #[.int .i64 v1, .int .i64 v2]) (by simp [results,Try.results108,go_sem,x0',x1']) rfl ?_
 unfold RvRet
 rw [HE.out]
 refine ⟨rfl, ?_⟩
 have set := ((Keeps.refl (· = rb) w1).setCell (p := ⟨rb,0,none⟩) (.inl rfl) (.int .i64 v1)).setCell (p := ⟨rb,1,none⟩) (.inl rfl) (.int .i64 v2)
 exact RvTo.done K1.out (RvTo.refl V1.out (Keeps.refl _ _)) HRB.out rl RNF.out RNO.out ⟨_,RB.out⟩ set
theorem idxOf_first {l : List Int} {x : Int} {k : Nat} (hk : k < l.length) (hx : l.getD k 0 = x) (h : ∀ j,j < k → l.getD j 0 ≠ x) : l.idxOf x = k := by
 induction l generalizing k with
 | nil => simp at hk
 | cons a l ih =>
  rw [List.idxOf_cons]
  cases k with
  | zero =>
   have : a = x := by simpa using hx
   subst this; simp
  | succ k =>
   have h0 := h 0 (by omega)
   have h0 : a ≠ x := by simpa using h0
   have : (a == x) = false := by simpa using h0
   rw [this]
   have := ih (k := k) (by simpa using hk) (by simpa using hx) (fun j hj => by have := h (j + 1) (by omega); simpa using this)
   simp [this]
set_option maxHeartbeats 4000000 in
set_option maxRecDepth 100000 in
theorem rvalue_met (v2 : Int) (n : Nat) (V : RvAt w g h W rv mv nv F s) (hm : v2 ∈ s.1) (hsl : s.1.length ≤ 5000) :
  Calls Try.prog 108 #[.agg #[.int .i64 3, .int .i64 v2], .pointer (some ⟨g.mb,0,none⟩), .pointer (some ⟨g.wb,0,none⟩), .pointer (some ⟨g.vb,0,none⟩), .pointer (some ⟨g.fb,0,none⟩)] w (RvRet w g h W rv mv nv F (valM W.gr n (3,v2) s)) := by
 have HE := Lib.hid (valM_met W.gr n (v := (3,v2)) (s := s) rfl hm)
 have HV := Lib.hid V; have HM := Lib.hid hm; have HSL := Lib.hid hsl
 clear V hm hsl
 go_enter Try.func108,Try.ntmps108
 go_upto_region 1 with (fail)
 have ka := (Keeps.refl (fun _ => False) w).alloc (.cells #[.int .i64 (3), .int .i64 v2] 78)
 have xb1 : Blk (w.alloc (.cells #[.int .i64 (3), .int .i64 v2] 78)) w.heap.size [.int .i64 (3), .int .i64 v2] 78 := Blk.newAt _ rfl rfl
 have sz1 : (w.alloc (.cells #[.int .i64 (3), .int .i64 v2] 78)).heap.size = w.heap.size + 1 := by simp
 have K1 := Lib.hid (ka.alloc (.cells #[.int .i64 0, .int .i64 0] 78))
 have XB := Lib.hid (xb1.alloc (.cells #[.int .i64 0, .int .i64 0] 78))
 have RB := Lib.hid (show Blk ((w.alloc (.cells #[.int .i64 (3), .int .i64 v2] 78)).alloc (.cells #[.int .i64 0, .int .i64 0] 78)) (w.heap.size + 1) [.int .i64 0, .int .i64 0] 78 from Blk.newAt _ sz1.symm rfl)
 have V1 := Lib.hid (HV.out.same K1.out)
 have RNF : Hid (¬ F (w.heap.size + 1)) := fun hf => by have := (HV.out.hF _ hf).1; omega
 have RNO : Hid (¬ h.Own (w.heap.size + 1)) := fun hf => by have := (HV.out.H.own_type hf).1; omega
 have XNO : Hid (¬ h.Own w.heap.size) := fun hf => by have := (HV.out.H.own_type hf).1; omega
 have XNF : Hid (¬ F w.heap.size) := fun hf => by have := (HV.out.hF _ hf).1; omega
 clear ka xb1 sz1
 generalize (w.alloc (.cells #[.int .i64 (3), .int .i64 v2] 78)).alloc (.cells #[.int .i64 0, .int .i64 0] 78) = w1 at *
 generalize hxb : w.heap.size = xb at XB RB RNF RNO XNO XNF ⊢
 have HXB := Lib.hid hxb
 clear hxb
 generalize hrb : xb + 1 = rb at RB RNF RNO ⊢
 have HRX := Lib.hid hrb
 clear hrb
 have HRB := Lib.hid (show w.heap.size ≤ rb by have := HXB.out; have := HRX.out; omega)
 have b0 := XB.out.cell 0; have b1 := XB.out.cell 1; have bl := XB.out.lt
 simp only [List.getElem?_cons_zero,List.getElem?_cons_succ] at b0 b1
 have c0 := V1.out.hm.cell 0; have cl := V1.out.hm.lt
 simp only [List.getElem?_cons_zero] at c0
 obtain ⟨mo,mc,emv, -,hml, -⟩ := V1.out.M.rd
 have EMV := Lib.hid emv
 rw [emv] at c0
 have hsl := HSL.out
 clear emv hml
 go_wp2_with fail
 go_loopw [7] (fun i wr => ∃ k : Nat,k ≤ s.1.length ∧ i = .int .i64 k ∧ Keeps (fun _ => False) w1 wr ∧ ∀ j,j < k → s.1.getD j 0 ≠ v2) (fun i _ => s.1.length - (intOf i).toNat)
 case atStart => exact ⟨0,Nat.zero_le _,rfl,Keeps.refl _ _,fun j hj => by omega⟩
 case round =>
  clear c0 cl b0 b1 bl
  obtain ⟨k,hk,rfl,hK,hN⟩ := hrel
  have KR := Lib.hid hK; have HN := Lib.hid hN
  clear hK hN
  have VR := Lib.hid (V1.out.same KR.out); have XR := Lib.hid (KR.out.blk XB.out (fun h => h)); have RR := Lib.hid (KR.out.blk RB.out (fun h => h))
  have b0 := XR.out.cell 0; have b1 := XR.out.cell 1; have bl := XR.out.lt; have c0 := VR.out.hm.cell 0; have cl := VR.out.hm.lt
  simp only [List.getElem?_cons_zero,List.getElem?_cons_succ] at b0 b1 c0
  rw [EMV.out] at c0
  by_cases hlt : k < s.1.length
  ·obtain ⟨_,_,e',rd, -, -⟩ := VR.out.M.rd
   rw [EMV.out] at e'
   cases e'
   obtain ⟨gm,om,rfl,d0⟩ := rd.int k hlt
   have hgm := ((VR.out.M).own (k := gm) (by rw [EMV.out]; rfl)).1
   generalize hy : s.1.getD k 0 = y at *
   have HY := Lib.hid hy
   clear rd hy
   go_wp2_with fail
   refine wp_region_ro (.free 1 (.free 4 (.pure 0 (.free 2 (.pure 3 (.pure 5 (.free 6 (.fin)))))))) [] (fun w' => w'.cell? ⟨g.mb,0,none⟩ = some (.slice (some ⟨gm,om,none⟩) s.1.length mc) ∧ w'.cell? ⟨gm,om + k,none⟩ = some (.int .i64 y) ∧ w'.cell? ⟨xb,1,none⟩ = some (.int .i64 v2)) (by kernel_rfl) (by kernel_rfl) ⟨c0,d0,b1⟩ ?_
   iterate 7 first | (refine wpRO_free rfl rfl _ (fun w' => by go_simp; exact Gives.mk _ _) (fun K hK => ?_); go_simp; refine hK _ ?_; clear hK K) | (refine wpRO_skipF rfl rfl (fun K hK => ?_); go_simp; refine hK _ ?_; clear hK K) | (refine wpRO_pure rfl rfl _ (fun w' hG => by obtain ⟨c0,d0,b1⟩ := hG; exact gives_agg2 rfl (by decide +kernel) rfl (by assumption) (by assumption)) (fun K hK => ?_); go_simp; refine hK _ ?_; clear hK K) | (refine wpRO_pure rfl rfl _ (fun w' hG => by obtain ⟨c0,d0,b1⟩ := hG; go_simp; exact Gives.mk _ _) (fun K hK => ?_); go_simp; refine hK _ ?_; clear hK K) | (refine wpRO_skip rfl rfl (fun K hK => ?_); go_simp; refine hK _ ?_; clear hK K)
   refine wpRO_fin ?_
   clear b0 b1 bl c0 cl d0 hgm
   by_cases he : y = v2
   ·subst he
    have HIX := Lib.hid (idxOf_first hlt HY.out HN.out)
    have RD := Lib.hid (show Blk wr.drew rb [.int .i64 0, .int .i64 0] 78 from RR.out.drew)
    have KD := Lib.hid (KR.out.drew)
    clear RR XR VR
    generalize wr.drew = wd at *
    have r0 := RD.out.cell 0; have r1 := RD.out.cell 1; have rl := RD.out.lt; have f0 := RD.out.free 0; have f1 := RD.out.free 1
    simp only [List.getElem?_cons_zero,List.getElem?_cons_succ] at r0 r1
    go_wp2_with fail
    have hb3 := (RD.out.setSame 0 (.int .i64 3)).setSame 1 (.int .i64 k)
    have x0' := hb3.cell 0; have x1' := hb3.cell 1
    simp only [List.set_cons_zero,List.set_cons_succ,List.getElem?_cons_zero,List.getElem?_cons_succ] at x0' x1'
    refine bodyPost_ret (v := .agg #[.int .i64 3, .int .i64 k]) (by simp [results,Try.results108,go_sem,x0',x1']) rfl ?_
    unfold RvRet
    rw [HE.out]
    dsimp only
    rw [HIX.out]
    refine ⟨rfl, ?_⟩
    have set := ((Keeps.refl (· = rb) wd).setCell (p := ⟨rb,0,none⟩) (.inl rfl) (.int .i64 3)).setCell (p := ⟨rb,1,none⟩) (.inl rfl) (.int .i64 k)
    exact RvTo.done K1.out (RvTo.refl V1.out KD.out) HRB.out RB.out.lt RNF.out RNO.out ⟨_,RD.out⟩ set
   ·have hd : (y == v2) = false := by simpa using he
    have HN2 := Lib.hid (show ∀ j,j < k + 1 → s.1.getD j 0 ≠ v2 from fun j hj => by
     rcases Nat.lt_or_eq_of_le (Nat.le_of_lt_succ hj) with h1 | rfl
     ·exact HN.out j h1
     ·rw [HY.out]; exact he)
    clear he
    go_wp2_with fail
    go_roundw
    case rel => exact ⟨k + 1,hlt,by go_num,KR.out.drew,HN2.out⟩
    case measure => simp [intOf]; omega
  ·exfalso
   obtain ⟨j,hj,he⟩ := List.mem_iff_getElem.1 HM.out
   refine HN.out j (by omega) ?_
   rw [List.getD_eq_getElem?_getD,List.getElem?_eq_getElem hj]; exact he
end
end Go.Proofs.Ytjifdalflepcoab
