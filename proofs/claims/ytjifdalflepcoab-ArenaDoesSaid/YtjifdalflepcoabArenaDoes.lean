/-
  ArenaDoes (law02.go): an arena is as the document says.
-/
import Derived.Test.YtjifdalflepcoabRoom4
import Derived.Test.YtjifdalflepcoabArenaIn
import Derived.Test.YtjifdalflepcoabArenaM
import Derived.Test.YtjifdalflepcoabOver
import Derived.Test.YtjifdalflepcoabWo
import Derived.Deep.CutBlock
namespace Go.Proofs.Ytjifdalflepcoab
open Go.RowKit
set_option linter.unusedVariables false
set_option linter.unusedSimpArgs false

/-- An arena and a Room side by side. -/
structure AD (w0 w : World) (p g q h : Nat) (A B : Ar) (a b : Nat) : Prop where
  hI : ArIn w0 w p g A a b
  hR : RoomAt w q h B
  hq : w0.heap.size ≤ q
  hh : w0.heap.size ≤ h
  ne : g ≠ h

section
variable {w0 w w' : World} {p g q h a b : Nat} {A B : Ar}

theorem AD.keep (H : AD w0 w p g q h A B a b) (k : Keeps (fun _ => False) w w') : AD w0 w' p g q h A B a b := ⟨H.hI.keep k, H.hR.keep k (fun h => h) (fun h => h), H.hq, H.hh, H.ne⟩

theorem AD.toA (H : AD w0 w p g q h A B a b) {A' : Ar} (t : ArenaTo w p g w' A') (h1 : A'.nur = A.nur) (h2 : A'.ws.length = A.ws.length) : AD w0 w' p g q h A' B a b := by
  refine ⟨H.hI.to t h1 h2, H.hR.keep t.k ?_ ?_, H.hq, H.hh, H.ne⟩
  · rintro (e | e)
    · exact H.hR.hp.ne H.hI.hA.hp (by decide) e
    · exact H.hR.hp.ne H.hI.hA.hg (by decide) e
  · rintro (e | e)
    · exact H.hR.hg.ne H.hI.hA.hp (by decide) e
    · exact H.ne e.symm

theorem AD.toB (H : AD w0 w p g q h A B a b) {B' : Ar} (t : RoomTo w q h w' B') : AD w0 w' p g q h A B' a b := by
  have n1 : ¬ (p = q ∨ p = h) := by
    rintro (e | e)
    · exact H.hI.hA.hp.ne H.hR.hp (by decide) e
    · exact H.hI.hA.hp.ne H.hR.hg (by decide) e
  have n2 : ¬ (g = q ∨ g = h) := by
    rintro (e | e)
    · exact H.hI.hA.hg.ne H.hR.hp (by decide) e
    · exact H.ne e
  exact ⟨⟨H.hI.hA.keep t.k n1 n2, H.hI.hn, H.hI.hl, H.hI.hK.then t.k (by rintro k (rfl | rfl); exact .inr H.hq; exact .inr H.hh), H.hI.hp, H.hI.hg⟩, t.at_, H.hq, H.hh, H.ne⟩

/-- Another block. -/
theorem AD.nb (H : AD w0 w p g q h A B a b) {k : Nat} {c : List Value} {T : TypeId} (hk : Blk w k c T) (h1 : T ≠ 120) (h2 : T ≠ 2) (h3 : T ≠ 44) : ¬ (k = p ∨ k = g) ∧ ¬ (k = q ∨ k = h) := by
  constructor
  · rintro (e | e)
    · exact hk.ne H.hI.hA.hp h1 e
    · exact hk.ne H.hI.hA.hg h2 e
  · rintro (e | e)
    · exact hk.ne H.hR.hp h3 e
    · exact hk.ne H.hR.hg h2 e

theorem RoomAt.clear (H : RoomAt w q h B) : RoomTo w q h (w.setCell ⟨q, 2, none⟩ (.int .i64 0)) B.clear :=
  ⟨⟨by simpa [Ar.clear] using H.hp.setSame 2 (.int .i64 0), H.hg.setOther (a := ⟨q, 2, none⟩) H.ne.symm _, H.ok.clear⟩, (Keeps.refl _ _).setCell (p := ⟨q, 2, none⟩) (.inl (.inl rfl)) _⟩

theorem RoomAt.cut (H : RoomAt w q h B) {n : Nat} (hn : B.nur + n ≤ B.ws.length) : RoomTo w q h (w.setCell ⟨q, 3, none⟩ (.int .i64 n)) (B.cut n) := by
  refine ⟨⟨?_, H.hg.setOther (a := ⟨q, 3, none⟩) H.ne.symm _, H.ok.cut hn⟩, (Keeps.refl _ _).setCell (p := ⟨q, 3, none⟩) (.inl (.inl rfl)) _⟩
  have := H.hp.setSame 3 (.int .i64 n)
  simp only [List.set_cons_zero, List.set_cons_succ] at this
  show Blk _ q [_, _, _, .int .i64 ((B.nur + n - B.nur : Nat) : Int)] _
  rw [show B.nur + n - B.nur = n by omega]; exact this

theorem RoomAt.set (H : RoomAt w q h B) {n : Nat} (x : Int) (hx : R64 x) (hu : B.inUse n = true) : RoomTo w q h (w.setCell ⟨h, n, none⟩ (.int .i64 x)) (B.store n x) := by
  have hs : B.store n x = { B with ws := B.ws.set n x } := by unfold Ar.store; rw [hu]; simp
  refine ⟨⟨?_, ?_, H.ok.store _ _ hx⟩, (Keeps.refl _ _).setCell (p := ⟨h, n, none⟩) (.inl (.inr rfl)) _⟩
  · have := H.hp.setOther (a := ⟨h, n, none⟩) H.ne (.int .i64 x)
    rw [hs]; simpa using this
  · have := H.hg.setSame n (.int .i64 x)
    rw [hs, List.map_set]; exact this
end

theorem meas_lt {m k : Nat} {x y : Value} (hx : x = .int .i64 ((k + 1 : Nat) : Int)) (hy : y = .int .i64 (k : Int)) (h : k < m) : m - (intOf x).toNat < m - (intOf y).toNat := by
  subst hx; subst hy; simp [intOf]; omega

set_option maxHeartbeats 16000000 in
set_option maxRecDepth 100000 in
theorem ArenaDoes_raw (n o : Int) (lo : Option Addr) (lc m : Nat) (xs : List Int) (w : World) (h0 : Rd w lo (xs.map (Value.int .i64))) (hx : xs.length = m * 4) (hb : ∀ x ∈ xs, R64 x) (hn64 : R64 n) (ho64 : R64 o) :
    Calls Try.prog 4 #[.int .i64 n, .int .i64 o, .slice lo m lc] w fun e w' => e = .returned (.bool true) ∧ Keeps (fun _ => False) w w' := by
  have H0 := Lib.hid h0; have HX := Lib.hid hx; have HBD := Lib.hid hb
  clear h0 hx hb
  go_enter Try.func4, Try.ntmps4
  go_wp2_with fail
  refine (arenaBegun_c _).mono ?_
  rintro e w1 ⟨rfl, hk1⟩
  have HK1 := Lib.hid hk1; clear hk1
  by_cases hm : 200 < m
  · go_wp2_with fail
    go_ret
    exact ⟨rfl, HK1.out⟩
  cases hfit : Ar.fits n o
  · go_wp2_with fail
    refine (ANew_no n o _ hfit).mono ?_
    rintro e w2 ⟨rfl, hk2⟩
    have HK2 := Lib.hid (HK1.out.trans hk2); clear hk2
    have HF := Lib.hid (show faultM n o = (1, -1) by unfold faultM; rw [hfit]; rfl)
    go_wp2_with fail
    refine (RoomFault_c n o _).mono ?_
    rintro e w3 ⟨rfl, hk3⟩
    rw [HF.out]
    dsimp only
    have HK3 := Lib.hid ((HK2.out.alloc (.cells #[.int .i64 1, .int .i64 (-1)] 26)).trans hk3)
    have hb1 := hk3.blk (show Blk (w2.alloc (.cells #[.int .i64 1, .int .i64 (-1)] 26)) w2.heap.size [.int .i64 1, .int .i64 (-1)] 26 from Blk.newAt _ rfl rfl) (fun h => h)
    have b0 := hb1.cell 0; have b1 := hb1.cell 1; have bl := hb1.lt
    simp only [List.getElem?_cons_zero, List.getElem?_cons_succ] at b0 b1
    clear hk3 hb1
    go_wp2_with fail
    go_ret
    exact ⟨rfl, HK3.out.alloc _⟩
  have HN := Lib.hid (show ∃ a b : Nat, (Ar.new n o).nur = a ∧ (Ar.new n o).ws.length = a + b ∧ n = a ∧ o = b ∧ a ≤ 256 ∧ b ≤ 1024 by
    simp [Ar.fits] at hfit
    exact ⟨n.toNat, o.toNat, rfl, by simp [Ar.new]; omega, by omega, by omega, by omega, by omega⟩)
  have HF := Lib.hid (show faultM n o = (0, 0) by unfold faultM; rw [hfit]; rfl)
  have HFIT := Lib.hid hfit
  go_wp2_with fail
  refine (ANew_yes n o _ hfit).mono ?_
  rintro e w2 ⟨p, g, rfl, hA, hk2, hp, hg⟩
  obtain ⟨a, b, hna, hlb, rfl, rfl, ha, hb⟩ := HN.out
  have HI2 := Lib.hid (show ArIn w w2 p g (Ar.new a b) a b from ⟨hA, hna, hlb, HK1.out.trans hk2, Nat.le_trans HK1.out.size hp, Nat.le_trans HK1.out.size hg⟩)
  clear hA hk2 hp hg hna hlb HN HK1 hfit
  go_wp2_with fail
  refine (RoomFault_c a b _).mono ?_
  rintro e w3 ⟨rfl, hk3⟩
  rw [HF.out]
  dsimp only
  have hka := (Keeps.refl (fun _ => False) w2).alloc (.cells #[.int .i64 0, .int .i64 0] 26)
  have HI3 := Lib.hid (HI2.out.keep (hka.trans hk3))
  have hb1 := hk3.blk (show Blk (w2.alloc (.cells #[.int .i64 0, .int .i64 0] 26)) w2.heap.size [.int .i64 0, .int .i64 0] 26 from Blk.newAt _ rfl rfl) (fun h => h)
  have b0 := hb1.cell 0; have b1 := hb1.cell 1; have bl := hb1.lt
  simp only [List.getElem?_cons_zero, List.getElem?_cons_succ] at b0 b1
  clear hk3 hka hb1 HI2
  go_wp2_with fail
  refine (NewRoom_c a b _ HFIT.out).mono ?_
  rintro e w4 ⟨q, h, rfl, hR, hk4, hq, hh⟩
  have hka := (Keeps.refl (fun _ => False) w3).alloc (.cells #[.int .i64 0, .int .i64 0] 26)
  have HAD := Lib.hid (show AD w w4 p g q h (Ar.new a b) (Ar.new a b) a b by
    have hi := HI3.out.keep (hka.trans hk4)
    have hz := HI3.out.hK.size
    have hgl := HI3.out.hA.hg.lt
    simp at hq hh
    exact ⟨hi, hR, by omega, by omega, by omega⟩)
  clear hR hk4 hq hh hka HI3 b0 b1 bl
  go_wp2_with fail
  refine wp_loop_over (fun i => Nat.blt 57 i || Nat.blt 10 i && Nat.blt i 30) (fun s wr => ∃ (k : Nat) (A : Ar), k ≤ m ∧ s 11 = .int .i64 k ∧ AD w wr p g q h A A a b) (fun s _ => m - (intOf (s 11)).toNat) ?_ ?_
  · exact ⟨0, _, Nat.zero_le _, rfl, HAD.out⟩
  · intro u wr hrel K hK
    clear HAD
    obtain ⟨k, A, hk, e11, hD⟩ := hrel
    have e11 : u 11 = .int .i64 k := e11
    have GI := Lib.hid hD; clear hD
    simp only [overA, overL, List.toList_toArray, Nat.blt, Nat.beq, Nat.ble, Nat.reduceAdd, Bool.or_false, Bool.false_or, Bool.or_true, Bool.true_or, Bool.and_true, Bool.true_and, Bool.and_false, Bool.false_and, cond_true, cond_false]
    rw [e11]
    have E11 := Lib.hid e11; clear e11
    by_cases hlt : k < m
    · have hrd := H0.out.keep GI.out.hI.hK (fun _ _ _ h => h)
      obtain ⟨gs, os, rfl, hgl, d0⟩ := hrd.nth (k * 4) (by rw [HX.out]; omega)
      obtain ⟨_, _, e', _, d1⟩ := hrd.nth (k * 4 + 1) (by rw [HX.out]; omega)
      cases e'
      obtain ⟨_, _, e', _, d2⟩ := hrd.nth (k * 4 + 2) (by rw [HX.out]; omega)
      cases e'
      obtain ⟨_, _, e', _, d3⟩ := hrd.nth (k * 4 + 3) (by rw [HX.out]; omega)
      cases e'
      rw [← Nat.add_assoc] at d1 d2 d3
      have hy : ∀ j, j < 4 → R64 (xs.getD (k * 4 + j) 0) := fun j hj => HBD.out _ (by rw [List.getD_eq_getElem?_getD, List.getElem?_eq_getElem (by rw [HX.out]; omega)]; exact List.getElem_mem _)
      have HY1 := Lib.hid (hy 1 (by decide)); have HY2 := Lib.hid (hy 2 (by decide)); have HY3 := Lib.hid (hy 3 (by decide))
      generalize xs.getD (k * 4) 0 = d at *
      generalize xs.getD (k * 4 + 1) 0 = x at *
      generalize xs.getD (k * 4 + 2) 0 = y at *
      generalize xs.getD (k * 4 + 3) 0 = z at *
      clear hrd hy
      have HOK := Lib.hid GI.out.hI.hA.ok
      have o1 := HOK.out.h1; have o2 := HOK.out.h2; have o3 := HOK.out.h3; have o4 := HOK.out.h4
      go_upto_region 14 with (refine wpList_agg rfl 40 (.tmp 66) rfl [.int .i64 d, .int .i64 x, .int .i64 y, .int .i64 z] (by kernel_rfl) gs (os + k * 4) rfl (rangeAt_cons d0 (rangeAt_cons d1 (rangeAt_cons d2 (rangeAt_cons d3 rangeAt_nil)))) ?_)
      clear d0 d1 d2 d3 hgl
      have hbk := Blk.newAt (w := wr) (b := wr.heap.size) (T := 40) #[.int .i64 d, .int .i64 x, .int .i64 y, .int .i64 z] rfl rfl
      have hka := (Keeps.refl (fun _ => False) wr).alloc (.cells #[.int .i64 d, .int .i64 x, .int .i64 y, .int .i64 z] 40)
      have hIb := GI.out.keep hka
      generalize wr.alloc (.cells #[.int .i64 d, .int .i64 x, .int .i64 y, .int .i64 z] 40) = wb at *
      generalize wr.heap.size = be at *
      have HB := Lib.hid hbk; have HI := Lib.hid hIb
      clear hbk hka hIb GI
      have b1 := HB.out.cell 1; have b2 := HB.out.cell 2; have b3 := HB.out.cell 3; have bl := HB.out.lt; have b0 := HB.out.cell 0
      simp only [List.getElem?_cons_zero, List.getElem?_cons_succ] at b0 b1 b2 b3
      refine wp_cut_over (fun i => Nat.blt 57 i || Nat.beq i 13) (fun s wx => s 13 = .bool (A.inUse x) ∧ AD w wx p g q h A A a b ∧ Blk wx be [.int .i64 d, .int .i64 x, .int .i64 y, .int .i64 z] 40) ?_ ?_
      · intro K hK
        cases hy : A.young x
        · cases ho : A.old x
          · as_aux_lemma =>
            have HIN := Lib.hid (show A.inUse x = false by unfold Ar.inUse; rw [hy, ho]; rfl)
            go_wp2_with fail
            refine (IsYoung_c x _ HI.out.hR).mono ?_
            rintro e w5 ⟨rfl, rfl⟩
            rw [hy]
            go_wp2_with fail
            refine (IsOld_c x _ HI.out.hR HY1.out).mono ?_
            rintro e w5 ⟨rfl, hk5⟩
            rw [ho]
            have HI5 := Lib.hid (HI.out.keep hk5); have HB5 := Lib.hid (hk5.blk HB.out (fun h => h))
            go_wp2_with fail
            refine ⟨by kernel_rfl, ?_⟩
            exact ⟨by rw [HIN.out]; rfl, HI5.out, HB5.out⟩
          · as_aux_lemma =>
            have HIN := Lib.hid (show A.inUse x = true by unfold Ar.inUse; rw [hy, ho]; rfl)
            go_wp2_with fail
            refine (IsYoung_c x _ HI.out.hR).mono ?_
            rintro e w5 ⟨rfl, rfl⟩
            rw [hy]
            go_wp2_with fail
            refine (IsOld_c x _ HI.out.hR HY1.out).mono ?_
            rintro e w5 ⟨rfl, hk5⟩
            rw [ho]
            have HI5 := Lib.hid (HI.out.keep hk5); have HB5 := Lib.hid (hk5.blk HB.out (fun h => h))
            go_wp2_with fail
            refine ⟨by kernel_rfl, ?_⟩
            exact ⟨by rw [HIN.out]; rfl, HI5.out, HB5.out⟩
        · as_aux_lemma =>
          have HIN := Lib.hid (show A.inUse x = true by unfold Ar.inUse; rw [hy]; rfl)
          go_wp2_with fail
          refine (IsYoung_c x _ HI.out.hR).mono ?_
          rintro e w5 ⟨rfl, rfl⟩
          rw [hy]
          go_wp2_with fail
          refine ⟨by kernel_rfl, ?_⟩
          exact ⟨by rw [HIN.out]; rfl, HI.out, HB.out⟩
      · intro u wb hrel
        clear HB HI b0 b1 b2 b3 bl
        obtain ⟨e13, hI5, hB5⟩ := hrel
        have e13 : u 13 = .bool (A.inUse x) := e13
        simp only [overA, overL, List.toList_toArray, Nat.blt, Nat.beq, Nat.ble, Nat.reduceAdd, Bool.or_false, Bool.false_or, Bool.or_true, Bool.true_or, Bool.and_true, Bool.true_and, Bool.and_false, Bool.false_and, cond_true, cond_false]
        rw [e13]
        clear e13
        have HI := Lib.hid hI5; have HB := Lib.hid hB5
        clear hI5 hB5
        have b0 := HB.out.cell 0; have b1 := HB.out.cell 1; have b2 := HB.out.cell 2; have b3 := HB.out.cell 3; have bl := HB.out.lt
        simp only [List.getElem?_cons_zero, List.getElem?_cons_succ] at b0 b1 b2 b3
        go_upto_block 2 with fail
        refine wp_cut_over (fun i => Nat.blt 57 i || Nat.beq i 13) (fun s wx => ∃ A : Ar, AD w wx p g q h A A a b ∧ Blk wx be [.int .i64 d, .int .i64 x, .int .i64 y, .int .i64 z] 40) ?_ ?_
        · intro K hK
          have NB : Hid (∀ (wx : World) (A' B' : Ar), AD w wx p g q h A' B' a b → ∀ {c : List Value}, Blk wx be c 40 → ¬ (be = p ∨ be = g) ∧ ¬ (be = q ∨ be = h)) := fun wx A' B' H c hb => H.nb hb (by decide) (by decide) (by decide)
          by_cases hd0 : d = 0
          · as_aux_lemma =>
            subst hd0
            go_wp2_with fail
            refine wp_region_ro (.free 0 (.free 1 (.free 3 (.free 6 (.free 7 (.free 9 (.pure 2 (.pure 4 (.pure 8 (.pure 10 (.run 5 (.run 11 (.swi [] (.free 12 (.fin))))))))))))))) [11, 12] (fun w' => w'.cell? ⟨be, 1, none⟩ = some (.int .i64 x) ∧ w'.cell? ⟨be, 2, none⟩ = some (.int .i64 y)) (by kernel_rfl) (by kernel_rfl) ⟨b1, b2⟩ ?_
            first | (refine wpRO_free rfl rfl _ (fun w' => by go_simp; exact Gives.mk _ _) (fun K hK => ?_); go_simp; refine hK _ ?_; clear hK K) | (refine wpRO_skipF rfl rfl (fun K hK => ?_); go_simp; refine hK _ ?_; clear hK K)
            first | (refine wpRO_free rfl rfl _ (fun w' => by go_simp; exact Gives.mk _ _) (fun K hK => ?_); go_simp; refine hK _ ?_; clear hK K) | (refine wpRO_skipF rfl rfl (fun K hK => ?_); go_simp; refine hK _ ?_; clear hK K)
            first | (refine wpRO_free rfl rfl _ (fun w' => by go_simp; exact Gives.mk _ _) (fun K hK => ?_); go_simp; refine hK _ ?_; clear hK K) | (refine wpRO_skipF rfl rfl (fun K hK => ?_); go_simp; refine hK _ ?_; clear hK K)
            first | (refine wpRO_free rfl rfl _ (fun w' => by go_simp; exact Gives.mk _ _) (fun K hK => ?_); go_simp; refine hK _ ?_; clear hK K) | (refine wpRO_skipF rfl rfl (fun K hK => ?_); go_simp; refine hK _ ?_; clear hK K)
            first | (refine wpRO_free rfl rfl _ (fun w' => by go_simp; exact Gives.mk _ _) (fun K hK => ?_); go_simp; refine hK _ ?_; clear hK K) | (refine wpRO_skipF rfl rfl (fun K hK => ?_); go_simp; refine hK _ ?_; clear hK K)
            first | (refine wpRO_free rfl rfl _ (fun w' => by go_simp; exact Gives.mk _ _) (fun K hK => ?_); go_simp; refine hK _ ?_; clear hK K) | (refine wpRO_skipF rfl rfl (fun K hK => ?_); go_simp; refine hK _ ?_; clear hK K)
            first | (refine wpRO_pure rfl rfl _ (fun w' hG => by obtain ⟨g0, g1⟩ := hG; exact gives_agg2 rfl (by decide +kernel) rfl (by assumption) (by assumption)) (fun K hK => ?_); go_simp; refine hK _ ?_; clear hK K) | (refine wpRO_pure rfl rfl _ (fun w' hG => by obtain ⟨g0, g1⟩ := hG; go_simp; exact Gives.mk _ _) (fun K hK => ?_); go_simp; refine hK _ ?_; clear hK K) | (refine wpRO_skip rfl rfl (fun K hK => ?_); go_simp; refine hK _ ?_; clear hK K)
            first | (refine wpRO_pure rfl rfl _ (fun w' hG => by obtain ⟨g0, g1⟩ := hG; exact gives_agg2 rfl (by decide +kernel) rfl (by assumption) (by assumption)) (fun K hK => ?_); go_simp; refine hK _ ?_; clear hK K) | (refine wpRO_pure rfl rfl _ (fun w' hG => by obtain ⟨g0, g1⟩ := hG; go_simp; exact Gives.mk _ _) (fun K hK => ?_); go_simp; refine hK _ ?_; clear hK K) | (refine wpRO_skip rfl rfl (fun K hK => ?_); go_simp; refine hK _ ?_; clear hK K)
            first | (refine wpRO_pure rfl rfl _ (fun w' hG => by obtain ⟨g0, g1⟩ := hG; exact gives_agg2 rfl (by decide +kernel) rfl (by assumption) (by assumption)) (fun K hK => ?_); go_simp; refine hK _ ?_; clear hK K) | (refine wpRO_pure rfl rfl _ (fun w' hG => by obtain ⟨g0, g1⟩ := hG; go_simp; exact Gives.mk _ _) (fun K hK => ?_); go_simp; refine hK _ ?_; clear hK K) | (refine wpRO_skip rfl rfl (fun K hK => ?_); go_simp; refine hK _ ?_; clear hK K)
            first | (refine wpRO_pure rfl rfl _ (fun w' hG => by obtain ⟨g0, g1⟩ := hG; exact gives_agg2 rfl (by decide +kernel) rfl (by assumption) (by assumption)) (fun K hK => ?_); go_simp; refine hK _ ?_; clear hK K) | (refine wpRO_pure rfl rfl _ (fun w' hG => by obtain ⟨g0, g1⟩ := hG; go_simp; exact Gives.mk _ _) (fun K hK => ?_); go_simp; refine hK _ ?_; clear hK K) | (refine wpRO_skip rfl rfl (fun K hK => ?_); go_simp; refine hK _ ?_; clear hK K)
            refine wpRO_run rfl rfl (fun K hK => ?_); unfold gRun; go_simp
            refine (Make_c x y _ (HI.out.keep (Keeps.refl _ wb).drew).hI.hA HY2.out).mono ?_
            rintro e w5 ⟨rfl, ht⟩
            have HI5 := Lib.hid ((HI.out.keep (Keeps.refl _ wb).drew).toA ht Ar.make_nur (Ar.make_len HOK.out))
            have HB5 := Lib.hid (ht.k.blk HB.out.drew (NB.out _ _ _ (HI.out.keep (Keeps.refl _ wb).drew) HB.out.drew).1)
            refine hK _ _ (fun _ => ⟨HB5.out.cell 1, HB5.out.cell 2⟩) ?_
            clear hK K ht
            refine wpRO_chg rfl rfl rfl (fun K hK => ?_); unfold gRun; go_simp
            refine (RMake_c x y _ HI5.out.hR HY2.out).mono ?_
            rintro e w6 ⟨rfl, ht⟩
            have HI6 := Lib.hid (HI5.out.toB ht)
            have HB6 := Lib.hid (ht.k.blk HB5.out (NB.out _ _ _ HI5.out HB5.out).2)
            refine hK _ _ ?_
            clear hK K ht
            refine wpRO_swi (fun _ => True) trivial ?_
            first | (refine wpRO_free rfl rfl _ (fun w' => by go_simp; exact Gives.mk _ _) (fun K hK => ?_); go_simp; refine hK _ ?_; clear hK K) | (refine wpRO_skipF rfl rfl (fun K hK => ?_); go_simp; refine hK _ ?_; clear hK K)
            refine wpRO_fin ?_
            go_wp2_with fail
            refine ⟨by kernel_rfl, ?_⟩
            exact ⟨_, HI6.out, HB6.out⟩
          by_cases hd1 : d = 1
          · as_aux_lemma =>
            subst hd1
            clear hd0
            go_wp2_with fail
            refine wp_region_ro (.free 0 (.free 1 (.free 4 (.free 5 (.pure 2 (.pure 6 (.run 3 (.run 7 (.swi [] (.free 8 (.fin))))))))))) [7, 8] (fun w' => w'.cell? ⟨be, 1, none⟩ = some (.int .i64 x)) (by kernel_rfl) (by kernel_rfl) b1 ?_
            first | (refine wpRO_free rfl rfl _ (fun w' => by go_simp; exact Gives.mk _ _) (fun K hK => ?_); go_simp; refine hK _ ?_; clear hK K) | (refine wpRO_skipF rfl rfl (fun K hK => ?_); go_simp; refine hK _ ?_; clear hK K)
            first | (refine wpRO_free rfl rfl _ (fun w' => by go_simp; exact Gives.mk _ _) (fun K hK => ?_); go_simp; refine hK _ ?_; clear hK K) | (refine wpRO_skipF rfl rfl (fun K hK => ?_); go_simp; refine hK _ ?_; clear hK K)
            first | (refine wpRO_free rfl rfl _ (fun w' => by go_simp; exact Gives.mk _ _) (fun K hK => ?_); go_simp; refine hK _ ?_; clear hK K) | (refine wpRO_skipF rfl rfl (fun K hK => ?_); go_simp; refine hK _ ?_; clear hK K)
            first | (refine wpRO_free rfl rfl _ (fun w' => by go_simp; exact Gives.mk _ _) (fun K hK => ?_); go_simp; refine hK _ ?_; clear hK K) | (refine wpRO_skipF rfl rfl (fun K hK => ?_); go_simp; refine hK _ ?_; clear hK K)
            first | (refine wpRO_pure rfl rfl _ (fun w' hG => by obtain g0 := hG; exact gives_agg2 rfl (by decide +kernel) rfl (by assumption) (by assumption)) (fun K hK => ?_); go_simp; refine hK _ ?_; clear hK K) | (refine wpRO_pure rfl rfl _ (fun w' hG => by obtain g0 := hG; go_simp; exact Gives.mk _ _) (fun K hK => ?_); go_simp; refine hK _ ?_; clear hK K) | (refine wpRO_skip rfl rfl (fun K hK => ?_); go_simp; refine hK _ ?_; clear hK K)
            first | (refine wpRO_pure rfl rfl _ (fun w' hG => by obtain g0 := hG; exact gives_agg2 rfl (by decide +kernel) rfl (by assumption) (by assumption)) (fun K hK => ?_); go_simp; refine hK _ ?_; clear hK K) | (refine wpRO_pure rfl rfl _ (fun w' hG => by obtain g0 := hG; go_simp; exact Gives.mk _ _) (fun K hK => ?_); go_simp; refine hK _ ?_; clear hK K) | (refine wpRO_skip rfl rfl (fun K hK => ?_); go_simp; refine hK _ ?_; clear hK K)
            refine wpRO_run rfl rfl (fun K hK => ?_); unfold gRun; go_simp
            refine (ACopy_c x _ (HI.out.keep (Keeps.refl _ wb).drew).hI.hA).mono ?_
            rintro e w5 ⟨rfl, ht⟩
            have HI5 := Lib.hid ((HI.out.keep (Keeps.refl _ wb).drew).toA ht (Ar.copy_nur x) (Ar.copy_len HOK.out x))
            have HB5 := Lib.hid (ht.k.blk HB.out.drew (NB.out _ _ _ (HI.out.keep (Keeps.refl _ wb).drew) HB.out.drew).1)
            refine hK _ _ (fun _ => HB5.out.cell 1) ?_
            clear hK K ht
            refine wpRO_chg rfl rfl rfl (fun K hK => ?_); unfold gRun; go_simp
            refine (RCopy_c x _ HI5.out.hR HY1.out).mono ?_
            rintro e w6 ⟨rfl, ht⟩
            have HI6 := Lib.hid (HI5.out.toB ht)
            have HB6 := Lib.hid (ht.k.blk HB5.out (NB.out _ _ _ HI5.out HB5.out).2)
            refine hK _ _ ?_
            clear hK K ht
            refine wpRO_swi (fun _ => True) trivial ?_
            first | (refine wpRO_free rfl rfl _ (fun w' => by go_simp; exact Gives.mk _ _) (fun K hK => ?_); go_simp; refine hK _ ?_; clear hK K) | (refine wpRO_skipF rfl rfl (fun K hK => ?_); go_simp; refine hK _ ?_; clear hK K)
            refine wpRO_fin ?_
            go_wp2_with fail
            refine ⟨by kernel_rfl, ?_⟩
            exact ⟨_, HI6.out, HB6.out⟩
          by_cases hd2 : d = 2
          · as_aux_lemma =>
            subst hd2
            clear hd0 hd1
            go_wp2_with fail
            refine (Store_c x z _ HI.out.hI.hA HY3.out).mono ?_
            rintro e w5 ⟨rfl, ht⟩
            have HI5 := Lib.hid (HI.out.toA ht (A.store_nur x z) (A.store_len x z))
            have HB5 := Lib.hid (ht.k.blk HB.out (NB.out _ _ _ HI.out HB.out).1)
            clear ht b0 b1 b2 b3 bl
            cases hu : A.inUse x
            · have HS := Lib.hid (show A.store x z = A by unfold Ar.store; rw [hu]; rfl)
              clear hu
              go_wp2_with fail
              refine ⟨by kernel_rfl, ?_⟩
              exact ⟨A, by have := HI5.out; rw [HS.out] at this; exact this, HB5.out⟩
            · have hlt2 := HOK.out.use_lt hu
              have HU := Lib.hid hu; clear hu
              obtain ⟨xn, rfl⟩ : ∃ xn : Nat, x = xn := ⟨x.toNat, by omega⟩
              have hlt3 : (xn : Int) < A.ws.length := hlt2.2
              obtain ⟨c0, -, -, -⟩ := HI5.out.hR.cells
              have ql := HI5.out.hR.hp.lt; have c4 := HI5.out.hR.word xn (by omega); have f4 := HI5.out.hR.hg.free xn; have hl := HI5.out.hR.hg.lt
              have b1 := HB5.out.cell 1; have b3 := HB5.out.cell 3; have bl := HB5.out.lt
              simp only [List.getElem?_cons_zero, List.getElem?_cons_succ] at b1 b3
              clear hlt2
              go_wp2_with fail
              refine wp_region_ro (.free 0 (.free 1 (.free 2 (.free 4 (.free 6 (.pure 3 (.pure 5 (.pure 7 (.free 8 (.run 9 (.swi [] (.fin)))))))))))) [9] (fun w' => w'.cell? ⟨q, 0, none⟩ = some (.slice (some ⟨h, 0, none⟩) A.ws.length A.ws.length) ∧ w'.cell? ⟨be, 1, none⟩ = some (.int .i64 xn) ∧ w'.cell? ⟨be, 3, none⟩ = some (.int .i64 z)) (by kernel_rfl) (by kernel_rfl) ⟨c0, b1, b3⟩ ?_
              first | (refine wpRO_free rfl rfl _ (fun w' => by go_simp; exact Gives.mk _ _) (fun K hK => ?_); go_simp; refine hK _ ?_; clear hK K) | (refine wpRO_skipF rfl rfl (fun K hK => ?_); go_simp; refine hK _ ?_; clear hK K)
              first | (refine wpRO_free rfl rfl _ (fun w' => by go_simp; exact Gives.mk _ _) (fun K hK => ?_); go_simp; refine hK _ ?_; clear hK K) | (refine wpRO_skipF rfl rfl (fun K hK => ?_); go_simp; refine hK _ ?_; clear hK K)
              first | (refine wpRO_free rfl rfl _ (fun w' => by go_simp; exact Gives.mk _ _) (fun K hK => ?_); go_simp; refine hK _ ?_; clear hK K) | (refine wpRO_skipF rfl rfl (fun K hK => ?_); go_simp; refine hK _ ?_; clear hK K)
              first | (refine wpRO_free rfl rfl _ (fun w' => by go_simp; exact Gives.mk _ _) (fun K hK => ?_); go_simp; refine hK _ ?_; clear hK K) | (refine wpRO_skipF rfl rfl (fun K hK => ?_); go_simp; refine hK _ ?_; clear hK K)
              first | (refine wpRO_free rfl rfl _ (fun w' => by go_simp; exact Gives.mk _ _) (fun K hK => ?_); go_simp; refine hK _ ?_; clear hK K) | (refine wpRO_skipF rfl rfl (fun K hK => ?_); go_simp; refine hK _ ?_; clear hK K)
              first | (refine wpRO_pure rfl rfl _ (fun w' hG => by obtain ⟨g0, g1, g2⟩ := hG; exact gives_agg2 rfl (by decide +kernel) rfl (by assumption) (by assumption)) (fun K hK => ?_); go_simp; refine hK _ ?_; clear hK K) | (refine wpRO_pure rfl rfl _ (fun w' hG => by obtain ⟨g0, g1, g2⟩ := hG; go_simp; exact Gives.mk _ _) (fun K hK => ?_); go_simp; refine hK _ ?_; clear hK K) | (refine wpRO_skip rfl rfl (fun K hK => ?_); go_simp; refine hK _ ?_; clear hK K)
              first | (refine wpRO_pure rfl rfl _ (fun w' hG => by obtain ⟨g0, g1, g2⟩ := hG; exact gives_agg2 rfl (by decide +kernel) rfl (by assumption) (by assumption)) (fun K hK => ?_); go_simp; refine hK _ ?_; clear hK K) | (refine wpRO_pure rfl rfl _ (fun w' hG => by obtain ⟨g0, g1, g2⟩ := hG; go_simp; exact Gives.mk _ _) (fun K hK => ?_); go_simp; refine hK _ ?_; clear hK K) | (refine wpRO_skip rfl rfl (fun K hK => ?_); go_simp; refine hK _ ?_; clear hK K)
              first | (refine wpRO_pure rfl rfl _ (fun w' hG => by obtain ⟨g0, g1, g2⟩ := hG; exact gives_agg2 rfl (by decide +kernel) rfl (by assumption) (by assumption)) (fun K hK => ?_); go_simp; refine hK _ ?_; clear hK K) | (refine wpRO_pure rfl rfl _ (fun w' hG => by obtain ⟨g0, g1, g2⟩ := hG; go_simp; exact Gives.mk _ _) (fun K hK => ?_); go_simp; refine hK _ ?_; clear hK K) | (refine wpRO_skip rfl rfl (fun K hK => ?_); go_simp; refine hK _ ?_; clear hK K)
              first | (refine wpRO_free rfl rfl _ (fun w' => by go_simp; exact Gives.mk _ _) (fun K hK => ?_); go_simp; refine hK _ ?_; clear hK K) | (refine wpRO_skipF rfl rfl (fun K hK => ?_); go_simp; refine hK _ ?_; clear hK K)
              refine wpRO_chg rfl rfl rfl (fun K hK => ?_); unfold gRun; go_simp
              refine hK _ _ ?_
              clear hK K
              refine wpRO_swi (fun _ => True) trivial (wpRO_fin ?_)
              have ht6 := HI5.out.hR.set z HY3.out HU.out
              have HI6 := Lib.hid ((HI5.out.toB ht6).keep (Keeps.refl (fun _ => False) _).drew); have HB6 := Lib.hid (ht6.k.blk HB5.out (NB.out _ _ _ HI5.out HB5.out).2).drew
              clear ht6 c0 c4 f4
              go_wp2_with fail
              refine ⟨by kernel_rfl, ?_⟩
              exact ⟨_, HI6.out, HB6.out⟩
          by_cases hd3 : d = 3
          · as_aux_lemma =>
            subst hd3
            clear hd0 hd1 hd2 b0 b1 b2 b3 bl
            go_wp2_with fail
            refine (AClear_c _ HI.out.hI.hA).mono ?_
            rintro e w5 ⟨rfl, ht⟩
            have HI5 := Lib.hid (HI.out.toA ht rfl rfl)
            have HB5 := Lib.hid (ht.k.blk HB.out (NB.out _ _ _ HI.out HB.out).1)
            have c2 := HI5.out.hR.hp.cell 2; have ql := HI5.out.hR.hp.lt; have f2 := HI5.out.hR.hp.free 2
            simp only [List.getElem?_cons_zero, List.getElem?_cons_succ] at c2
            clear ht
            go_wp2_with fail
            have ht6 := HI5.out.hR.clear
            refine ⟨by kernel_rfl, ?_⟩
            exact ⟨_, HI5.out.toB ht6, ht6.k.blk HB5.out (NB.out _ _ _ HI5.out HB5.out).2⟩
          by_cases hd4 : d = 4
          · as_aux_lemma =>
            subst hd4
            clear hd0 hd1 hd2 hd3
            obtain ⟨-, -, -, c3⟩ := HI.out.hR.cells
            have ql := HI.out.hR.hp.lt; have f3 := HI.out.hR.hp.free 3
            by_cases hx0 : 0 ≤ x
            · by_cases hx1 : x ≤ ((A.grn - A.nur : Nat) : Int)
              · obtain ⟨xn, rfl⟩ : ∃ xn : Nat, x = xn := ⟨x.toNat, by omega⟩
                have HFIT := Lib.hid (show A.nur + xn ≤ A.ws.length by omega)
                go_wp2_with fail
                refine wp_region_ro (.free 0 (.pure 1 (.free 2 (.free 3 (.free 4 (.free 6 (.free 7 (.free 8 (.pure 5 (.pure 9 (.free 10 (.free 11 (.fin))))))))))))) [] (fun w' => w'.cell? ⟨be, 1, none⟩ = some (.int .i64 xn) ∧ w'.cell? ⟨q, 3, none⟩ = some (.int .i64 ((A.grn - A.nur : Nat) : Int))) (by kernel_rfl) (by kernel_rfl) ⟨b1, c3⟩ ?_
                first | (refine wpRO_free rfl rfl _ (fun w' => by go_simp; exact Gives.mk _ _) (fun K hK => ?_); go_simp; refine hK _ ?_; clear hK K) | (refine wpRO_skipF rfl rfl (fun K hK => ?_); go_simp; refine hK _ ?_; clear hK K)
                first | (refine wpRO_pure rfl rfl _ (fun w' hG => by obtain ⟨g0, g1⟩ := hG; exact gives_agg2 rfl (by decide +kernel) rfl (by assumption) (by assumption)) (fun K hK => ?_); go_simp; refine hK _ ?_; clear hK K) | (refine wpRO_pure rfl rfl _ (fun w' hG => by obtain ⟨g0, g1⟩ := hG; go_simp; exact Gives.mk _ _) (fun K hK => ?_); go_simp; refine hK _ ?_; clear hK K) | (refine wpRO_skip rfl rfl (fun K hK => ?_); go_simp; refine hK _ ?_; clear hK K)
                first | (refine wpRO_free rfl rfl _ (fun w' => by go_simp; exact Gives.mk _ _) (fun K hK => ?_); go_simp; refine hK _ ?_; clear hK K) | (refine wpRO_skipF rfl rfl (fun K hK => ?_); go_simp; refine hK _ ?_; clear hK K)
                first | (refine wpRO_free rfl rfl _ (fun w' => by go_simp; exact Gives.mk _ _) (fun K hK => ?_); go_simp; refine hK _ ?_; clear hK K) | (refine wpRO_skipF rfl rfl (fun K hK => ?_); go_simp; refine hK _ ?_; clear hK K)
                first | (refine wpRO_free rfl rfl _ (fun w' => by go_simp; exact Gives.mk _ _) (fun K hK => ?_); go_simp; refine hK _ ?_; clear hK K) | (refine wpRO_skipF rfl rfl (fun K hK => ?_); go_simp; refine hK _ ?_; clear hK K)
                first | (refine wpRO_free rfl rfl _ (fun w' => by go_simp; exact Gives.mk _ _) (fun K hK => ?_); go_simp; refine hK _ ?_; clear hK K) | (refine wpRO_skipF rfl rfl (fun K hK => ?_); go_simp; refine hK _ ?_; clear hK K)
                first | (refine wpRO_free rfl rfl _ (fun w' => by go_simp; exact Gives.mk _ _) (fun K hK => ?_); go_simp; refine hK _ ?_; clear hK K) | (refine wpRO_skipF rfl rfl (fun K hK => ?_); go_simp; refine hK _ ?_; clear hK K)
                first | (refine wpRO_free rfl rfl _ (fun w' => by go_simp; exact Gives.mk _ _) (fun K hK => ?_); go_simp; refine hK _ ?_; clear hK K) | (refine wpRO_skipF rfl rfl (fun K hK => ?_); go_simp; refine hK _ ?_; clear hK K)
                first | (refine wpRO_pure rfl rfl _ (fun w' hG => by obtain ⟨g0, g1⟩ := hG; exact gives_agg2 rfl (by decide +kernel) rfl (by assumption) (by assumption)) (fun K hK => ?_); go_simp; refine hK _ ?_; clear hK K) | (refine wpRO_pure rfl rfl _ (fun w' hG => by obtain ⟨g0, g1⟩ := hG; go_simp; exact Gives.mk _ _) (fun K hK => ?_); go_simp; refine hK _ ?_; clear hK K) | (refine wpRO_skip rfl rfl (fun K hK => ?_); go_simp; refine hK _ ?_; clear hK K)
                first | (refine wpRO_pure rfl rfl _ (fun w' hG => by obtain ⟨g0, g1⟩ := hG; exact gives_agg2 rfl (by decide +kernel) rfl (by assumption) (by assumption)) (fun K hK => ?_); go_simp; refine hK _ ?_; clear hK K) | (refine wpRO_pure rfl rfl _ (fun w' hG => by obtain ⟨g0, g1⟩ := hG; go_simp; exact Gives.mk _ _) (fun K hK => ?_); go_simp; refine hK _ ?_; clear hK K) | (refine wpRO_skip rfl rfl (fun K hK => ?_); go_simp; refine hK _ ?_; clear hK K)
                first | (refine wpRO_free rfl rfl _ (fun w' => by go_simp; exact Gives.mk _ _) (fun K hK => ?_); go_simp; refine hK _ ?_; clear hK K) | (refine wpRO_skipF rfl rfl (fun K hK => ?_); go_simp; refine hK _ ?_; clear hK K)
                first | (refine wpRO_free rfl rfl _ (fun w' => by go_simp; exact Gives.mk _ _) (fun K hK => ?_); go_simp; refine hK _ ?_; clear hK K) | (refine wpRO_skipF rfl rfl (fun K hK => ?_); go_simp; refine hK _ ?_; clear hK K)
                refine wpRO_fin ?_
                have HI5 := Lib.hid (HI.out.keep (Keeps.refl (fun _ => False) wb).drew); have HB5 := Lib.hid (HB.out.drew)
                generalize wb.drew = wd at *
                clear b0 b1 b2 b3 bl c3 ql f3
                have b1 := HB5.out.cell 1; have bl := HB5.out.lt
                simp only [List.getElem?_cons_zero, List.getElem?_cons_succ] at b1
                go_wp2_with fail
                refine (ACut_c xn _ HI5.out.hI.hA HFIT.out).mono ?_
                rintro e w5 ⟨rfl, ht⟩
                have HI6 := Lib.hid (HI5.out.toA ht rfl rfl)
                have HB6 := Lib.hid (ht.k.blk HB5.out (NB.out _ _ _ HI5.out HB5.out).1)
                clear ht b1 bl
                have b1 := HB6.out.cell 1; have bl := HB6.out.lt
                have c3 := HI6.out.hR.hp.cell 3; have ql := HI6.out.hR.hp.lt; have f3 := HI6.out.hR.hp.free 3
                simp only [List.getElem?_cons_zero, List.getElem?_cons_succ] at b1 c3
                go_wp2_with fail
                have ht7 := HI6.out.hR.cut HFIT.out
                refine ⟨by kernel_rfl, ?_⟩
                exact ⟨_, HI6.out.toB ht7, ht7.k.blk HB6.out (NB.out _ _ _ HI6.out HB6.out).2⟩
              · have hd1x : decide (x ≤ ((A.grn - A.nur : Nat) : Int)) = false := by simpa using hx1
                go_wp2_with fail
                refine wp_region_ro (.free 0 (.pure 1 (.free 2 (.free 3 (.free 4 (.free 6 (.free 7 (.free 8 (.pure 5 (.pure 9 (.free 10 (.free 11 (.fin))))))))))))) [] (fun w' => w'.cell? ⟨be, 1, none⟩ = some (.int .i64 x) ∧ w'.cell? ⟨q, 3, none⟩ = some (.int .i64 ((A.grn - A.nur : Nat) : Int))) (by kernel_rfl) (by kernel_rfl) ⟨b1, c3⟩ ?_
                first | (refine wpRO_free rfl rfl _ (fun w' => by go_simp; exact Gives.mk _ _) (fun K hK => ?_); go_simp; refine hK _ ?_; clear hK K) | (refine wpRO_skipF rfl rfl (fun K hK => ?_); go_simp; refine hK _ ?_; clear hK K)
                first | (refine wpRO_pure rfl rfl _ (fun w' hG => by obtain ⟨g0, g1⟩ := hG; exact gives_agg2 rfl (by decide +kernel) rfl (by assumption) (by assumption)) (fun K hK => ?_); go_simp; refine hK _ ?_; clear hK K) | (refine wpRO_pure rfl rfl _ (fun w' hG => by obtain ⟨g0, g1⟩ := hG; go_simp; exact Gives.mk _ _) (fun K hK => ?_); go_simp; refine hK _ ?_; clear hK K) | (refine wpRO_skip rfl rfl (fun K hK => ?_); go_simp; refine hK _ ?_; clear hK K)
                first | (refine wpRO_free rfl rfl _ (fun w' => by go_simp; exact Gives.mk _ _) (fun K hK => ?_); go_simp; refine hK _ ?_; clear hK K) | (refine wpRO_skipF rfl rfl (fun K hK => ?_); go_simp; refine hK _ ?_; clear hK K)
                first | (refine wpRO_free rfl rfl _ (fun w' => by go_simp; exact Gives.mk _ _) (fun K hK => ?_); go_simp; refine hK _ ?_; clear hK K) | (refine wpRO_skipF rfl rfl (fun K hK => ?_); go_simp; refine hK _ ?_; clear hK K)
                first | (refine wpRO_free rfl rfl _ (fun w' => by go_simp; exact Gives.mk _ _) (fun K hK => ?_); go_simp; refine hK _ ?_; clear hK K) | (refine wpRO_skipF rfl rfl (fun K hK => ?_); go_simp; refine hK _ ?_; clear hK K)
                first | (refine wpRO_free rfl rfl _ (fun w' => by go_simp; exact Gives.mk _ _) (fun K hK => ?_); go_simp; refine hK _ ?_; clear hK K) | (refine wpRO_skipF rfl rfl (fun K hK => ?_); go_simp; refine hK _ ?_; clear hK K)
                first | (refine wpRO_free rfl rfl _ (fun w' => by go_simp; exact Gives.mk _ _) (fun K hK => ?_); go_simp; refine hK _ ?_; clear hK K) | (refine wpRO_skipF rfl rfl (fun K hK => ?_); go_simp; refine hK _ ?_; clear hK K)
                first | (refine wpRO_free rfl rfl _ (fun w' => by go_simp; exact Gives.mk _ _) (fun K hK => ?_); go_simp; refine hK _ ?_; clear hK K) | (refine wpRO_skipF rfl rfl (fun K hK => ?_); go_simp; refine hK _ ?_; clear hK K)
                first | (refine wpRO_pure rfl rfl _ (fun w' hG => by obtain ⟨g0, g1⟩ := hG; exact gives_agg2 rfl (by decide +kernel) rfl (by assumption) (by assumption)) (fun K hK => ?_); go_simp; refine hK _ ?_; clear hK K) | (refine wpRO_pure rfl rfl _ (fun w' hG => by obtain ⟨g0, g1⟩ := hG; go_simp; exact Gives.mk _ _) (fun K hK => ?_); go_simp; refine hK _ ?_; clear hK K) | (refine wpRO_skip rfl rfl (fun K hK => ?_); go_simp; refine hK _ ?_; clear hK K)
                first | (refine wpRO_pure rfl rfl _ (fun w' hG => by obtain ⟨g0, g1⟩ := hG; exact gives_agg2 rfl (by decide +kernel) rfl (by assumption) (by assumption)) (fun K hK => ?_); go_simp; refine hK _ ?_; clear hK K) | (refine wpRO_pure rfl rfl _ (fun w' hG => by obtain ⟨g0, g1⟩ := hG; go_simp; exact Gives.mk _ _) (fun K hK => ?_); go_simp; refine hK _ ?_; clear hK K) | (refine wpRO_skip rfl rfl (fun K hK => ?_); go_simp; refine hK _ ?_; clear hK K)
                first | (refine wpRO_free rfl rfl _ (fun w' => by go_simp; exact Gives.mk _ _) (fun K hK => ?_); go_simp; refine hK _ ?_; clear hK K) | (refine wpRO_skipF rfl rfl (fun K hK => ?_); go_simp; refine hK _ ?_; clear hK K)
                first | (refine wpRO_free rfl rfl _ (fun w' => by go_simp; exact Gives.mk _ _) (fun K hK => ?_); go_simp; refine hK _ ?_; clear hK K) | (refine wpRO_skipF rfl rfl (fun K hK => ?_); go_simp; refine hK _ ?_; clear hK K)
                refine wpRO_fin ?_
                go_wp2_with fail
                refine ⟨by kernel_rfl, ?_⟩
                exact ⟨A, HI.out.keep (Keeps.refl (fun _ => False) wb).drew, HB.out.drew⟩
            · have hd1x : decide (0 ≤ x) = false := by simpa using hx0
              go_wp2_with fail
              refine wp_region_ro (.free 0 (.pure 1 (.free 2 (.free 3 (.free 4 (.free 6 (.free 7 (.free 8 (.pure 5 (.pure 9 (.free 10 (.free 11 (.fin))))))))))))) [] (fun w' => w'.cell? ⟨be, 1, none⟩ = some (.int .i64 x) ∧ w'.cell? ⟨q, 3, none⟩ = some (.int .i64 ((A.grn - A.nur : Nat) : Int))) (by kernel_rfl) (by kernel_rfl) ⟨b1, c3⟩ ?_
              first | (refine wpRO_free rfl rfl _ (fun w' => by go_simp; exact Gives.mk _ _) (fun K hK => ?_); go_simp; refine hK _ ?_; clear hK K) | (refine wpRO_skipF rfl rfl (fun K hK => ?_); go_simp; refine hK _ ?_; clear hK K)
              first | (refine wpRO_pure rfl rfl _ (fun w' hG => by obtain ⟨g0, g1⟩ := hG; exact gives_agg2 rfl (by decide +kernel) rfl (by assumption) (by assumption)) (fun K hK => ?_); go_simp; refine hK _ ?_; clear hK K) | (refine wpRO_pure rfl rfl _ (fun w' hG => by obtain ⟨g0, g1⟩ := hG; go_simp; exact Gives.mk _ _) (fun K hK => ?_); go_simp; refine hK _ ?_; clear hK K) | (refine wpRO_skip rfl rfl (fun K hK => ?_); go_simp; refine hK _ ?_; clear hK K)
              first | (refine wpRO_free rfl rfl _ (fun w' => by go_simp; exact Gives.mk _ _) (fun K hK => ?_); go_simp; refine hK _ ?_; clear hK K) | (refine wpRO_skipF rfl rfl (fun K hK => ?_); go_simp; refine hK _ ?_; clear hK K)
              first | (refine wpRO_free rfl rfl _ (fun w' => by go_simp; exact Gives.mk _ _) (fun K hK => ?_); go_simp; refine hK _ ?_; clear hK K) | (refine wpRO_skipF rfl rfl (fun K hK => ?_); go_simp; refine hK _ ?_; clear hK K)
              first | (refine wpRO_free rfl rfl _ (fun w' => by go_simp; exact Gives.mk _ _) (fun K hK => ?_); go_simp; refine hK _ ?_; clear hK K) | (refine wpRO_skipF rfl rfl (fun K hK => ?_); go_simp; refine hK _ ?_; clear hK K)
              first | (refine wpRO_free rfl rfl _ (fun w' => by go_simp; exact Gives.mk _ _) (fun K hK => ?_); go_simp; refine hK _ ?_; clear hK K) | (refine wpRO_skipF rfl rfl (fun K hK => ?_); go_simp; refine hK _ ?_; clear hK K)
              first | (refine wpRO_free rfl rfl _ (fun w' => by go_simp; exact Gives.mk _ _) (fun K hK => ?_); go_simp; refine hK _ ?_; clear hK K) | (refine wpRO_skipF rfl rfl (fun K hK => ?_); go_simp; refine hK _ ?_; clear hK K)
              first | (refine wpRO_free rfl rfl _ (fun w' => by go_simp; exact Gives.mk _ _) (fun K hK => ?_); go_simp; refine hK _ ?_; clear hK K) | (refine wpRO_skipF rfl rfl (fun K hK => ?_); go_simp; refine hK _ ?_; clear hK K)
              first | (refine wpRO_pure rfl rfl _ (fun w' hG => by obtain ⟨g0, g1⟩ := hG; exact gives_agg2 rfl (by decide +kernel) rfl (by assumption) (by assumption)) (fun K hK => ?_); go_simp; refine hK _ ?_; clear hK K) | (refine wpRO_pure rfl rfl _ (fun w' hG => by obtain ⟨g0, g1⟩ := hG; go_simp; exact Gives.mk _ _) (fun K hK => ?_); go_simp; refine hK _ ?_; clear hK K) | (refine wpRO_skip rfl rfl (fun K hK => ?_); go_simp; refine hK _ ?_; clear hK K)
              first | (refine wpRO_pure rfl rfl _ (fun w' hG => by obtain ⟨g0, g1⟩ := hG; exact gives_agg2 rfl (by decide +kernel) rfl (by assumption) (by assumption)) (fun K hK => ?_); go_simp; refine hK _ ?_; clear hK K) | (refine wpRO_pure rfl rfl _ (fun w' hG => by obtain ⟨g0, g1⟩ := hG; go_simp; exact Gives.mk _ _) (fun K hK => ?_); go_simp; refine hK _ ?_; clear hK K) | (refine wpRO_skip rfl rfl (fun K hK => ?_); go_simp; refine hK _ ?_; clear hK K)
              first | (refine wpRO_free rfl rfl _ (fun w' => by go_simp; exact Gives.mk _ _) (fun K hK => ?_); go_simp; refine hK _ ?_; clear hK K) | (refine wpRO_skipF rfl rfl (fun K hK => ?_); go_simp; refine hK _ ?_; clear hK K)
              first | (refine wpRO_free rfl rfl _ (fun w' => by go_simp; exact Gives.mk _ _) (fun K hK => ?_); go_simp; refine hK _ ?_; clear hK K) | (refine wpRO_skipF rfl rfl (fun K hK => ?_); go_simp; refine hK _ ?_; clear hK K)
              refine wpRO_fin ?_
              go_wp2_with fail
              refine ⟨by kernel_rfl, ?_⟩
              exact ⟨A, HI.out.keep (Keeps.refl (fun _ => False) wb).drew, HB.out.drew⟩
          have e0 : (d == 0) = false := by simpa using hd0
          have e1 : (d == 1) = false := by simpa using hd1
          have e2 : (d == 2) = false := by simpa using hd2
          have e3 : (d == 3) = false := by simpa using hd3
          have e4 : (d == 4) = false := by simpa using hd4
          clear hd0 hd1 hd2 hd3 hd4
          go_wp2_with fail
          refine ⟨by kernel_rfl, ?_⟩
          exact ⟨A, HI.out, HB.out⟩
        · intro u wb2 hrel
          as_aux_lemma =>
           clear HB HI b0 b1 b2 b3 bl HOK o1 o2 o3 o4
           obtain ⟨A2, hI2, hB2⟩ := hrel
           simp only [overA, overL, List.toList_toArray, Nat.blt, Nat.beq, Nat.ble, Nat.reduceAdd, Bool.or_false, Bool.false_or, Bool.or_true, Bool.true_or, Bool.and_true, Bool.true_and, Bool.and_false, Bool.false_and, cond_true, cond_false]
           have HI := Lib.hid hI2; have HB := Lib.hid hB2
           have o1 := hI2.hI.hA.ok.h1; have o2 := hI2.hI.hA.ok.h2; have o3 := hI2.hI.hA.ok.h3; have o4 := hI2.hI.hA.ok.h4
           have n1 := hI2.hI.hn; have n2 := hI2.hI.hl
           have x1 : ((A2.nur - A2.yng : Nat) : Int) = (a : Int) - A2.yng := by omega
           have x2 : ((A2.ws.length - A2.grn : Nat) : Int) = (b : Int) - ((A2.grn - A2.nur : Nat) : Int) := by omega
           have X1 := Lib.hid x1; have X2 := Lib.hid x2; have N1 := Lib.hid n1; have N2 := Lib.hid n2
           have q1 : A2.nur ≤ 256 := by omega
           have q2 : A2.grn ≤ 1280 := by omega
           clear hI2 hB2 x1 x2 n1 n2
           go_wp2_with fail
           refine (Used_c _ HI.out.hI.hA).mono ?_
           rintro e w5 ⟨rfl, hk5⟩
           have HI5 := Lib.hid (HI.out.keep hk5); have HB5 := Lib.hid (hk5.blk HB.out (fun h => h))
           clear hk5
           go_wp2_with fail
           refine (Free_c _ HI5.out.hI.hA).mono ?_
           rintro e w6 ⟨rfl, hk6⟩
           have HI6 := Lib.hid (HI5.out.keep hk6); have HB6 := Lib.hid (hk6.blk HB5.out (fun h => h))
           rw [X1.out, X2.out]
           clear hk6
           go_wp2_with fail
           refine (Bounds_c _ HI6.out.hI.hA).mono ?_
           rintro e w6b ⟨rfl, hkb⟩
           have HI6 := Lib.hid (HI6.out.keep hkb); have HB6 := Lib.hid (hkb.blk HB6.out (fun h => h))
           clear hkb
           rw [N1.out]
           have b1 := HB6.out.cell 1; have bl := HB6.out.lt
           simp only [List.getElem?_cons_zero, List.getElem?_cons_succ] at b1
           go_wp2_with fail
           refine (Thing_c x _ HI6.out.hI.hA).mono ?_
           rintro e w7 ⟨rfl, rfl⟩
           go_wp2_with fail
           refine (RThing_c x _ HI6.out.hR HY1.out).mono ?_
           rintro e w7 ⟨rfl, hk7⟩
           have HI7 := Lib.hid (HI6.out.keep hk7); have HB7 := Lib.hid (hk7.blk HB6.out (fun h => h))
           obtain ⟨⟨tk, tn, tc⟩, hT⟩ : ∃ t, A2.thing x = t := ⟨_, rfl⟩
           rw [hT]
           dsimp only
           clear hk7 hT b1 bl
           go_wp2_with fail
           refine (Things_c _ HI7.out.hI.hA).mono ?_
           rintro e w8 ⟨ao, ac, bo, bc, rfl, hs1, hs2, hk8, -, -⟩
           have HI8 := Lib.hid (HI7.out.keep hk8); have HB8 := Lib.hid (hk8.blk HB7.out (fun h => h))
           have HS1 := Lib.hid hs1; have HS2 := Lib.hid hs2
           clear hs1 hs2 hk8
           go_wp2_with fail
           refine (RThings_c _ HI8.out.hR).mono ?_
           rintro e w9 ⟨co, cc, eo, ec, rfl, hs3, hs4, hk9, -, -⟩
           have HI9 := Lib.hid (HI8.out.keep hk9); have HB9 := Lib.hid (hk9.blk HB8.out (fun h => h))
           have HS19 := Lib.hid (HS1.out.keep hk9 (fun _ _ h => h)); have HS29 := Lib.hid (HS2.out.keep hk9 (fun _ _ h => h))
           have HS3 := Lib.hid hs3; have HS4 := Lib.hid hs4
           clear hs3 hs4 hk9
           obtain ⟨-, -, c2, c3⟩ := HI9.out.hR.cells
           have ql := HI9.out.hR.hp.lt
           obtain ⟨G, hG⟩ : ∃ G : Nat, A2.grn - A2.nur = G := ⟨_, rfl⟩
           have hG2 : G ≤ 1280 := by omega
           rw [hG] at c3
           have hG' : A2.grn - a = G := by rw [← N1.out]; exact hG
           simp only [hG']
           clear hG'
           have HG := Lib.hid hG
           have hw8 : IntKind.i64.wrap ((a : Int) - A2.yng) = (a : Int) - A2.yng := IntWalk.i64_in _ (by omega)
           have hw9 : IntKind.i64.wrap ((b : Int) - (G : Int)) = (b : Int) - (G : Int) := IntWalk.i64_in _ (by omega)
           clear hG o1 o2 o3 o4 q1 q2
           have HTL := Lib.hid (show A2.things.1.length ≤ 1000000 ∧ A2.things.2.length ≤ 1000000 from ⟨Nat.le_trans (A2.list_len 1300 _ _) (by decide), Nat.le_trans (A2.list_len 1300 _ _) (by decide)⟩)
           go_wp2_with fail
           obtain ⟨_, _, e', hr1, -, -⟩ := HS19.out.rd
           cases e'
           obtain ⟨_, _, e', hr2, -, -⟩ := HS3.out.rd
           cases e'
           refine (SameInts_yes ao co ac cc A2.things.1 _ hr1 hr2 HTL.out.1).mono ?_
           rintro e w10 ⟨rfl, hk10⟩
           have HI10 := Lib.hid (HI9.out.keep hk10); have HB10 := Lib.hid (hk10.blk HB9.out (fun h => h))
           have HS2A := Lib.hid (HS29.out.keep hk10 (fun _ _ h => h)); have HS4A := Lib.hid (HS4.out.keep hk10 (fun _ _ h => h))
           clear hk10 hr1 hr2 c2 c3 ql
           go_wp2_with fail
           obtain ⟨_, _, e', hr1, -, -⟩ := HS2A.out.rd
           cases e'
           obtain ⟨_, _, e', hr2, -, -⟩ := HS4A.out.rd
           cases e'
           refine (SameInts_yes bo eo bc ec A2.things.2 _ hr1 hr2 HTL.out.2).mono ?_
           rintro e w11 ⟨rfl, hk11⟩
           have HI11 := Lib.hid (HI10.out.keep hk11); have HB11 := Lib.hid (hk11.blk HB10.out (fun h => h))
           clear hk11 hr1 hr2
           go_wp2_with fail
           refine wp_region_ro (.free 0 (.free 1 (.free 4 (.free 5 (.pure 2 (.pure 6 (.run 3 (.run 7 (.swi [17, 18, 19, 20, 21, 22, 23, 24, 25, 26, 27, 28, 29, 30] (.free 8 (.free 9 (.free 10 (.free 11 (.free 14 (.free 15 (.pure 12 (.pure 16 (.run 13 (.run 17 (.swi [28, 29, 30] (.free 18 (.free 19 (.free 20 (.free 21 (.free 22 (.free 25 (.free 26 (.pure 23 (.pure 27 (.run 24 (.run 28 (.swi [] (.free 29 (.free 30 (.fin))))))))))))))))))))))))))))))))))) [7, 8, 9, 10, 11, 12, 13, 14, 15, 16, 17, 18, 19, 20, 21, 22, 23, 24, 25, 26, 27, 28, 29, 30] (fun w' => w'.cell? ⟨be, 1, none⟩ = some (.int .i64 x)) (by kernel_rfl) (by kernel_rfl) (HB11.out.cell 1) ?_
           first | (refine wpRO_free rfl rfl _ (fun w' => by go_simp; exact Gives.mk _ _) (fun K hK => ?_); go_simp; refine hK _ ?_; clear hK K) | (refine wpRO_skipF rfl rfl (fun K hK => ?_); go_simp; refine hK _ ?_; clear hK K)
           first | (refine wpRO_free rfl rfl _ (fun w' => by go_simp; exact Gives.mk _ _) (fun K hK => ?_); go_simp; refine hK _ ?_; clear hK K) | (refine wpRO_skipF rfl rfl (fun K hK => ?_); go_simp; refine hK _ ?_; clear hK K)
           first | (refine wpRO_free rfl rfl _ (fun w' => by go_simp; exact Gives.mk _ _) (fun K hK => ?_); go_simp; refine hK _ ?_; clear hK K) | (refine wpRO_skipF rfl rfl (fun K hK => ?_); go_simp; refine hK _ ?_; clear hK K)
           first | (refine wpRO_free rfl rfl _ (fun w' => by go_simp; exact Gives.mk _ _) (fun K hK => ?_); go_simp; refine hK _ ?_; clear hK K) | (refine wpRO_skipF rfl rfl (fun K hK => ?_); go_simp; refine hK _ ?_; clear hK K)
           first | (refine wpRO_pure rfl rfl _ (fun w' hG => by obtain g0 := hG; exact gives_agg2 rfl (by decide +kernel) rfl (by assumption) (by assumption)) (fun K hK => ?_); go_simp; refine hK _ ?_; clear hK K) | (refine wpRO_pure rfl rfl _ (fun w' hG => by obtain g0 := hG; go_simp; exact Gives.mk _ _) (fun K hK => ?_); go_simp; refine hK _ ?_; clear hK K) | (refine wpRO_skip rfl rfl (fun K hK => ?_); go_simp; refine hK _ ?_; clear hK K)
           first | (refine wpRO_pure rfl rfl _ (fun w' hG => by obtain g0 := hG; exact gives_agg2 rfl (by decide +kernel) rfl (by assumption) (by assumption)) (fun K hK => ?_); go_simp; refine hK _ ?_; clear hK K) | (refine wpRO_pure rfl rfl _ (fun w' hG => by obtain g0 := hG; go_simp; exact Gives.mk _ _) (fun K hK => ?_); go_simp; refine hK _ ?_; clear hK K) | (refine wpRO_skip rfl rfl (fun K hK => ?_); go_simp; refine hK _ ?_; clear hK K)
           refine wpRO_run rfl rfl (fun K hK => ?_); unfold gRun; go_simp
           refine (Load_c x _ (HI11.out.keep (Keeps.refl _ w11).drew).hI.hA).mono ?_
           rintro e w12 ⟨rfl, rfl⟩
           refine hK _ _ (fun _ => HB11.out.drew.cell 1) ?_
           clear hK K
           have HI12 := Lib.hid (HI11.out.keep (Keeps.refl _ w11).drew); have HB12 := Lib.hid HB11.out.drew
           generalize w11.drew = w12 at *
           refine wpRO_chg rfl rfl rfl (fun K hK => ?_); unfold gRun; go_simp
           refine (RLoad_c x _ HI12.out.hR HY1.out).mono ?_
           rintro e w13 ⟨rfl, hk13⟩
           refine hK _ _ ?_
           clear hK K
           have HI13 := Lib.hid (HI12.out.keep hk13); have HB13 := Lib.hid (hk13.blk HB12.out (fun h => h))
           clear hk13
           refine wpRO_swi (fun w' => w'.cell? ⟨be, 1, none⟩ = some (.int .i64 x)) (HB13.out.cell 1) ?_
           first | (refine wpRO_free rfl rfl _ (fun w' => by go_simp; exact Gives.mk _ _) (fun K hK => ?_); go_simp; refine hK _ ?_; clear hK K) | (refine wpRO_skipF rfl rfl (fun K hK => ?_); go_simp; refine hK _ ?_; clear hK K)
           first | (refine wpRO_free rfl rfl _ (fun w' => by go_simp; exact Gives.mk _ _) (fun K hK => ?_); go_simp; refine hK _ ?_; clear hK K) | (refine wpRO_skipF rfl rfl (fun K hK => ?_); go_simp; refine hK _ ?_; clear hK K)
           first | (refine wpRO_free rfl rfl _ (fun w' => by go_simp; exact Gives.mk _ _) (fun K hK => ?_); go_simp; refine hK _ ?_; clear hK K) | (refine wpRO_skipF rfl rfl (fun K hK => ?_); go_simp; refine hK _ ?_; clear hK K)
           first | (refine wpRO_free rfl rfl _ (fun w' => by go_simp; exact Gives.mk _ _) (fun K hK => ?_); go_simp; refine hK _ ?_; clear hK K) | (refine wpRO_skipF rfl rfl (fun K hK => ?_); go_simp; refine hK _ ?_; clear hK K)
           first | (refine wpRO_free rfl rfl _ (fun w' => by go_simp; exact Gives.mk _ _) (fun K hK => ?_); go_simp; refine hK _ ?_; clear hK K) | (refine wpRO_skipF rfl rfl (fun K hK => ?_); go_simp; refine hK _ ?_; clear hK K)
           first | (refine wpRO_free rfl rfl _ (fun w' => by go_simp; exact Gives.mk _ _) (fun K hK => ?_); go_simp; refine hK _ ?_; clear hK K) | (refine wpRO_skipF rfl rfl (fun K hK => ?_); go_simp; refine hK _ ?_; clear hK K)
           first | (refine wpRO_pure rfl rfl _ (fun w' hG => by obtain g0 := hG; exact gives_agg2 rfl (by decide +kernel) rfl (by assumption) (by assumption)) (fun K hK => ?_); go_simp; refine hK _ ?_; clear hK K) | (refine wpRO_pure rfl rfl _ (fun w' hG => by obtain g0 := hG; go_simp; exact Gives.mk _ _) (fun K hK => ?_); go_simp; refine hK _ ?_; clear hK K) | (refine wpRO_skip rfl rfl (fun K hK => ?_); go_simp; refine hK _ ?_; clear hK K)
           first | (refine wpRO_pure rfl rfl _ (fun w' hG => by obtain g0 := hG; exact gives_agg2 rfl (by decide +kernel) rfl (by assumption) (by assumption)) (fun K hK => ?_); go_simp; refine hK _ ?_; clear hK K) | (refine wpRO_pure rfl rfl _ (fun w' hG => by obtain g0 := hG; go_simp; exact Gives.mk _ _) (fun K hK => ?_); go_simp; refine hK _ ?_; clear hK K) | (refine wpRO_skip rfl rfl (fun K hK => ?_); go_simp; refine hK _ ?_; clear hK K)
           refine wpRO_run rfl rfl (fun K hK => ?_); unfold gRun; go_simp
           refine (Young_c x _ HI13.out.hI.hA).mono ?_
           rintro e w14 ⟨rfl, rfl⟩
           refine hK _ _ (fun _ => HB13.out.cell 1) ?_
           clear hK K
           refine wpRO_chg rfl rfl rfl (fun K hK => ?_); unfold gRun; go_simp
           refine (IsYoung_c x _ HI13.out.hR).mono ?_
           rintro e w15 ⟨rfl, rfl⟩
           refine hK _ _ ?_
           clear hK K
           refine wpRO_swi (fun w' => w'.cell? ⟨be, 1, none⟩ = some (.int .i64 x)) (HB13.out.cell 1) ?_
           first | (refine wpRO_free rfl rfl _ (fun w' => by go_simp; exact Gives.mk _ _) (fun K hK => ?_); go_simp; refine hK _ ?_; clear hK K) | (refine wpRO_skipF rfl rfl (fun K hK => ?_); go_simp; refine hK _ ?_; clear hK K)
           first | (refine wpRO_free rfl rfl _ (fun w' => by go_simp; exact Gives.mk _ _) (fun K hK => ?_); go_simp; refine hK _ ?_; clear hK K) | (refine wpRO_skipF rfl rfl (fun K hK => ?_); go_simp; refine hK _ ?_; clear hK K)
           first | (refine wpRO_free rfl rfl _ (fun w' => by go_simp; exact Gives.mk _ _) (fun K hK => ?_); go_simp; refine hK _ ?_; clear hK K) | (refine wpRO_skipF rfl rfl (fun K hK => ?_); go_simp; refine hK _ ?_; clear hK K)
           first | (refine wpRO_free rfl rfl _ (fun w' => by go_simp; exact Gives.mk _ _) (fun K hK => ?_); go_simp; refine hK _ ?_; clear hK K) | (refine wpRO_skipF rfl rfl (fun K hK => ?_); go_simp; refine hK _ ?_; clear hK K)
           first | (refine wpRO_free rfl rfl _ (fun w' => by go_simp; exact Gives.mk _ _) (fun K hK => ?_); go_simp; refine hK _ ?_; clear hK K) | (refine wpRO_skipF rfl rfl (fun K hK => ?_); go_simp; refine hK _ ?_; clear hK K)
           first | (refine wpRO_free rfl rfl _ (fun w' => by go_simp; exact Gives.mk _ _) (fun K hK => ?_); go_simp; refine hK _ ?_; clear hK K) | (refine wpRO_skipF rfl rfl (fun K hK => ?_); go_simp; refine hK _ ?_; clear hK K)
           first | (refine wpRO_free rfl rfl _ (fun w' => by go_simp; exact Gives.mk _ _) (fun K hK => ?_); go_simp; refine hK _ ?_; clear hK K) | (refine wpRO_skipF rfl rfl (fun K hK => ?_); go_simp; refine hK _ ?_; clear hK K)
           first | (refine wpRO_pure rfl rfl _ (fun w' hG => by obtain g0 := hG; exact gives_agg2 rfl (by decide +kernel) rfl (by assumption) (by assumption)) (fun K hK => ?_); go_simp; refine hK _ ?_; clear hK K) | (refine wpRO_pure rfl rfl _ (fun w' hG => by obtain g0 := hG; go_simp; exact Gives.mk _ _) (fun K hK => ?_); go_simp; refine hK _ ?_; clear hK K) | (refine wpRO_skip rfl rfl (fun K hK => ?_); go_simp; refine hK _ ?_; clear hK K)
           first | (refine wpRO_pure rfl rfl _ (fun w' hG => by obtain g0 := hG; exact gives_agg2 rfl (by decide +kernel) rfl (by assumption) (by assumption)) (fun K hK => ?_); go_simp; refine hK _ ?_; clear hK K) | (refine wpRO_pure rfl rfl _ (fun w' hG => by obtain g0 := hG; go_simp; exact Gives.mk _ _) (fun K hK => ?_); go_simp; refine hK _ ?_; clear hK K) | (refine wpRO_skip rfl rfl (fun K hK => ?_); go_simp; refine hK _ ?_; clear hK K)
           refine wpRO_run rfl rfl (fun K hK => ?_); unfold gRun; go_simp
           refine (Old_c x _ HI13.out.hI.hA).mono ?_
           rintro e w14 ⟨rfl, rfl⟩
           refine hK _ _ (fun _ => HB13.out.cell 1) ?_
           clear hK K
           refine wpRO_chg rfl rfl rfl (fun K hK => ?_); unfold gRun; go_simp
           refine (IsOld_c x _ HI13.out.hR HY1.out).mono ?_
           rintro e w15 ⟨rfl, hk15⟩
           refine hK _ _ ?_
           clear hK K
           have HI15 := Lib.hid (HI13.out.keep hk15)
           clear hk15
           refine wpRO_swi (fun _ => True) trivial ?_
           first | (refine wpRO_free rfl rfl _ (fun w' => by go_simp; exact Gives.mk _ _) (fun K hK => ?_); go_simp; refine hK _ ?_; clear hK K) | (refine wpRO_skipF rfl rfl (fun K hK => ?_); go_simp; refine hK _ ?_; clear hK K)
           first | (refine wpRO_free rfl rfl _ (fun w' => by go_simp; exact Gives.mk _ _) (fun K hK => ?_); go_simp; refine hK _ ?_; clear hK K) | (refine wpRO_skipF rfl rfl (fun K hK => ?_); go_simp; refine hK _ ?_; clear hK K)
           refine wpRO_fin ?_
           go_wp2_with fail
           have hkm : k + 1 ≤ m := hlt
           refine ⟨⟨by kernel_rfl, ?rel⟩, ?measure⟩
           case rel => exact ⟨k + 1, A2, hkm, by go_num, HI15.out⟩
           case measure => exact meas_lt (by go_num) (by first | rfl | exact E11.out | (unfold slotsOf overA; exact E11.out)) hlt
    · as_aux_lemma =>
      obtain rfl : k = m := by omega
      have hl : A.ws.length = a + b := GI.out.hI.hl
      go_wp2_with fail
      refine (Words_c _ GI.out.hI.hA).mono ?_
      rintro e w5 ⟨ao, cap, rfl, hs5, hk5, -⟩
      have HK5 := Lib.hid (GI.out.hI.hK.trans hk5)
      rw [hl]
      have hw : IntKind.i64.wrap ((a : Int) + b) = ((a + b : Nat) : Int) := by rw [IntWalk.i64_in _ (by omega)]; omega
      clear hs5 hk5 hl
      go_wp2_with fail
      go_ret
      exact ⟨by simp, HK5.out⟩

end Go.Proofs.Ytjifdalflepcoab
