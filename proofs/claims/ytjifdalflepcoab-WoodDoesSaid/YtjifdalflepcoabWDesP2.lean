/-
  Parts of the proof, merged: what the functions do, and plain laws.
-/
import Derived.Test.YtjifdalflepcoabWDesP1
import Derived.Test.YtjifdalflepcoabWDesP0
namespace Go.Proofs.Ytjifdalflepcoab
open Go.RowKit
set_option linter.unusedVariables false
set_option linter.unusedSimpArgs false

/-- All of it, the Room and the roots being the wood's. -/
def WDI (w0 w : World) (p q gq gr : Nat) (n o : Int) (dv : Value) (h : WH) (O : Wo) (ds : List Int) : Prop := DW w0 w p h q gq gr O O.ar O.rt dv ds ∧ DS n o O ds ∧ ∃ ps, TW O.ar O.rt ps

theorem meas12 {k : Nat} {x y : Value} (hx : x = .int .i64 ((k + 1 : Nat) : Int)) (hy : y = .int .i64 (k : Int)) (h : k < 12) : 12 - (intOf x).toNat < 12 - (intOf y).toNat := meas_lt hx hy h

set_option maxHeartbeats 16000000 in
set_option maxRecDepth 100000 in
theorem WoodDoes_raw (n o : Int) (lo : Option Addr) (lc m : Nat) (xs : List Int) (w : World) (h0 : Rd w lo (xs.map (Value.int .i64))) (hx : xs.length = m * 5) (hb : ∀ x ∈ xs, R64 x) (hn64 : R64 n) (ho64 : R64 o) :
    Calls Try.prog 6 #[.int .i64 n, .int .i64 o, .slice lo m lc] w fun e w' => e = .returned (.bool true) ∧ Keeps (fun _ => False) w w' := by
  have H0 := Lib.hid h0; have HX := Lib.hid hx; have HBD := Lib.hid hb
  clear h0 hx hb
  go_enter Try.func6, Try.ntmps6
  go_wp2_with fail
  refine (woodBegun_c _).mono ?_
  rintro e w1 ⟨rfl, hk1⟩
  have HK1 := Lib.hid hk1; clear hk1
  by_cases hm : 200 < m
  · go_wp2_with fail
    go_ret
    exact ⟨rfl, HK1.out⟩
  cases hfit : Ar.fits n o
  · as_aux_lemma =>
    go_wp2_with fail
    refine (WNew_no n o _ hfit).mono ?_
    rintro e w2 ⟨rfl, hk2⟩
    have HK2 := Lib.hid (HK1.out.trans hk2); clear hk2
    have HF := Lib.hid (show faultM n o = (1, -1) by unfold faultM; rw [hfit]; rfl)
    go_wp2_with fail
    refine (RoomFault_c n o _).mono ?_
    rintro e w3 ⟨rfl, hk3⟩
    rw [HF.out]
    dsimp only
    have HK3 := Lib.hid ((HK2.out.alloc (.cells #[.int .i64 1, .int .i64 (-1)] 26)).trans hk3)
    have hb1 := hk3.blk (show Blk (w2.alloc (.cells #[.int .i64 1, .int .i64 (-1)] 26)) w2.heap.size [.int .i64 1, .int .i64 (-1)] 26 from Blk.newAt _ rfl rfl) (fun h => h)
    have b0 := hb1.cell 0; have b1 := hb1.cell 1; have bl := hb1.lt
    simp only [List.getElem?_cons_zero, List.getElem?_cons_succ] at b0 b1
    clear hk3 hb1
    go_wp2_with fail
    go_ret
    exact ⟨rfl, HK3.out.alloc _⟩
  have HF := Lib.hid (show faultM n o = (0, 0) by unfold faultM; rw [hfit]; rfl)
  have HFIT := Lib.hid hfit
  have HNO := Lib.hid (show 16 ≤ n ∧ n ≤ 256 ∧ 0 ≤ o ∧ o ≤ 1024 by simp [Ar.fits] at hfit; omega)
  go_wp2_with fail
  refine (WNew_yes n o _ hfit).mono ?_
  rintro e w2 ⟨h, rfl, H2, hk2, o2⟩
  have hM2 : WM w w2 h.p h (Wo.new n o) := ⟨H2, rfl, HK1.out.trans hk2, fun b hb => Nat.le_trans HK1.out.size (o2 b hb)⟩
  have HM2 := Lib.hid (show ∃ h', h'.p = h.p ∧ WM w w2 h.p h' (Wo.new n o) from ⟨h, rfl, hM2⟩)
  clear hM2 H2 hk2 o2 hfit
  generalize h.p = p at *
  clear h
  go_wp2_with fail
  refine (RoomFault_c n o _).mono ?_
  rintro e w3 ⟨rfl, hk3⟩
  rw [HF.out]
  dsimp only
  have hka := (Keeps.refl (fun _ => False) w2).alloc (.cells #[.int .i64 0, .int .i64 0] 26)
  have HK23 := Lib.hid (hka.trans hk3)
  have hb1 := hk3.blk (show Blk (w2.alloc (.cells #[.int .i64 0, .int .i64 0] 26)) w2.heap.size [.int .i64 0, .int .i64 0] 26 from Blk.newAt _ rfl rfl) (fun h => h)
  have b0 := hb1.cell 0; have b1 := hb1.cell 1; have bl := hb1.lt
  simp only [List.getElem?_cons_zero, List.getElem?_cons_succ] at b0 b1
  clear hk3 hka hb1
  obtain ⟨i0, hi, hz0, hz1, hz2⟩ := info_parts info_i64
  have hmk : ∀ wx : World, (Instr.makeSlice 22 (.int .i64 12) (.int .i64 12)).run Try.prog wx = .ok (.slice (some ⟨wx.heap.size, 0, none⟩) 12 12) (wx.alloc (.cells (List.replicate 12 (.int .i64 0)).toArray 2)) := fun wx => run_make_one (P := Try.prog) wx 22 2 i0 (.int .i64 0) Try.underlying22 hi hz0 rfl hz1 12 (by rw [hz2]; omega) (by omega)
  have Hi := Lib.hid hi; clear hi hz0 hz1 hz2
  have HMK := Lib.hid hmk; clear hmk
  go_wp2_with fail
  refine (NewRoom_c n o _ HFIT.out).mono ?_
  rintro e w4 ⟨q, gq, rfl, hR, hk4, hq, hgq⟩
  have hmk := HMK.out
  have hka := (Keeps.refl (fun _ => False) w3).alloc (.cells #[.int .i64 0, .int .i64 0] 26)
  have HK24 := Lib.hid ((HK23.out.trans hka).trans hk4)
  clear b0 b1 bl
  go_wp2_with fail
  have HD0 := Lib.hid (show ∃ h, DW w (w4.alloc (.cells #[.int .i64 0, .int .i64 0, .int .i64 0, .int .i64 0, .int .i64 0, .int .i64 0, .int .i64 0, .int .i64 0, .int .i64 0, .int .i64 0, .int .i64 0, .int .i64 0] 2)) p h q gq w4.heap.size (Wo.new n o) (Ar.new n o) (List.replicate 0 2 ++ List.replicate (12 - 0) 0) (.slice none 0 0) [] by
    obtain ⟨h, e, M⟩ := HM2.out
    have hkb := (Keeps.refl (fun _ => False) w4).alloc (.cells #[.int .i64 0, .int .i64 0, .int .i64 0, .int .i64 0, .int .i64 0, .int .i64 0, .int .i64 0, .int .i64 0, .int .i64 0, .int .i64 0, .int .i64 0, .int .i64 0] 2)
    have M4 := (M.same HK24.out).same hkb
    have R4 := hR.keep hkb (fun h => h) (fun h => h)
    have hb4 : Blk (w4.alloc (.cells #[.int .i64 0, .int .i64 0, .int .i64 0, .int .i64 0, .int .i64 0, .int .i64 0, .int .i64 0, .int .i64 0, .int .i64 0, .int .i64 0, .int .i64 0, .int .i64 0] 2)) w4.heap.size [.int .i64 0, .int .i64 0, .int .i64 0, .int .i64 0, .int .i64 0, .int .i64 0, .int .i64 0, .int .i64 0, .int .i64 0, .int .i64 0, .int .i64 0, .int .i64 0] 2 := Blk.newAt _ rfl rfl
    have z2 : w2.heap.size ≤ w4.heap.size := HK24.out.size
    have z3 := HK23.out.size
    have z4 := hka.size
    have z0 := M.K.size
    have zq := hR.hp.lt; have zg := hR.hg.lt
    refine ⟨h, M4, R4, hb4, Sl.nil _ _ _, ?_, ?_, ?_, fun k hk => (nil_own hk).elim, ?_, ?_, ?_, fun k hk => (nil_own hk).elim, ?_⟩
    · intro hn; have := M.H.own_lt hn; simp at hq; omega
    · intro hn; have := M.H.own_lt hn; simp at hgq; omega
    · intro hn; have := M.H.own_lt hn; omega
    · simp at hq; omega
    · simp at hgq; omega
    · omega
    · omega)
  clear hR hk4 hq hgq hka HM2 HK23 HK24 HK1 hmk HMK Hi HF
  generalize w4.alloc (.cells #[.int .i64 0, .int .i64 0, .int .i64 0, .int .i64 0, .int .i64 0, .int .i64 0, .int .i64 0, .int .i64 0, .int .i64 0, .int .i64 0, .int .i64 0, .int .i64 0] 2) = w5 at *
  generalize w4.heap.size = gr at *
  refine wp_loop_over (fun i => Nat.blt 71 i && Nat.blt i 81 || Nat.beq i 12) (fun s wr => ∃ k : Nat, k ≤ 12 ∧ s 12 = .int .i64 k ∧ ∃ h, DW w wr p h q gq gr (Wo.new n o) (Ar.new n o) (List.replicate k 2 ++ List.replicate (12 - k) 0) (.slice none 0 0) []) (fun s _ => 12 - (intOf (s 12)).toNat) ?_ ?_
  · exact ⟨0, Nat.zero_le _, rfl, HD0.out⟩
  · intro u0 wr hrel K hK
    clear HD0
    obtain ⟨k, hk, e12, hh, hD⟩ := hrel
    have e12 : u0 12 = .int .i64 k := e12
    have D := Lib.hid hD; clear hD
    simp (maxSteps := 2000000) only [overA, overL, List.toList_toArray, Nat.blt, Nat.beq, Nat.ble, Nat.reduceAdd, Bool.or_false, Bool.false_or, Bool.or_true, Bool.true_or, Bool.and_true, Bool.true_and, Bool.and_false, Bool.false_and, cond_true, cond_false]
    rw [e12]
    have E12 := Lib.hid e12; clear e12
    by_cases hlt : k < 12
    · as_aux_lemma =>
      have gl := D.out.G.lt; have gf := D.out.G.free k
      have gc : wr.cell? ⟨gr, k, none⟩ = some (.int .i64 0) := by
        rw [D.out.G.cell, List.getElem?_map, List.getElem?_append_right (by simp), List.length_replicate, Nat.sub_self, List.getElem?_replicate, if_pos (by omega)]; rfl
      go_wp2_with fail
      refine ⟨⟨by kernel_rfl, ?rel⟩, ?measure⟩
      case rel =>
        refine ⟨k + 1, hlt, by go_num, hh, ?_⟩
        have := D.out.setL k 2
        have e : (List.replicate k (2 : Int) ++ List.replicate (12 - k) 0).set k 2 = List.replicate (k + 1) 2 ++ List.replicate (12 - (k + 1)) 0 := by
          rw [List.set_append_right _ _ (by simp), List.length_replicate, Nat.sub_self, show 12 - k = (12 - (k + 1)) + 1 by omega, List.replicate_succ, List.set_cons_zero, List.replicate_succ', List.append_assoc]; rfl
        rw [e] at this
        exact this
      case measure => exact meas12 (by go_num) (by first | rfl | exact E12.out) hlt
    · obtain rfl : k = 12 := by omega
      have HWD := Lib.hid (show ∃ h O ds, WDI w wr p q gq gr n o (.slice none 0 0) h O ds from ⟨hh, Wo.new n o, [], D.out, DS.new HFIT.out, [], TW.new n o⟩)
      clear D
      go_wp2_with fail
      refine wp_loop_over (fun i => Nat.blt 80 i || Nat.blt 12 i && Nat.blt i 43) (fun s wr => ∃ k : Nat, k ≤ m ∧ s 14 = .int .i64 k ∧ ∃ h O ds, WDI w wr p q gq gr n o (s 13) h O ds) (fun s _ => m - (intOf (s 14)).toNat) ?_ ?_
      · obtain ⟨h, O, ds, hw⟩ := HWD.out
        exact ⟨0, Nat.zero_le _, rfl, h, O, ds, hw⟩
      · intro u1 wr1 hrel K1 hK1
        clear HWD
        obtain ⟨k, hk, e14, hh, O, ds, hD, hS, hT⟩ := hrel
        have HT := Lib.hid hT; clear hT
        have e14 : u1 14 = .int .i64 k := e14
        obtain ⟨dv, e13⟩ : ∃ v, u1 13 = v := ⟨_, rfl⟩
        have hD : DW w wr1 p hh q gq gr O O.ar O.rt (u1 13) ds := hD
        rw [e13] at hD
        have D := Lib.hid hD; have S := Lib.hid hS; clear hD hS
        simp (maxSteps := 2000000) only [overA, overL, List.toList_toArray, Nat.blt, Nat.beq, Nat.ble, Nat.reduceAdd, Bool.or_false, Bool.false_or, Bool.or_true, Bool.true_or, Bool.and_true, Bool.true_and, Bool.and_false, Bool.false_and, cond_true, cond_false]
        rw [e14, e13]
        have E14 := Lib.hid e14; clear e14 e13
        by_cases hlt : k < m
        · --<steps
          have hrd := H0.out.keep D.out.M.K (fun _ _ _ h => h)
          obtain ⟨gs, os, rfl, hgl, d0⟩ := hrd.nth (k * 5) (by rw [HX.out]; omega)
          obtain ⟨_, _, e', _, d1⟩ := hrd.nth (k * 5 + 1) (by rw [HX.out]; omega)
          cases e'
          obtain ⟨_, _, e', _, d2⟩ := hrd.nth (k * 5 + 2) (by rw [HX.out]; omega)
          cases e'
          obtain ⟨_, _, e', _, d3⟩ := hrd.nth (k * 5 + 3) (by rw [HX.out]; omega)
          cases e'
          obtain ⟨_, _, e', _, d4⟩ := hrd.nth (k * 5 + 4) (by rw [HX.out]; omega)
          cases e'
          rw [← Nat.add_assoc] at d1 d2 d3 d4
          have hy : ∀ j, j < 5 → R64 (xs.getD (k * 5 + j) 0) := fun j hj => HBD.out _ (by rw [List.getD_eq_getElem?_getD, List.getElem?_eq_getElem (by rw [HX.out]; omega)]; exact List.getElem_mem _)
          have HY2 := Lib.hid (hy 2 (by decide)); have HY4 := Lib.hid (hy 4 (by decide))
          generalize xs.getD (k * 5) 0 = d at *
          generalize xs.getD (k * 5 + 1) 0 = x at *
          generalize xs.getD (k * 5 + 2) 0 = y at *
          generalize xs.getD (k * 5 + 3) 0 = z at *
          generalize xs.getD (k * 5 + 4) 0 = v at *
          clear hrd hy
          go_upto_region 21 with (refine wpList_agg rfl 61 (.tmp 89) rfl [.int .i64 d, .int .i64 x, .int .i64 y, .int .i64 z, .int .i64 v] (by kernel_rfl) gs (os + k * 5) rfl (rangeAt_cons d0 (rangeAt_cons d1 (rangeAt_cons d2 (rangeAt_cons d3 (rangeAt_cons d4 rangeAt_nil))))) ?_)
          clear d0 d1 d2 d3 d4 hgl
          have hbk := Blk.newAt (w := wr1) (b := wr1.heap.size) (T := 61) #[.int .i64 d, .int .i64 x, .int .i64 y, .int .i64 z, .int .i64 v] rfl rfl
          have hka := (Keeps.refl (fun _ => False) wr1).alloc (.cells #[.int .i64 d, .int .i64 x, .int .i64 y, .int .i64 z, .int .i64 v] 61)
          have HX0 := Lib.hid (show DX w (wr1.alloc (.cells #[.int .i64 d, .int .i64 x, .int .i64 y, .int .i64 z, .int .i64 v] 61)) p hh q gq gr O O.ar O.rt dv ds wr1.heap.size [.int .i64 d, .int .i64 x, .int .i64 y, .int .i64 z, .int .i64 v] from ⟨D.out.same hka, hbk⟩)
          generalize wr1.alloc (.cells #[.int .i64 d, .int .i64 x, .int .i64 y, .int .i64 z, .int .i64 v] 61) = wb at *
          generalize wr1.heap.size = be at *
          clear hbk hka D
          have b1 := HX0.out.B.cell 1; have b3 := HX0.out.B.cell 3; have bl := HX0.out.B.lt
          simp only [List.getElem?_cons_zero, List.getElem?_cons_succ] at b1 b3
          have hx1 := unS_wrap x; have hz1 := unS_wrap z
          have hx2 := rootN_tmod x; have hz2 := rootN_tmod z; have hx3 := rootN_mod x; have hz3 := rootN_mod z; have hx4 := rootN_wrap x; have hz4 := rootN_wrap z
          refine wp_region_ro (.free 0 (.free 5 (.pure 1 (.free 2 (.free 3 (.free 4 (.free 10 (.pure 6 (.free 7 (.free 8 (.free 9 (.free 11 (.fin))))))))))))) [] (fun w' => w'.cell? ⟨be, 1, none⟩ = some (.int .i64 x) ∧ w'.cell? ⟨be, 3, none⟩ = some (.int .i64 z)) (by kernel_rfl) (by kernel_rfl) ⟨b1, b3⟩ ?_
          first | (refine wpRO_free rfl rfl _ (fun w' => by go_simp; exact Gives.mk _ _) (fun K hK => ?_); go_simp; refine hK _ ?_; clear hK K) | (refine wpRO_skipF rfl rfl (fun K hK => ?_); go_simp; refine hK _ ?_; clear hK K)
          first | (refine wpRO_free rfl rfl _ (fun w' => by go_simp; exact Gives.mk _ _) (fun K hK => ?_); go_simp; refine hK _ ?_; clear hK K) | (refine wpRO_skipF rfl rfl (fun K hK => ?_); go_simp; refine hK _ ?_; clear hK K)
          first | (refine wpRO_pure rfl rfl _ (fun w' hG => by obtain ⟨g0, g1⟩ := hG; exact gives_agg2 rfl (by decide +kernel) rfl (by assumption) (by assumption)) (fun K hK => ?_); go_simp; refine hK _ ?_; clear hK K) | (refine wpRO_pure rfl rfl _ (fun w' hG => by obtain ⟨g0, g1⟩ := hG; go_simp; exact Gives.mk _ _) (fun K hK => ?_); go_simp; refine hK _ ?_; clear hK K) | (refine wpRO_skip rfl rfl (fun K hK => ?_); go_simp; refine hK _ ?_; clear hK K)
          first | (refine wpRO_free rfl rfl _ (fun w' => by go_simp; exact Gives.mk _ _) (fun K hK => ?_); go_simp; refine hK _ ?_; clear hK K) | (refine wpRO_skipF rfl rfl (fun K hK => ?_); go_simp; refine hK _ ?_; clear hK K)
          first | (refine wpRO_free rfl rfl _ (fun w' => by go_simp; exact Gives.mk _ _) (fun K hK => ?_); go_simp; refine hK _ ?_; clear hK K) | (refine wpRO_skipF rfl rfl (fun K hK => ?_); go_simp; refine hK _ ?_; clear hK K)
          first | (refine wpRO_free rfl rfl _ (fun w' => by go_simp; exact Gives.mk _ _) (fun K hK => ?_); go_simp; refine hK _ ?_; clear hK K) | (refine wpRO_skipF rfl rfl (fun K hK => ?_); go_simp; refine hK _ ?_; clear hK K)
          first | (refine wpRO_free rfl rfl _ (fun w' => by go_simp; exact Gives.mk _ _) (fun K hK => ?_); go_simp; refine hK _ ?_; clear hK K) | (refine wpRO_skipF rfl rfl (fun K hK => ?_); go_simp; refine hK _ ?_; clear hK K)
          first | (refine wpRO_pure rfl rfl _ (fun w' hG => by obtain ⟨g0, g1⟩ := hG; exact gives_agg2 rfl (by decide +kernel) rfl (by assumption) (by assumption)) (fun K hK => ?_); go_simp; refine hK _ ?_; clear hK K) | (refine wpRO_pure rfl rfl _ (fun w' hG => by obtain ⟨g0, g1⟩ := hG; go_simp; exact Gives.mk _ _) (fun K hK => ?_); go_simp; refine hK _ ?_; clear hK K) | (refine wpRO_skip rfl rfl (fun K hK => ?_); go_simp; refine hK _ ?_; clear hK K)
          first | (refine wpRO_free rfl rfl _ (fun w' => by go_simp; exact Gives.mk _ _) (fun K hK => ?_); go_simp; refine hK _ ?_; clear hK K) | (refine wpRO_skipF rfl rfl (fun K hK => ?_); go_simp; refine hK _ ?_; clear hK K)
          first | (refine wpRO_free rfl rfl _ (fun w' => by go_simp; exact Gives.mk _ _) (fun K hK => ?_); go_simp; refine hK _ ?_; clear hK K) | (refine wpRO_skipF rfl rfl (fun K hK => ?_); go_simp; refine hK _ ?_; clear hK K)
          first | (refine wpRO_free rfl rfl _ (fun w' => by go_simp; exact Gives.mk _ _) (fun K hK => ?_); go_simp; refine hK _ ?_; clear hK K) | (refine wpRO_skipF rfl rfl (fun K hK => ?_); go_simp; refine hK _ ?_; clear hK K)
          first | (refine wpRO_free rfl rfl _ (fun w' => by go_simp; exact Gives.mk _ _) (fun K hK => ?_); go_simp; refine hK _ ?_; clear hK K) | (refine wpRO_skipF rfl rfl (fun K hK => ?_); go_simp; refine hK _ ?_; clear hK K)
          refine wpRO_fin ?_
          clear hx1 hz1 hx2 hz2 hx3 hz3 hx4 hz4 b1 b3 bl
          have X := Lib.hid (HX0.out.same ((Keeps.refl (fun _ => False) wb).drew))
          clear HX0
          generalize wb.drew = wd at *
          have hal := rootN_lt x; have hcl := rootN_lt z
          generalize rootN x = a at *
          generalize rootN z = c at *
          have haI : (a : Int) < 12 := by omega
          have hcI : (c : Int) < 12 := by omega
          have b0 := X.out.B.cell 0; have bl := X.out.B.lt
          simp only [List.getElem?_cons_zero] at b0
          have HOK := Lib.hid X.out.D.M.H.ok
          go_upto_block 4 with fail
          refine wp_cut_over (fun i => Nat.blt 102 i && Nat.blt i 364 || Nat.blt 17 i && Nat.blt i 35 || Nat.beq i 13) (fun s wx => ∃ h' O' ds', DX w wx p h' q gq gr O' O'.ar O'.rt (s 13) ds' be [.int .i64 d, .int .i64 x, .int .i64 y, .int .i64 z, .int .i64 v] ∧ DS n o O' ds' ∧ ∃ ps, TW O'.ar O'.rt ps) ?_ ?_
          · intro K hK
            --<arms
            by_cases hd0 : d = 0
            · as_aux_lemma =>
              --<a0
              subst hd0
              have pt0 := X.out.D.M.H.ptrs.1
              rw [X.out.D.M.e] at pt0
              have b1 := X.out.B.cell 1; have b2 := X.out.B.cell 2
              simp only [List.getElem?_cons_zero, List.getElem?_cons_succ] at b1 b2
              have pl0 : p < wd.heap.size := X.out.D.M.e ▸ X.out.D.M.H.hp.lt
              have XD := Lib.hid (X.out.same ((Keeps.refl (fun _ => False) wd).drew))
              go_wp2_with fail
              refine wp_region_ro (.free 0 (.free 1 (.free 2 (.free 4 (.free 6 (.free 9 (.free 10 (.free 12 (.pure 3 (.pure 5 (.pure 7 (.pure 11 (.pure 13 (.run 8 (.run 14 (.swi [] (.free 15 (.free 16 (.fin))))))))))))))))))) [14, 15, 16] (fun w' => w'.cell? ⟨p, 0, none⟩ = some (.pointer (some ⟨hh.pa, 0, none⟩)) ∧ w'.cell? ⟨be, 1, none⟩ = some (.int .i64 x) ∧ w'.cell? ⟨be, 2, none⟩ = some (.int .i64 y)) (by kernel_rfl) (by kernel_rfl) ⟨pt0, b1, b2⟩ ?_
              first | (refine wpRO_free rfl rfl _ (fun w' => by go_simp; exact Gives.mk _ _) (fun K hK => ?_); go_simp; refine hK _ ?_; clear hK K) | (refine wpRO_skipF rfl rfl (fun K hK => ?_); go_simp; refine hK _ ?_; clear hK K)
              first | (refine wpRO_free rfl rfl _ (fun w' => by go_simp; exact Gives.mk _ _) (fun K hK => ?_); go_simp; refine hK _ ?_; clear hK K) | (refine wpRO_skipF rfl rfl (fun K hK => ?_); go_simp; refine hK _ ?_; clear hK K)
              first | (refine wpRO_free rfl rfl _ (fun w' => by go_simp; exact Gives.mk _ _) (fun K hK => ?_); go_simp; refine hK _ ?_; clear hK K) | (refine wpRO_skipF rfl rfl (fun K hK => ?_); go_simp; refine hK _ ?_; clear hK K)
              first | (refine wpRO_free rfl rfl _ (fun w' => by go_simp; exact Gives.mk _ _) (fun K hK => ?_); go_simp; refine hK _ ?_; clear hK K) | (refine wpRO_skipF rfl rfl (fun K hK => ?_); go_simp; refine hK _ ?_; clear hK K)
              first | (refine wpRO_free rfl rfl _ (fun w' => by go_simp; exact Gives.mk _ _) (fun K hK => ?_); go_simp; refine hK _ ?_; clear hK K) | (refine wpRO_skipF rfl rfl (fun K hK => ?_); go_simp; refine hK _ ?_; clear hK K)
              first | (refine wpRO_free rfl rfl _ (fun w' => by go_simp; exact Gives.mk _ _) (fun K hK => ?_); go_simp; refine hK _ ?_; clear hK K) | (refine wpRO_skipF rfl rfl (fun K hK => ?_); go_simp; refine hK _ ?_; clear hK K)
              first | (refine wpRO_free rfl rfl _ (fun w' => by go_simp; exact Gives.mk _ _) (fun K hK => ?_); go_simp; refine hK _ ?_; clear hK K) | (refine wpRO_skipF rfl rfl (fun K hK => ?_); go_simp; refine hK _ ?_; clear hK K)
              first | (refine wpRO_free rfl rfl _ (fun w' => by go_simp; exact Gives.mk _ _) (fun K hK => ?_); go_simp; refine hK _ ?_; clear hK K) | (refine wpRO_skipF rfl rfl (fun K hK => ?_); go_simp; refine hK _ ?_; clear hK K)
              first | (refine wpRO_pure rfl rfl _ (fun w' hG => by obtain ⟨g0, g1, g2⟩ := hG; exact gives_agg2 rfl (by decide +kernel) rfl (by assumption) (by assumption)) (fun K hK => ?_); go_simp; refine hK _ ?_; clear hK K) | (refine wpRO_pure rfl rfl _ (fun w' hG => by obtain ⟨g0, g1, g2⟩ := hG; go_simp; exact Gives.mk _ _) (fun K hK => ?_); go_simp; refine hK _ ?_; clear hK K) | (refine wpRO_skip rfl rfl (fun K hK => ?_); go_simp; refine hK _ ?_; clear hK K)
              first | (refine wpRO_pure rfl rfl _ (fun w' hG => by obtain ⟨g0, g1, g2⟩ := hG; exact gives_agg2 rfl (by decide +kernel) rfl (by assumption) (by assumption)) (fun K hK => ?_); go_simp; refine hK _ ?_; clear hK K) | (refine wpRO_pure rfl rfl _ (fun w' hG => by obtain ⟨g0, g1, g2⟩ := hG; go_simp; exact Gives.mk _ _) (fun K hK => ?_); go_simp; refine hK _ ?_; clear hK K) | (refine wpRO_skip rfl rfl (fun K hK => ?_); go_simp; refine hK _ ?_; clear hK K)
              first | (refine wpRO_pure rfl rfl _ (fun w' hG => by obtain ⟨g0, g1, g2⟩ := hG; exact gives_agg2 rfl (by decide +kernel) rfl (by assumption) (by assumption)) (fun K hK => ?_); go_simp; refine hK _ ?_; clear hK K) | (refine wpRO_pure rfl rfl _ (fun w' hG => by obtain ⟨g0, g1, g2⟩ := hG; go_simp; exact Gives.mk _ _) (fun K hK => ?_); go_simp; refine hK _ ?_; clear hK K) | (refine wpRO_skip rfl rfl (fun K hK => ?_); go_simp; refine hK _ ?_; clear hK K)
              first | (refine wpRO_pure rfl rfl _ (fun w' hG => by obtain ⟨g0, g1, g2⟩ := hG; exact gives_agg2 rfl (by decide +kernel) rfl (by assumption) (by assumption)) (fun K hK => ?_); go_simp; refine hK _ ?_; clear hK K) | (refine wpRO_pure rfl rfl _ (fun w' hG => by obtain ⟨g0, g1, g2⟩ := hG; go_simp; exact Gives.mk _ _) (fun K hK => ?_); go_simp; refine hK _ ?_; clear hK K) | (refine wpRO_skip rfl rfl (fun K hK => ?_); go_simp; refine hK _ ?_; clear hK K)
              first | (refine wpRO_pure rfl rfl _ (fun w' hG => by obtain ⟨g0, g1, g2⟩ := hG; exact gives_agg2 rfl (by decide +kernel) rfl (by assumption) (by assumption)) (fun K hK => ?_); go_simp; refine hK _ ?_; clear hK K) | (refine wpRO_pure rfl rfl _ (fun w' hG => by obtain ⟨g0, g1, g2⟩ := hG; go_simp; exact Gives.mk _ _) (fun K hK => ?_); go_simp; refine hK _ ?_; clear hK K) | (refine wpRO_skip rfl rfl (fun K hK => ?_); go_simp; refine hK _ ?_; clear hK K)
              refine wpRO_run rfl rfl (fun K hK => ?_); unfold gRun; go_simp
              refine (Make_c x y _ XD.out.D.M.H.ha HY2.out).mono ?_
              rintro e w5 ⟨rfl, ht⟩
              have X5 := Lib.hid (XD.out.arena ht Ar.make_nur)
              have pt5 := X5.out.D.M.H.ptrs.1
              rw [X5.out.D.M.e] at pt5
              refine hK _ _ (fun _ => ⟨pt5, X5.out.B.cell 1, X5.out.B.cell 2⟩) ?_
              clear hK K ht pt5 b0 bl b1 b2 pt0 pl0
              refine wpRO_chg rfl rfl rfl (fun K hK => ?_); unfold gRun; go_simp
              refine (RMake_c x y _ X5.out.D.R HY2.out).mono ?_
              rintro e w6 ⟨rfl, ht⟩
              have X6 := Lib.hid (X5.out.room ht)
              refine hK _ _ ?_
              clear hK K ht X5 XD X
              refine wpRO_swi (fun _ => True) trivial ?_
              first | (refine wpRO_free rfl rfl _ (fun w' => by go_simp; exact Gives.mk _ _) (fun K hK => ?_); go_simp; refine hK _ ?_; clear hK K) | (refine wpRO_skipF rfl rfl (fun K hK => ?_); go_simp; refine hK _ ?_; clear hK K)
              first | (refine wpRO_free rfl rfl _ (fun w' => by go_simp; exact Gives.mk _ _) (fun K hK => ?_); go_simp; refine hK _ ?_; clear hK K) | (refine wpRO_skipF rfl rfl (fun K hK => ?_); go_simp; refine hK _ ?_; clear hK K)
              refine wpRO_fin ?_
              have S6 := Lib.hid (show DS n o { O with ar := (O.ar.make x y).2 } ds from ⟨by show ((O.ar.make x y).2.nur : Int) = n; rw [Ar.make_nur]; exact S.out.nur, by show ((O.ar.make x y).2.ws.length : Int) = n + o; rw [Ar.make_len HOK.out.ha]; exact S.out.len, S.out.cl, S.out.di⟩)
              by_cases hc : fitsW x y = true ∧ 1 + y ≤ (O.ar.nur : Int) - O.ar.yng
              · have hE : (O.ar.make x y).1 = (O.ar.yng : Int) := by rw [Ar.make_yes hc]
                have hy1 := HOK.out.ha.h1; have hy2 := HOK.out.ha.h2; have hy3 := HOK.out.ha.h3; have hy4 := HOK.out.ha.h4
                rw [hE]
                have X6 := Lib.hid X6.out
                go_wp2_with fail
                obtain ⟨g5, o5, cap5, hro5, how5, hgl5, c5, fz5, rc5⟩ := X6.out.D.M.H.roots
                have h12 : O.rt.length = 12 := X6.out.D.M.H.ok.h12
                have hrc5 := rc5 c (by show c < O.rt.length; rw [h12]; exact hcl)
                have hf5 := fz5 (o5 + c)
                rw [X6.out.D.M.e] at c5
                have pl : p < _ := X6.out.D.M.e ▸ X6.out.D.M.H.hp.lt
                have HRO5 := Lib.hid hro5
                have hne : g5 ≠ gr := fun e => X6.out.D.ar (e ▸ .inr (.inr (.inr (.inr how5))))
                have gl := X6.out.D.G.lt; have gf := X6.out.D.G.free c; have gc := X6.out.D.root (k := c) (by show c < O.rt.length; rw [h12]; exact hcl)
                clear hro5 rc5 fz5 how5
                simp only [h12] at c5
                go_wp2_with fail
                refine wp_region_ro (.free 0 (.free 1 (.free 2 (.free 4 (.free 5 (.free 6 (.free 7 (.free 9 (.pure 3 (.run 8 (.run 10 (.free 11 (.run 12 (.swi [14] (.free 13 (.run 14 (.swi [] (.fin)))))))))))))))))) [12, 13, 14] (fun w' => w'.cell? ⟨p, 3, none⟩ = some (.slice (some ⟨g5, o5, none⟩) 12 cap5)) (by kernel_rfl) (by kernel_rfl) c5 ?_
                first | (refine wpRO_free rfl rfl _ (fun w' => by go_simp; exact Gives.mk _ _) (fun K hK => ?_); go_simp; refine hK _ ?_; clear hK K) | (refine wpRO_skipF rfl rfl (fun K hK => ?_); go_simp; refine hK _ ?_; clear hK K)
                first | (refine wpRO_free rfl rfl _ (fun w' => by go_simp; exact Gives.mk _ _) (fun K hK => ?_); go_simp; refine hK _ ?_; clear hK K) | (refine wpRO_skipF rfl rfl (fun K hK => ?_); go_simp; refine hK _ ?_; clear hK K)
                first | (refine wpRO_free rfl rfl _ (fun w' => by go_simp; exact Gives.mk _ _) (fun K hK => ?_); go_simp; refine hK _ ?_; clear hK K) | (refine wpRO_skipF rfl rfl (fun K hK => ?_); go_simp; refine hK _ ?_; clear hK K)
                first | (refine wpRO_free rfl rfl _ (fun w' => by go_simp; exact Gives.mk _ _) (fun K hK => ?_); go_simp; refine hK _ ?_; clear hK K) | (refine wpRO_skipF rfl rfl (fun K hK => ?_); go_simp; refine hK _ ?_; clear hK K)
                first | (refine wpRO_free rfl rfl _ (fun w' => by go_simp; exact Gives.mk _ _) (fun K hK => ?_); go_simp; refine hK _ ?_; clear hK K) | (refine wpRO_skipF rfl rfl (fun K hK => ?_); go_simp; refine hK _ ?_; clear hK K)
                first | (refine wpRO_free rfl rfl _ (fun w' => by go_simp; exact Gives.mk _ _) (fun K hK => ?_); go_simp; refine hK _ ?_; clear hK K) | (refine wpRO_skipF rfl rfl (fun K hK => ?_); go_simp; refine hK _ ?_; clear hK K)
                first | (refine wpRO_free rfl rfl _ (fun w' => by go_simp; exact Gives.mk _ _) (fun K hK => ?_); go_simp; refine hK _ ?_; clear hK K) | (refine wpRO_skipF rfl rfl (fun K hK => ?_); go_simp; refine hK _ ?_; clear hK K)
                first | (refine wpRO_free rfl rfl _ (fun w' => by go_simp; exact Gives.mk _ _) (fun K hK => ?_); go_simp; refine hK _ ?_; clear hK K) | (refine wpRO_skipF rfl rfl (fun K hK => ?_); go_simp; refine hK _ ?_; clear hK K)
                first | (refine wpRO_pure rfl rfl _ (fun w' hG => by obtain g0 := hG; exact gives_agg2 rfl (by decide +kernel) rfl (by assumption) (by assumption)) (fun K hK => ?_); go_simp; refine hK _ ?_; clear hK K) | (refine wpRO_pure rfl rfl _ (fun w' hG => by obtain g0 := hG; go_simp; exact Gives.mk _ _) (fun K hK => ?_); go_simp; refine hK _ ?_; clear hK K) | (refine wpRO_skip rfl rfl (fun K hK => ?_); go_simp; refine hK _ ?_; clear hK K)
                refine wpRO_run rfl rfl (fun K hK => ?_); unfold gRun; go_simp
                refine (Ref_c ((O.ar.yng : Int)) _ (by omega) (by omega)).mono ?_
                rintro e w7 ⟨rfl, rfl⟩
                refine hK _ _ (fun _ => c5) ?_
                clear hK K
                refine wpRO_run rfl rfl (fun K hK => ?_); unfold gRun; go_simp
                refine (Ref_c ((O.ar.yng : Int)) _ (by omega) (by omega)).mono ?_
                rintro e w7 ⟨rfl, rfl⟩
                refine hK _ _ (fun _ => c5) ?_
                clear hK K
                first | (refine wpRO_free rfl rfl _ (fun w' => by go_simp; exact Gives.mk _ _) (fun K hK => ?_); go_simp; refine hK _ ?_; clear hK K) | (refine wpRO_skipF rfl rfl (fun K hK => ?_); go_simp; refine hK _ ?_; clear hK K)
                refine wpRO_chg rfl rfl rfl (fun K hK => ?_); unfold gRun; go_simp
                refine hK _ _ ?_
                clear hK K
                refine wpRO_swi (fun _ => True) trivial ?_
                first | (refine wpRO_free rfl rfl _ (fun w' => by go_simp; exact Gives.mk _ _) (fun K hK => ?_); go_simp; refine hK _ ?_; clear hK K) | (refine wpRO_skipF rfl rfl (fun K hK => ?_); go_simp; refine hK _ ?_; clear hK K)
                refine wpRO_chg rfl rfl rfl (fun K hK => ?_); unfold gRun; go_simp
                refine hK _ _ ?_
                clear hK K
                refine wpRO_swi (fun _ => True) trivial (wpRO_fin ?_)
                obtain ⟨h7, X7⟩ := X6.out.both (k := c) (x := 4 * ((O.ar.yng : Int)) + 1) HRO5.out (by show c < O.rt.length; rw [h12]; exact hcl) (by unfold R64; omega)
                have X8 := Lib.hid (X7.same ((Keeps.refl (fun _ => False) _).drew))
                clear X7 hrc5 hf5 c5 hgl5 gl gf gc
                go_wp2_with fail
                refine ⟨by kernel_rfl, ?_⟩
                exact ⟨h7, _, _, X8.out, ⟨S6.out.nur, S6.out.len, S6.out.cl, S6.out.di⟩, by obtain ⟨ps, T⟩ := HT.out; exact ⟨_, T.make HOK.out.ha hc c⟩⟩
              · have hE := Ar.make_no hc
                rw [hE] at X6 S6 ⊢
                go_wp2_with fail
                refine ⟨by kernel_rfl, ?_⟩
                exact ⟨hh, _, _, X6.out, S6.out, HT.out⟩
              -->a0
            by_cases hd1 : d = 1
            · as_aux_lemma =>
              --<a1
              subst hd1
              clear hd0
              have h12 : O.rt.length = 12 := HOK.out.h12
              have ra := X.out.D.root (k := a) (by rw [h12]; exact hal)
              have gl0 := X.out.D.G.lt
              have HRa := Lib.hid (show R64 (O.rt.getD a 0) from HOK.out.hR _ (by rw [List.getD_eq_getElem?_getD, List.getElem?_eq_getElem (by rw [h12]; exact hal)]; exact List.getElem_mem _))
              have HRq := Lib.hid (show R64 (O.rt.getD a 0 / 4) by have := HRa.out; unfold R64 at *; omega)
              have HMEM := Lib.hid (show O.rt.getD a 0 ∈ O.rt by rw [List.getD_eq_getElem?_getD, List.getElem?_eq_getElem (by rw [h12]; exact hal)]; exact List.getElem_mem _)
              generalize O.rt.getD a 0 = va at *
              by_cases hm4 : va % 4 = 1
              · go_wp2_with fail
                refine (At_yes va _ hm4).mono ?_
                rintro e w5 ⟨rfl, rfl⟩
                have pt0 := X.out.D.M.H.ptrs.1
                rw [X.out.D.M.e] at pt0
                have pl0 : p < wd.heap.size := X.out.D.M.e ▸ X.out.D.M.H.hp.lt
                go_wp2_with fail
                refine (ACopy_c (va / 4) _ X.out.D.M.H.ha).mono ?_
                rintro e w5 ⟨rfl, ht⟩
                have X5 := Lib.hid (X.out.arena ht (Ar.copy_nur _))
                clear ht b0 bl ra gl0 pt0 pl0
                go_wp2_with fail
                refine (RCopy_c (va / 4) _ X5.out.D.R HRq.out).mono ?_
                rintro e w6 ⟨rfl, ht⟩
                have X6 := Lib.hid (X5.out.room ht)
                clear ht X5 X
                have S6 := Lib.hid (show DS n o { O with ar := (O.ar.copy (va / 4)).2 } ds from ⟨by show ((O.ar.copy (va / 4)).2.nur : Int) = n; rw [Ar.copy_nur]; exact S.out.nur, by show ((O.ar.copy (va / 4)).2.ws.length : Int) = n + o; rw [Ar.copy_len HOK.out.ha]; exact S.out.len, S.out.cl, S.out.di⟩)
                by_cases hc : (O.ar.thing (va / 4)).2.2 = 0 ∧ O.ar.whole (va / 4) (O.ar.thing (va / 4)).2.1 = true ∧ 1 + (O.ar.thing (va / 4)).2.1 ≤ (O.ar.ws.length : Int) - O.ar.grn
                · have hE : (O.ar.copy (va / 4)).1 = (O.ar.grn : Int) := by rw [Ar.copy_yes hc]
                  have hy1 := HOK.out.ha.h1; have hy2 := HOK.out.ha.h2; have hy3 := HOK.out.ha.h3; have hy4 := HOK.out.ha.h4
                  rw [hE]
                  clear h12
                  go_wp2_with fail
                  obtain ⟨g5, o5, cap5, hro5, how5, hgl5, c5, fz5, rc5⟩ := X6.out.D.M.H.roots
                  have h12 : O.rt.length = 12 := X6.out.D.M.H.ok.h12
                  have hrc5 := rc5 c (by show c < O.rt.length; rw [h12]; exact hcl)
                  have hf5 := fz5 (o5 + c)
                  rw [X6.out.D.M.e] at c5
                  have pl : p < _ := X6.out.D.M.e ▸ X6.out.D.M.H.hp.lt
                  have HRO5 := Lib.hid hro5
                  have hne : g5 ≠ gr := fun e => X6.out.D.ar (e ▸ .inr (.inr (.inr (.inr how5))))
                  have gl := X6.out.D.G.lt; have gf := X6.out.D.G.free c; have gc := X6.out.D.root (k := c) (by show c < O.rt.length; rw [h12]; exact hcl)
                  clear hro5 rc5 fz5 how5
                  simp only [h12] at c5
                  go_wp2_with fail
                  refine wp_region_ro (.free 0 (.free 1 (.free 2 (.free 4 (.free 5 (.free 6 (.free 7 (.free 9 (.pure 3 (.run 8 (.run 10 (.free 11 (.run 12 (.swi [14] (.free 13 (.run 14 (.swi [] (.fin)))))))))))))))))) [12, 13, 14] (fun w' => w'.cell? ⟨p, 3, none⟩ = some (.slice (some ⟨g5, o5, none⟩) 12 cap5)) (by kernel_rfl) (by kernel_rfl) c5 ?_
                  first | (refine wpRO_free rfl rfl _ (fun w' => by go_simp; exact Gives.mk _ _) (fun K hK => ?_); go_simp; refine hK _ ?_; clear hK K) | (refine wpRO_skipF rfl rfl (fun K hK => ?_); go_simp; refine hK _ ?_; clear hK K)
                  first | (refine wpRO_free rfl rfl _ (fun w' => by go_simp; exact Gives.mk _ _) (fun K hK => ?_); go_simp; refine hK _ ?_; clear hK K) | (refine wpRO_skipF rfl rfl (fun K hK => ?_); go_simp; refine hK _ ?_; clear hK K)
                  first | (refine wpRO_free rfl rfl _ (fun w' => by go_simp; exact Gives.mk _ _) (fun K hK => ?_); go_simp; refine hK _ ?_; clear hK K) | (refine wpRO_skipF rfl rfl (fun K hK => ?_); go_simp; refine hK _ ?_; clear hK K)
                  first | (refine wpRO_free rfl rfl _ (fun w' => by go_simp; exact Gives.mk _ _) (fun K hK => ?_); go_simp; refine hK _ ?_; clear hK K) | (refine wpRO_skipF rfl rfl (fun K hK => ?_); go_simp; refine hK _ ?_; clear hK K)
                  first | (refine wpRO_free rfl rfl _ (fun w' => by go_simp; exact Gives.mk _ _) (fun K hK => ?_); go_simp; refine hK _ ?_; clear hK K) | (refine wpRO_skipF rfl rfl (fun K hK => ?_); go_simp; refine hK _ ?_; clear hK K)
                  first | (refine wpRO_free rfl rfl _ (fun w' => by go_simp; exact Gives.mk _ _) (fun K hK => ?_); go_simp; refine hK _ ?_; clear hK K) | (refine wpRO_skipF rfl rfl (fun K hK => ?_); go_simp; refine hK _ ?_; clear hK K)
                  first | (refine wpRO_free rfl rfl _ (fun w' => by go_simp; exact Gives.mk _ _) (fun K hK => ?_); go_simp; refine hK _ ?_; clear hK K) | (refine wpRO_skipF rfl rfl (fun K hK => ?_); go_simp; refine hK _ ?_; clear hK K)
                  first | (refine wpRO_free rfl rfl _ (fun w' => by go_simp; exact Gives.mk _ _) (fun K hK => ?_); go_simp; refine hK _ ?_; clear hK K) | (refine wpRO_skipF rfl rfl (fun K hK => ?_); go_simp; refine hK _ ?_; clear hK K)
                  first | (refine wpRO_pure rfl rfl _ (fun w' hG => by obtain g0 := hG; exact gives_agg2 rfl (by decide +kernel) rfl (by assumption) (by assumption)) (fun K hK => ?_); go_simp; refine hK _ ?_; clear hK K) | (refine wpRO_pure rfl rfl _ (fun w' hG => by obtain g0 := hG; go_simp; exact Gives.mk _ _) (fun K hK => ?_); go_simp; refine hK _ ?_; clear hK K) | (refine wpRO_skip rfl rfl (fun K hK => ?_); go_simp; refine hK _ ?_; clear hK K)
                  refine wpRO_run rfl rfl (fun K hK => ?_); unfold gRun; go_simp
                  refine (Ref_c ((O.ar.grn : Int)) _ (by omega) (by omega)).mono ?_
                  rintro e w7 ⟨rfl, rfl⟩
                  refine hK _ _ (fun _ => c5) ?_
                  clear hK K
                  refine wpRO_run rfl rfl (fun K hK => ?_); unfold gRun; go_simp
                  refine (Ref_c ((O.ar.grn : Int)) _ (by omega) (by omega)).mono ?_
                  rintro e w7 ⟨rfl, rfl⟩
                  refine hK _ _ (fun _ => c5) ?_
                  clear hK K
                  first | (refine wpRO_free rfl rfl _ (fun w' => by go_simp; exact Gives.mk _ _) (fun K hK => ?_); go_simp; refine hK _ ?_; clear hK K) | (refine wpRO_skipF rfl rfl (fun K hK => ?_); go_simp; refine hK _ ?_; clear hK K)
                  refine wpRO_chg rfl rfl rfl (fun K hK => ?_); unfold gRun; go_simp
                  refine hK _ _ ?_
                  clear hK K
                  refine wpRO_swi (fun _ => True) trivial ?_
                  first | (refine wpRO_free rfl rfl _ (fun w' => by go_simp; exact Gives.mk _ _) (fun K hK => ?_); go_simp; refine hK _ ?_; clear hK K) | (refine wpRO_skipF rfl rfl (fun K hK => ?_); go_simp; refine hK _ ?_; clear hK K)
                  refine wpRO_chg rfl rfl rfl (fun K hK => ?_); unfold gRun; go_simp
                  refine hK _ _ ?_
                  clear hK K
                  refine wpRO_swi (fun _ => True) trivial (wpRO_fin ?_)
                  obtain ⟨h7, X7⟩ := X6.out.both (k := c) (x := 4 * ((O.ar.grn : Int)) + 1) HRO5.out (by show c < O.rt.length; rw [h12]; exact hcl) (by unfold R64; omega)
                  have X8 := Lib.hid (X7.same ((Keeps.refl (fun _ => False) _).drew))
                  clear X7 hrc5 hf5 c5 hgl5 gl gf gc
                  go_wp2_with fail
                  refine ⟨by kernel_rfl, ?_⟩
                  exact ⟨h7, _, _, X8.out, ⟨S6.out.nur, S6.out.len, S6.out.cl, S6.out.di⟩, by obtain ⟨ps, T⟩ := HT.out; exact ⟨_, T.copy HOK.out.ha (T.rt _ HMEM.out hm4) hc c⟩⟩
                · have hE := Ar.copy_no hc
                  rw [hE] at X6 S6 ⊢
                  go_wp2_with fail
                  refine ⟨by kernel_rfl, ?_⟩
                  exact ⟨hh, _, _, X6.out, S6.out, HT.out⟩
              · go_wp2_with fail
                refine (At_no va _ hm4).mono ?_
                rintro e w5 ⟨rfl, rfl⟩
                go_wp2_with fail
                refine ⟨by kernel_rfl, ?_⟩
                exact ⟨hh, _, _, X.out, S.out, HT.out⟩
              -->a1
            by_cases hd4 : d = 4
            · as_aux_lemma =>
              --<a4
              subst hd4
              clear hd0 hd1
              have b4 := X.out.B.cell 4
              simp only [List.getElem?_cons_zero, List.getElem?_cons_succ] at b4
              by_cases hm4 : v % 4 = 1
              · go_wp2_with fail
                refine (At_yes v _ hm4).mono ?_
                rintro e w5 ⟨rfl, rfl⟩
                go_wp2_with fail
                refine ⟨by kernel_rfl, ?_⟩
                exact ⟨hh, _, _, X.out, S.out, HT.out⟩
              · go_wp2_with fail
                refine (At_no v _ hm4).mono ?_
                rintro e w5 ⟨rfl, rfl⟩
                have XD := Lib.hid (X.out.same ((Keeps.refl (fun _ => False) wd).drew))
                obtain ⟨g5, o5, cap5, hro5, how5, hgl5, c5, fz5, rc5⟩ := X.out.D.M.H.roots
                have h12 : O.rt.length = 12 := HOK.out.h12
                have hrc5 := rc5 a (by rw [h12]; exact hal)
                have hf5 := fz5 (o5 + a)
                rw [X.out.D.M.e] at c5
                have pl : p < wd.heap.size := X.out.D.M.e ▸ X.out.D.M.H.hp.lt
                have HRO5 := Lib.hid hro5
                have hne : g5 ≠ gr := fun e => X.out.D.ar (e ▸ .inr (.inr (.inr (.inr how5))))
                have hnb : g5 ≠ be := fun e => (X.out.D.nb X.out.B).1 (e ▸ .inr (.inr (.inr (.inr how5))))
                have hnr : gr ≠ be := fun e => (X.out.D.nb X.out.B).2.2.1 e.symm
                have gl := X.out.D.G.lt; have gf := X.out.D.G.free a; have gc := X.out.D.root (k := a) (by rw [h12]; exact hal)
                clear hro5 rc5 fz5 how5
                rw [h12] at c5
                have b5 := ((X.out.B.setOther (a := ⟨g5, o5 + a, none⟩) hnb.symm (.int .i64 v))).cell 4
                have b6 := ((X.out.B.setOther (a := ⟨g5, o5 + a, none⟩) hnb.symm (.int .i64 v)).setOther (a := ⟨gr, a, none⟩) hnr.symm (.int .i64 v)).cell 4
                have B5 := Lib.hid b5; have B6 := Lib.hid b6
                clear b5 b6
                go_wp2_with fail
                refine wp_region_rob (.free 0 (.free 1 (.free 2 (.free 4 (.free 5 (.free 6 (.free 7 (.free 9 (.pure 3 (.pure 8 (.free 11 (.base 10 (.run 12 (.swi [14] (.free 13 (.run 14 (.swi [] (.fin)))))))))))))))))) [12, 13, 14] (fun w' => w'.cell? ⟨be, 4, none⟩ = some (.int .i64 v)) (fun w' => w'.cell? ⟨p, 3, none⟩ = some (.slice (some ⟨g5, o5, none⟩) 12 cap5) ∧ w'.cell? ⟨be, 4, none⟩ = some (.int .i64 v)) (by kernel_rfl) (by kernel_rfl) b4 ⟨c5, b4⟩ ?_
                first | (refine wpRO_free rfl rfl _ (fun w' => by go_simp; exact Gives.mk _ _) (fun K hK => ?_); go_simp; refine hK _ ?_; clear hK K) | (refine wpRO_skipF rfl rfl (fun K hK => ?_); go_simp; refine hK _ ?_; clear hK K)
                first | (refine wpRO_free rfl rfl _ (fun w' => by go_simp; exact Gives.mk _ _) (fun K hK => ?_); go_simp; refine hK _ ?_; clear hK K) | (refine wpRO_skipF rfl rfl (fun K hK => ?_); go_simp; refine hK _ ?_; clear hK K)
                first | (refine wpRO_free rfl rfl _ (fun w' => by go_simp; exact Gives.mk _ _) (fun K hK => ?_); go_simp; refine hK _ ?_; clear hK K) | (refine wpRO_skipF rfl rfl (fun K hK => ?_); go_simp; refine hK _ ?_; clear hK K)
                first | (refine wpRO_free rfl rfl _ (fun w' => by go_simp; exact Gives.mk _ _) (fun K hK => ?_); go_simp; refine hK _ ?_; clear hK K) | (refine wpRO_skipF rfl rfl (fun K hK => ?_); go_simp; refine hK _ ?_; clear hK K)
                first | (refine wpRO_free rfl rfl _ (fun w' => by go_simp; exact Gives.mk _ _) (fun K hK => ?_); go_simp; refine hK _ ?_; clear hK K) | (refine wpRO_skipF rfl rfl (fun K hK => ?_); go_simp; refine hK _ ?_; clear hK K)
                first | (refine wpRO_free rfl rfl _ (fun w' => by go_simp; exact Gives.mk _ _) (fun K hK => ?_); go_simp; refine hK _ ?_; clear hK K) | (refine wpRO_skipF rfl rfl (fun K hK => ?_); go_simp; refine hK _ ?_; clear hK K)
                first | (refine wpRO_free rfl rfl _ (fun w' => by go_simp; exact Gives.mk _ _) (fun K hK => ?_); go_simp; refine hK _ ?_; clear hK K) | (refine wpRO_skipF rfl rfl (fun K hK => ?_); go_simp; refine hK _ ?_; clear hK K)
                first | (refine wpRO_free rfl rfl _ (fun w' => by go_simp; exact Gives.mk _ _) (fun K hK => ?_); go_simp; refine hK _ ?_; clear hK K) | (refine wpRO_skipF rfl rfl (fun K hK => ?_); go_simp; refine hK _ ?_; clear hK K)
                first | (refine wpRO_pure rfl rfl _ (fun w' hG => by obtain ⟨g0, g1⟩ := hG; exact gives_agg2 rfl (by decide +kernel) rfl (by assumption) (by assumption)) (fun K hK => ?_); go_simp; refine hK _ ?_; clear hK K) | (refine wpRO_pure rfl rfl _ (fun w' hG => by obtain ⟨g0, g1⟩ := hG; go_simp; exact Gives.mk _ _) (fun K hK => ?_); go_simp; refine hK _ ?_; clear hK K) | (refine wpRO_skip rfl rfl (fun K hK => ?_); go_simp; refine hK _ ?_; clear hK K)
                first | (refine wpRO_pure rfl rfl _ (fun w' hG => by obtain ⟨g0, g1⟩ := hG; exact gives_agg2 rfl (by decide +kernel) rfl (by assumption) (by assumption)) (fun K hK => ?_); go_simp; refine hK _ ?_; clear hK K) | (refine wpRO_pure rfl rfl _ (fun w' hG => by obtain ⟨g0, g1⟩ := hG; go_simp; exact Gives.mk _ _) (fun K hK => ?_); go_simp; refine hK _ ?_; clear hK K) | (refine wpRO_skip rfl rfl (fun K hK => ?_); go_simp; refine hK _ ?_; clear hK K)
                first | (refine wpRO_free rfl rfl _ (fun w' => by go_simp; exact Gives.mk _ _) (fun K hK => ?_); go_simp; refine hK _ ?_; clear hK K) | (refine wpRO_skipF rfl rfl (fun K hK => ?_); go_simp; refine hK _ ?_; clear hK K)
                first | (refine wpRO_base rfl rfl _ (fun w' hG => by obtain b0 := hG; go_simp; exact Gives.mk _ _) (fun K hK => ?_); go_simp; refine hK _ ?_; clear hK K) | (refine wpRO_skipB rfl rfl (fun K hK => ?_); go_simp; refine hK _ ?_; clear hK K)
                refine wpRO_chgB rfl rfl rfl (fun K hK => ?_); unfold gRun; go_simp
                refine hK _ _ (fun _ => B5.out) ?_
                clear hK K
                refine wpRO_swi (fun _ => True) trivial ?_
                first | (refine wpRO_free rfl rfl _ (fun w' => by go_simp; exact Gives.mk _ _) (fun K hK => ?_); go_simp; refine hK _ ?_; clear hK K) | (refine wpRO_skipF rfl rfl (fun K hK => ?_); go_simp; refine hK _ ?_; clear hK K)
                refine wpRO_chgB rfl rfl rfl (fun K hK => ?_); unfold gRun; go_simp
                refine hK _ _ (fun _ => B6.out) ?_
                clear hK K
                refine wpRO_swi (fun _ => True) trivial (wpRO_fin ?_)
                obtain ⟨h7, X7⟩ := X.out.both (k := a) (x := v) HRO5.out (by rw [h12]; exact hal) HY4.out
                have X8 := Lib.hid (X7.same ((Keeps.refl (fun _ => False) _).drew))
                clear X7 hrc5 hf5 c5 hgl5 gl gf gc
                go_wp2_with fail
                refine ⟨by kernel_rfl, ?_⟩
                exact ⟨h7, _, _, X8.out, ⟨S.out.nur, S.out.len, S.out.cl, S.out.di⟩, by obtain ⟨ps, T⟩ := HT.out; exact ⟨_, T.setRt (fun h => (hm4 h).elim) a⟩⟩
              -->a4
            --<arm23
            by_cases hd23 : d = 2 ∨ d = 3
            · as_aux_lemma =>
              clear hd0 hd1 hd4
              have h12 : O.rt.length = 12 := HOK.out.h12
              have ra := X.out.D.root (k := a) (by rw [h12]; exact hal)
              have gl0 := X.out.D.G.lt
              have HMEM := Lib.hid (show O.rt.getD a 0 ∈ O.rt by rw [List.getD_eq_getElem?_getD, List.getElem?_eq_getElem (by rw [h12]; exact hal)]; exact List.getElem_mem _)
              have HRa := Lib.hid (show R64 (O.rt.getD a 0) from HOK.out.hR _ HMEM.out)
              have HRq := Lib.hid (show R64 (O.rt.getD a 0 / 4) by have := HRa.out; unfold R64 at *; omega)
              obtain ⟨va, hva⟩ : ∃ v, O.rt.getD a 0 = v := ⟨_, rfl⟩
              have HVA := Lib.hid hva
              rw [hva] at ra HMEM HRa HRq
              clear hva
              obtain ⟨T, hT⟩ : ∃ T : Int × Int × Int, T = if va % 4 = 1 then O.ar.thing (va / 4) else (0, 0, 2) := ⟨_, rfl⟩
              have hcode := get_code (A := O.ar) (x := va) (i := y) hT
              obtain ⟨tk, tn, te⟩ := T
              have HT3 := Lib.hid hT
              dsimp only at hcode
              obtain ⟨⟨gv, gc⟩, hG⟩ : ∃ G, O.ar.get va y = G := ⟨_, rfl⟩
              rw [hG] at hcode; dsimp only at hcode
              have HG := Lib.hid hG; have HCODE := Lib.hid hcode
              clear hG hT hcode
              rcases hd23 with rfl | rfl
              · --<d2
                as_aux_lemma =>
                go_wp2_with fail
                refine (At_any va _).mono ?_
                rintro e w5 ⟨rfl, rfl⟩
                obtain ⟨ok, hok⟩ : ∃ b, decide (va % 4 = 1) = b := ⟨_, rfl⟩
                obtain ⟨at_, hat⟩ : ∃ i, (if va % 4 = 1 then va / 4 else 0) = i := ⟨_, rfl⟩
                rw [hok, hat]
                have HOK2 := Lib.hid hok; have HAT := Lib.hid hat
                clear hok hat ra gl0
                go_upto_if 187 with fail
                rename_i K0 hK0
                refine wp_cut_over (fun i => Nat.blt 186 i && Nat.blt i 195 || Nat.blt 25 i && Nat.blt i 29) (fun s wx => s 26 = .int .i64 tk ∧ s 27 = .int .i64 tn ∧ s 28 = .int .i64 te ∧ DX w wx p hh q gq gr O O.ar O.rt dv ds be [.int .i64 2, .int .i64 x, .int .i64 y, .int .i64 z, .int .i64 v]) ?_ ?_
                · intro K hK
                  clear hK0
                  cases ok
                  · have e : (tk, tn, te) = (0, 0, 2) := by rw [HT3.out, if_neg (of_decide_eq_false HOK2.out)]
                    obtain ⟨e1, e2, e3⟩ : tk = 0 ∧ tn = 0 ∧ te = 2 := by simpa using e
                    subst e1; subst e2; subst e3
                    go_wp2_with fail
                    refine ⟨by kernel_rfl, ?_⟩
                    exact ⟨rfl, rfl, rfl, X.out⟩
                  · have hm4 := of_decide_eq_true HOK2.out
                    have e : O.ar.thing (va / 4) = (tk, tn, te) := by have := HT3.out; rw [if_pos hm4] at this; exact this.symm
                    have ea : at_ = va / 4 := by have := HAT.out; rw [if_pos hm4] at this; exact this.symm
                    subst ea
                    have HE := Lib.hid e; clear e hm4
                    go_wp2_with fail
                    refine (RThing_c (va / 4) _ X.out.D.R HRq.out).mono ?_
                    rintro e w6 ⟨rfl, hk6⟩
                    rw [HE.out]
                    have X6 := Lib.hid (X.out.same hk6)
                    clear hk6
                    go_wp2_with fail
                    refine ⟨by kernel_rfl, ?_⟩
                    exact ⟨rfl, rfl, rfl, X6.out⟩
                · intro u3 wy hrel
                  clear X b0 bl
                  obtain ⟨e26, e27, e28, hX⟩ := hrel
                  have e26 : u3 26 = .int .i64 tk := e26
                  have e27 : u3 27 = .int .i64 tn := e27
                  have e28 : u3 28 = .int .i64 te := e28
                  simp (maxSteps := 2000000) only [overA, overL, List.toList_toArray, Nat.blt, Nat.beq, Nat.ble, Nat.reduceAdd, Bool.or_false, Bool.false_or, Bool.or_true, Bool.true_or, Bool.and_true, Bool.true_and, Bool.and_false, Bool.false_and, cond_true, cond_false]
                  rw [e26, e27, e28]
                  have X := Lib.hid hX
                  clear e26 e27 e28 hX
                  refine hK0 _ _ ?_
                  clear hK0
                  refine wp_seq_k ?_
                  intro K2 hK2
                  have b0 := X.out.B.cell 0; have bl := X.out.B.lt; have b2 := X.out.B.cell 2
                  simp only [List.getElem?_cons_zero, List.getElem?_cons_succ] at b0 b2
                  refine wp_cut_over (fun i => Nat.blt 194 i && Nat.blt i 210 || Nat.beq i 28) (fun s wz => s 28 = .int .i64 gc ∧ wz = wy) ?_ ?_
                  · intro K hK
                    clear hK2
                    by_cases c1 : te = 0
                    · subst c1
                      by_cases c2 : tk = 5
                      · subst c2
                        obtain rfl : gc = 2 := by rw [HCODE.out, if_pos (.inr rfl)]
                        go_wp2_with fail
                        refine ⟨by kernel_rfl, ?_⟩
                        exact ⟨rfl, rfl⟩
                      · have e5 : (tk == 5) = false := by simpa using c2
                        have n1 : ¬ ((0 : Int) ≠ 0 ∨ tk = 5) := fun h => by rcases h with h | h; exact h rfl; exact c2 h
                        by_cases c3 : y < 0
                        · obtain rfl : gc = 1 := by rw [HCODE.out, if_neg n1, if_pos (.inl c3)]
                          go_wp2_with fail
                          refine ⟨by kernel_rfl, ?_⟩
                          exact ⟨rfl, rfl⟩
                        · have d3 : decide (y < 0) = false := decide_eq_false c3
                          by_cases c4 : tn ≤ y
                          · obtain rfl : gc = 1 := by rw [HCODE.out, if_neg n1, if_pos (.inr c4)]
                            go_wp2_with fail
                            refine ⟨by kernel_rfl, ?_⟩
                            exact ⟨rfl, rfl⟩
                          · have d4 : decide (tn ≤ y) = false := decide_eq_false c4
                            obtain rfl : gc = 0 := by rw [HCODE.out, if_neg n1, if_neg (fun h => by rcases h with h | h; exact c3 h; exact c4 h)]
                            go_wp2_with fail
                            refine ⟨by kernel_rfl, ?_⟩
                            exact ⟨rfl, rfl⟩
                    · have ee : (te != 0) = true := by simpa using c1
                      obtain rfl : gc = 2 := by rw [HCODE.out, if_pos (.inl c1)]
                      go_wp2_with fail
                      refine ⟨by kernel_rfl, ?_⟩
                      exact ⟨rfl, rfl⟩
                  · intro u4 wz hrel
                    obtain ⟨e28, rfl⟩ := hrel
                    have e28 : u4 28 = .int .i64 gc := e28
                    simp (maxSteps := 2000000) only [overA, overL, List.toList_toArray, Nat.blt, Nat.beq, Nat.ble, Nat.reduceAdd, Bool.or_false, Bool.false_or, Bool.or_true, Bool.true_or, Bool.and_true, Bool.true_and, Bool.and_false, Bool.false_and, cond_true, cond_false]
                    rw [e28]
                    clear e28
                    have XD := Lib.hid (X.out.same ((Keeps.refl (fun _ => False) wz).drew))
                    obtain ⟨g5, o5, cap5, hro5, how5, hgl5, c5, fz5, rc5⟩ := X.out.D.M.H.roots
                    have ra5 := rc5 a (by rw [h12]; exact hal); have rc6 := rc5 c (by rw [h12]; exact hcl)
                    have hf5 := fz5 (o5 + c)
                    rw [HVA.out] at ra5
                    rw [X.out.D.M.e, h12] at c5
                    have pl : p < wz.heap.size := X.out.D.M.e ▸ X.out.D.M.H.hp.lt
                    have HRO5 := Lib.hid hro5
                    have hne : g5 ≠ gr := fun e => X.out.D.ar (e ▸ .inr (.inr (.inr (.inr how5))))
                    have gl := X.out.D.G.lt; have gf := X.out.D.G.free c; have gcc := X.out.D.root (k := c) (by rw [h12]; exact hcl)
                    clear hro5 rc5 fz5 how5
                    have HRc := Lib.hid (show R64 (O.rt.getD c 0) from HOK.out.hR _ (by rw [List.getD_eq_getElem?_getD, List.getElem?_eq_getElem (by rw [h12]; exact hcl)]; exact List.getElem_mem _))
                    have HMC := Lib.hid (show O.rt.getD c 0 ∈ O.rt by rw [List.getD_eq_getElem?_getD, List.getElem?_eq_getElem (by rw [h12]; exact hcl)]; exact List.getElem_mem _)
                    obtain ⟨vc, hvc⟩ : ∃ v, O.rt.getD c 0 = v := ⟨_, rfl⟩
                    have HVC := Lib.hid hvc
                    rw [hvc] at rc6 gcc HRc HMC
                    clear hvc
                    have hset := WSet_c va y vc XD.out.D.M.H HRc.out
                    have hsc : (O.set va y vc).1 = gc := by
                      by_cases hz : gc = 0
                      · rw [(set_after S.out HOK.out (by rw [HG.out]; exact hz)).1]; exact hz.symm
                      · rw [Wo.set_no' (by rw [HG.out]; exact hz), HG.out]
                    rw [XD.out.D.M.e, hsc] at hset
                    have HSET := Lib.hid hset
                    clear hset hsc
                    go_wp2_with fail
                    refine wp_region_ro (.free 0 (.free 1 (.free 2 (.free 3 (.free 5 (.free 8 (.free 10 (.free 11 (.free 12 (.free 14 (.free 18 (.pure 4 (.free 6 (.pure 7 (.pure 9 (.pure 13 (.free 15 (.pure 16 (.run 17 (.swi [] (.free 19 (.fin)))))))))))))))))))))) [17, 19] (fun w' => w'.cell? ⟨p, 3, none⟩ = some (.slice (some ⟨g5, o5, none⟩) 12 cap5) ∧ w'.cell? ⟨g5, o5 + a, none⟩ = some (.int .i64 va) ∧ w'.cell? ⟨g5, o5 + c, none⟩ = some (.int .i64 vc) ∧ w'.cell? ⟨be, 2, none⟩ = some (.int .i64 y)) (by kernel_rfl) (by kernel_rfl) ⟨c5, ra5, rc6, b2⟩ ?_
                    first | (refine wpRO_free rfl rfl _ (fun w' => by go_simp; exact Gives.mk _ _) (fun K hK => ?_); go_simp; refine hK _ ?_; clear hK K) | (refine wpRO_skipF rfl rfl (fun K hK => ?_); go_simp; refine hK _ ?_; clear hK K)
                    first | (refine wpRO_free rfl rfl _ (fun w' => by go_simp; exact Gives.mk _ _) (fun K hK => ?_); go_simp; refine hK _ ?_; clear hK K) | (refine wpRO_skipF rfl rfl (fun K hK => ?_); go_simp; refine hK _ ?_; clear hK K)
                    first | (refine wpRO_free rfl rfl _ (fun w' => by go_simp; exact Gives.mk _ _) (fun K hK => ?_); go_simp; refine hK _ ?_; clear hK K) | (refine wpRO_skipF rfl rfl (fun K hK => ?_); go_simp; refine hK _ ?_; clear hK K)
                    first | (refine wpRO_free rfl rfl _ (fun w' => by go_simp; exact Gives.mk _ _) (fun K hK => ?_); go_simp; refine hK _ ?_; clear hK K) | (refine wpRO_skipF rfl rfl (fun K hK => ?_); go_simp; refine hK _ ?_; clear hK K)
                    first | (refine wpRO_free rfl rfl _ (fun w' => by go_simp; exact Gives.mk _ _) (fun K hK => ?_); go_simp; refine hK _ ?_; clear hK K) | (refine wpRO_skipF rfl rfl (fun K hK => ?_); go_simp; refine hK _ ?_; clear hK K)
                    first | (refine wpRO_free rfl rfl _ (fun w' => by go_simp; exact Gives.mk _ _) (fun K hK => ?_); go_simp; refine hK _ ?_; clear hK K) | (refine wpRO_skipF rfl rfl (fun K hK => ?_); go_simp; refine hK _ ?_; clear hK K)
                    first | (refine wpRO_free rfl rfl _ (fun w' => by go_simp; exact Gives.mk _ _) (fun K hK => ?_); go_simp; refine hK _ ?_; clear hK K) | (refine wpRO_skipF rfl rfl (fun K hK => ?_); go_simp; refine hK _ ?_; clear hK K)
                    first | (refine wpRO_free rfl rfl _ (fun w' => by go_simp; exact Gives.mk _ _) (fun K hK => ?_); go_simp; refine hK _ ?_; clear hK K) | (refine wpRO_skipF rfl rfl (fun K hK => ?_); go_simp; refine hK _ ?_; clear hK K)
                    first | (refine wpRO_free rfl rfl _ (fun w' => by go_simp; exact Gives.mk _ _) (fun K hK => ?_); go_simp; refine hK _ ?_; clear hK K) | (refine wpRO_skipF rfl rfl (fun K hK => ?_); go_simp; refine hK _ ?_; clear hK K)
                    first | (refine wpRO_free rfl rfl _ (fun w' => by go_simp; exact Gives.mk _ _) (fun K hK => ?_); go_simp; refine hK _ ?_; clear hK K) | (refine wpRO_skipF rfl rfl (fun K hK => ?_); go_simp; refine hK _ ?_; clear hK K)
                    first | (refine wpRO_free rfl rfl _ (fun w' => by go_simp; exact Gives.mk _ _) (fun K hK => ?_); go_simp; refine hK _ ?_; clear hK K) | (refine wpRO_skipF rfl rfl (fun K hK => ?_); go_simp; refine hK _ ?_; clear hK K)
                    first | (refine wpRO_pure rfl rfl _ (fun w' hG => by obtain ⟨g0, g1, g2, g3⟩ := hG; exact gives_agg2 rfl (by decide +kernel) rfl (by assumption) (by assumption)) (fun K hK => ?_); go_simp; refine hK _ ?_; clear hK K) | (refine wpRO_pure rfl rfl _ (fun w' hG => by obtain ⟨g0, g1, g2, g3⟩ := hG; go_simp; exact Gives.mk _ _) (fun K hK => ?_); go_simp; refine hK _ ?_; clear hK K) | (refine wpRO_skip rfl rfl (fun K hK => ?_); go_simp; refine hK _ ?_; clear hK K)
                    first | (refine wpRO_free rfl rfl _ (fun w' => by go_simp; exact Gives.mk _ _) (fun K hK => ?_); go_simp; refine hK _ ?_; clear hK K) | (refine wpRO_skipF rfl rfl (fun K hK => ?_); go_simp; refine hK _ ?_; clear hK K)
                    first | (refine wpRO_pure rfl rfl _ (fun w' hG => by obtain ⟨g0, g1, g2, g3⟩ := hG; exact gives_agg2 rfl (by decide +kernel) rfl (by assumption) (by assumption)) (fun K hK => ?_); go_simp; refine hK _ ?_; clear hK K) | (refine wpRO_pure rfl rfl _ (fun w' hG => by obtain ⟨g0, g1, g2, g3⟩ := hG; go_simp; exact Gives.mk _ _) (fun K hK => ?_); go_simp; refine hK _ ?_; clear hK K) | (refine wpRO_skip rfl rfl (fun K hK => ?_); go_simp; refine hK _ ?_; clear hK K)
                    first | (refine wpRO_pure rfl rfl _ (fun w' hG => by obtain ⟨g0, g1, g2, g3⟩ := hG; exact gives_agg2 rfl (by decide +kernel) rfl (by assumption) (by assumption)) (fun K hK => ?_); go_simp; refine hK _ ?_; clear hK K) | (refine wpRO_pure rfl rfl _ (fun w' hG => by obtain ⟨g0, g1, g2, g3⟩ := hG; go_simp; exact Gives.mk _ _) (fun K hK => ?_); go_simp; refine hK _ ?_; clear hK K) | (refine wpRO_skip rfl rfl (fun K hK => ?_); go_simp; refine hK _ ?_; clear hK K)
                    first | (refine wpRO_pure rfl rfl _ (fun w' hG => by obtain ⟨g0, g1, g2, g3⟩ := hG; exact gives_agg2 rfl (by decide +kernel) rfl (by assumption) (by assumption)) (fun K hK => ?_); go_simp; refine hK _ ?_; clear hK K) | (refine wpRO_pure rfl rfl _ (fun w' hG => by obtain ⟨g0, g1, g2, g3⟩ := hG; go_simp; exact Gives.mk _ _) (fun K hK => ?_); go_simp; refine hK _ ?_; clear hK K) | (refine wpRO_skip rfl rfl (fun K hK => ?_); go_simp; refine hK _ ?_; clear hK K)
                    first | (refine wpRO_free rfl rfl _ (fun w' => by go_simp; exact Gives.mk _ _) (fun K hK => ?_); go_simp; refine hK _ ?_; clear hK K) | (refine wpRO_skipF rfl rfl (fun K hK => ?_); go_simp; refine hK _ ?_; clear hK K)
                    first | (refine wpRO_pure rfl rfl _ (fun w' hG => by obtain ⟨g0, g1, g2, g3⟩ := hG; exact gives_agg2 rfl (by decide +kernel) rfl (by assumption) (by assumption)) (fun K hK => ?_); go_simp; refine hK _ ?_; clear hK K) | (refine wpRO_pure rfl rfl _ (fun w' hG => by obtain ⟨g0, g1, g2, g3⟩ := hG; go_simp; exact Gives.mk _ _) (fun K hK => ?_); go_simp; refine hK _ ?_; clear hK K) | (refine wpRO_skip rfl rfl (fun K hK => ?_); go_simp; refine hK _ ?_; clear hK K)
                    refine wpRO_chg rfl rfl rfl (fun K hK => ?_); unfold gRun; go_simp
                    refine HSET.out.mono ?_
                    rintro e w6 ⟨rfl, ht⟩
                    obtain ⟨h6, hX6⟩ := XD.out.wood ht
                    have X6 := Lib.hid hX6
                    refine hK _ _ ?_
                    clear hK K ht hX6
                    refine wpRO_swi (fun _ => True) trivial ?_
                    first | (refine wpRO_free rfl rfl _ (fun w' => by go_simp; exact Gives.mk _ _) (fun K hK => ?_); go_simp; refine hK _ ?_; clear hK K) | (refine wpRO_skipF rfl rfl (fun K hK => ?_); go_simp; refine hK _ ?_; clear hK K)
                    refine wpRO_fin ?_
                    clear HSET c5 ra5 b0 b2 bl pl gl gf gcc rc6 hf5 X XD hgl5
                    by_cases hz : gc = 0
                    · subst hz
                      have TG := Lib.hid (show va % 4 = 1 ∧ 0 ≤ y ∧ gv = O.ar.load (va / 4 + 1 + y) ∧ O.ar.inUse (va / 4 + 1 + y) = true ∧ (gv % 4 = 1 → ∃ ps, TW O.ar O.rt ps ∧ gv / 4 ∈ ps) ∧ ∃ ps, TW O.ar O.rt ps ∧ va / 4 ∈ ps ∧ y < (O.ar.thing (va / 4)).2.1 by
                        obtain ⟨ps, T⟩ := HT.out
                        have tg := T.get HMEM.out (i := y) (by rw [HG.out])
                        rw [HG.out] at tg
                        exact ⟨tg.1, tg.2.2.1, tg.2.2.2.2.1, tg.2.2.2.2.2.1, fun h => ⟨ps, T, tg.2.2.2.2.2.2 h⟩, ps, T, tg.2.1, tg.2.2.2.1⟩)
                      have hul := HOK.out.ha.use_lt TG.out.2.2.2.1
                      obtain ⟨N, hN⟩ : ∃ N : Nat, va / 4 + 1 + y = N := ⟨(va / 4 + 1 + y).toNat, by omega⟩
                      have hNl : (N : Int) < O.ar.ws.length := by rw [← hN]; exact hul.2
                      have hwl := HOK.out.ha.h4; have hw3 := HOK.out.ha.h3
                      have hgv : O.ar.ws.getD N 0 = gv := by
                        rw [TG.out.2.2.1, hN]; unfold Ar.load; rw [if_pos (by rw [← hN]; exact TG.out.2.2.2.1), Int.toNat_natCast]
                      obtain rfl : at_ = va / 4 := by have := HAT.out; rw [if_pos TG.out.1] at this; exact this.symm
                      have hat0 : 0 ≤ va / 4 := by
                        obtain ⟨ps, T, hp, -⟩ := TG.out.2.2.2.2.2
                        have := HOK.out.ha.use_lt (T.use hp (j := 0) (by omega) (O.ar.thing_fields _).1)
                        omega
                      have hat1 : va / 4 ≤ 1280 := by have := TG.out.2.1; omega
                      have hy0 := TG.out.2.1
                      have hy1 : y ≤ 1280 := by omega
                      clear hul
                      obtain ⟨-, sar, srt, sno, syes⟩ := set_after S.out HOK.out (va := va) (y := y) (vc := vc) (by rw [HG.out])
                      have SNO := Lib.hid sno; have SYES := Lib.hid syes
                      clear sno syes
                      have TWN := Lib.hid (show ∃ ps, TW (O.set va y vc).2.ar (O.set va y vc).2.rt ps by
                        rw [sar, srt]
                        obtain ⟨ps, T, hp, hlt5⟩ := TG.out.2.2.2.2.2
                        obtain ⟨ps2, T2⟩ := HT.out
                        exact ⟨ps2, T2.store HOK.out.ha (T2.rt _ HMEM.out TG.out.1) TG.out.2.1 hlt5 (T2.rt _ HMC.out)⟩)
                      have q0 := X6.out.D.R.hp.cell 0; have ql := X6.out.D.R.hp.lt; have qg := X6.out.D.R.hg.lt; have qw := X6.out.D.R.word N (by omega); have qf := X6.out.D.R.hg.free N
                      have b2 := X6.out.B.cell 2; have bl := X6.out.B.lt
                      have gl := X6.out.D.G.lt; have gcc := X6.out.D.root (k := c) (by rw [h12]; exact hcl)
                      rw [HVC.out] at gcc
                      simp only [List.getElem?_cons_zero, List.getElem?_cons_succ] at q0 b2
                      have hW : IntKind.i64.wrap (IntKind.i64.wrap (va / 4 + 1) + y) = (N : Int) := by rw [IntWalk.i64_in (va / 4 + 1) (by omega), hN]; exact IntWalk.i64_in _ (by omega)
                      have X7 := Lib.hid (show DX w ((w6.setCell ⟨gq, N, none⟩ (.int .i64 vc)).drew) p h6 q gq gr (O.set va y vc).2 (O.set va y vc).2.ar (O.set va y vc).2.rt dv ds be [.int .i64 2, .int .i64 x, .int .i64 y, .int .i64 z, .int .i64 v] by
                        have hu : O.ar.inUse (N : Int) = true := by rw [← hN]; exact TG.out.2.2.2.1
                        have := (X6.out.room (X6.out.D.R.setW vc HRc.out hu)).same ((Keeps.refl (fun _ => False) _).drew)
                        rw [sar, srt, hN]
                        exact this)
                      have HN := Lib.hid hN; have SAR := Lib.hid sar; have SRT := Lib.hid srt
                      clear hN sar srt X6
                      go_wp2_with fail
                      refine wp_region_ro (.free 0 (.free 1 (.free 2 (.free 4 (.free 5 (.free 6 (.free 9 (.free 10 (.free 11 (.pure 3 (.pure 7 (.free 8 (.pure 12 (.free 13 (.run 14 (.swi [] (.fin))))))))))))))))) [14] (fun w' => w'.cell? ⟨q, 0, none⟩ = some (.slice (some ⟨gq, 0, none⟩) O.ar.ws.length O.ar.ws.length) ∧ w'.cell? ⟨be, 2, none⟩ = some (.int .i64 y) ∧ w'.cell? ⟨gr, c, none⟩ = some (.int .i64 vc)) (by kernel_rfl) (by kernel_rfl) ⟨q0, b2, gcc⟩ ?_
                      first | (refine wpRO_free rfl rfl _ (fun w' => by go_simp; exact Gives.mk _ _) (fun K hK => ?_); go_simp; refine hK _ ?_; clear hK K) | (refine wpRO_skipF rfl rfl (fun K hK => ?_); go_simp; refine hK _ ?_; clear hK K)
                      first | (refine wpRO_free rfl rfl _ (fun w' => by go_simp; exact Gives.mk _ _) (fun K hK => ?_); go_simp; refine hK _ ?_; clear hK K) | (refine wpRO_skipF rfl rfl (fun K hK => ?_); go_simp; refine hK _ ?_; clear hK K)
                      first | (refine wpRO_free rfl rfl _ (fun w' => by go_simp; exact Gives.mk _ _) (fun K hK => ?_); go_simp; refine hK _ ?_; clear hK K) | (refine wpRO_skipF rfl rfl (fun K hK => ?_); go_simp; refine hK _ ?_; clear hK K)
                      first | (refine wpRO_free rfl rfl _ (fun w' => by go_simp; exact Gives.mk _ _) (fun K hK => ?_); go_simp; refine hK _ ?_; clear hK K) | (refine wpRO_skipF rfl rfl (fun K hK => ?_); go_simp; refine hK _ ?_; clear hK K)
                      first | (refine wpRO_free rfl rfl _ (fun w' => by go_simp; exact Gives.mk _ _) (fun K hK => ?_); go_simp; refine hK _ ?_; clear hK K) | (refine wpRO_skipF rfl rfl (fun K hK => ?_); go_simp; refine hK _ ?_; clear hK K)
                      first | (refine wpRO_free rfl rfl _ (fun w' => by go_simp; exact Gives.mk _ _) (fun K hK => ?_); go_simp; refine hK _ ?_; clear hK K) | (refine wpRO_skipF rfl rfl (fun K hK => ?_); go_simp; refine hK _ ?_; clear hK K)
                      first | (refine wpRO_free rfl rfl _ (fun w' => by go_simp; exact Gives.mk _ _) (fun K hK => ?_); go_simp; refine hK _ ?_; clear hK K) | (refine wpRO_skipF rfl rfl (fun K hK => ?_); go_simp; refine hK _ ?_; clear hK K)
                      first | (refine wpRO_free rfl rfl _ (fun w' => by go_simp; exact Gives.mk _ _) (fun K hK => ?_); go_simp; refine hK _ ?_; clear hK K) | (refine wpRO_skipF rfl rfl (fun K hK => ?_); go_simp; refine hK _ ?_; clear hK K)
                      first | (refine wpRO_free rfl rfl _ (fun w' => by go_simp; exact Gives.mk _ _) (fun K hK => ?_); go_simp; refine hK _ ?_; clear hK K) | (refine wpRO_skipF rfl rfl (fun K hK => ?_); go_simp; refine hK _ ?_; clear hK K)
                      first | (refine wpRO_pure rfl rfl _ (fun w' hG => by obtain ⟨g0, g1, g2⟩ := hG; exact gives_agg2 rfl (by decide +kernel) rfl (by assumption) (by assumption)) (fun K hK => ?_); go_simp; refine hK _ ?_; clear hK K) | (refine wpRO_pure rfl rfl _ (fun w' hG => by obtain ⟨g0, g1, g2⟩ := hG; go_simp; exact Gives.mk _ _) (fun K hK => ?_); go_simp; refine hK _ ?_; clear hK K) | (refine wpRO_skip rfl rfl (fun K hK => ?_); go_simp; refine hK _ ?_; clear hK K)
                      first | (refine wpRO_pure rfl rfl _ (fun w' hG => by obtain ⟨g0, g1, g2⟩ := hG; exact gives_agg2 rfl (by decide +kernel) rfl (by assumption) (by assumption)) (fun K hK => ?_); go_simp; refine hK _ ?_; clear hK K) | (refine wpRO_pure rfl rfl _ (fun w' hG => by obtain ⟨g0, g1, g2⟩ := hG; go_simp; exact Gives.mk _ _) (fun K hK => ?_); go_simp; refine hK _ ?_; clear hK K) | (refine wpRO_skip rfl rfl (fun K hK => ?_); go_simp; refine hK _ ?_; clear hK K)
                      first | (refine wpRO_free rfl rfl _ (fun w' => by go_simp; exact Gives.mk _ _) (fun K hK => ?_); go_simp; refine hK _ ?_; clear hK K) | (refine wpRO_skipF rfl rfl (fun K hK => ?_); go_simp; refine hK _ ?_; clear hK K)
                      first | (refine wpRO_pure rfl rfl _ (fun w' hG => by obtain ⟨g0, g1, g2⟩ := hG; exact gives_agg2 rfl (by decide +kernel) rfl (by assumption) (by assumption)) (fun K hK => ?_); go_simp; refine hK _ ?_; clear hK K) | (refine wpRO_pure rfl rfl _ (fun w' hG => by obtain ⟨g0, g1, g2⟩ := hG; go_simp; exact Gives.mk _ _) (fun K hK => ?_); go_simp; refine hK _ ?_; clear hK K) | (refine wpRO_skip rfl rfl (fun K hK => ?_); go_simp; refine hK _ ?_; clear hK K)
                      first | (refine wpRO_free rfl rfl _ (fun w' => by go_simp; exact Gives.mk _ _) (fun K hK => ?_); go_simp; refine hK _ ?_; clear hK K) | (refine wpRO_skipF rfl rfl (fun K hK => ?_); go_simp; refine hK _ ?_; clear hK K)
                      refine wpRO_chg rfl rfl rfl (fun K hK => ?_); unfold gRun; go_simp
                      refine hK _ _ ?_
                      clear hK K
                      refine wpRO_swi (fun _ => True) trivial (wpRO_fin ?_)
                      clear q0 ql qg qw qf b2 bl gl gcc hW
                      generalize (w6.setCell ⟨gq, N, none⟩ (.int .i64 vc)).drew = w7 at *
                      have gl := X7.out.D.G.lt
                      have gcc := X7.out.D.root (k := c) (by rw [SRT.out, h12]; exact hcl)
                      rw [SRT.out, HVC.out] at gcc
                      by_cases hm4c : vc % 4 = 1
                      · go_wp2_with fail
                        refine (At_yes vc _ hm4c).mono ?_
                        rintro e w8 ⟨rfl, rfl⟩
                        clear gl gcc
                        go_wp2_with fail
                        refine (IsOld_c (va / 4) _ X7.out.D.R HRq.out).mono ?_
                        rintro e w9 ⟨rfl, hk9⟩
                        have X9 := Lib.hid (X7.out.same hk9)
                        clear hk9 X7
                        cases ho : (O.set va y vc).2.ar.old (va / 4)
                        · have SN := Lib.hid (SNO.out (fun h => by rw [← SAR.out, ho] at h; exact absurd h.2.2 (by decide)))
                          go_wp2_with fail
                          refine ⟨by kernel_rfl, ?_⟩
                          exact ⟨h6, _, _, X9.out, SN.out, TWN.out⟩
                        · go_wp2_with fail
                          refine (IsYoung_c (vc / 4) _ X9.out.D.R).mono ?_
                          rintro e w10 ⟨rfl, rfl⟩
                          cases hyg : (O.set va y vc).2.ar.young (vc / 4)
                          · have SN := Lib.hid (SNO.out (fun h => by rw [← SAR.out, hyg] at h; exact absurd h.2.1 (by decide)))
                            go_wp2_with fail
                            refine ⟨by kernel_rfl, ?_⟩
                            exact ⟨h6, _, _, X9.out, SN.out, TWN.out⟩
                          · obtain ⟨j, hnl, hj, hSj⟩ := SYES.out hm4c (by rw [← SAR.out]; exact hyg) (by rw [← SAR.out]; exact ho)
                            have HSJ := Lib.hid hSj
                            clear hSj
                            have hn1 := HNO.out.1; have hn2 := HNO.out.2.1
                            have hjb : (j : Int) ≤ 1280 := by
                              rw [Int.tdiv_eq_ediv_of_nonneg (by omega)] at hj; omega
                            have hdl := S.out.le HOK.out
                            obtain ⟨ao, dcap, edv, rdD, -, -⟩ := X9.out.D.D.rd
                            subst edv
                            have hwr : IntKind.i64.wrap (va / 4 - n) = va / 4 - n := IntWalk.i64_in _ (by omega)
                            by_cases hin : (j : Int) ∈ ds
                            · rw [if_pos hin] at HSJ
                              go_wp2_with fail
                              refine (In_c ao dcap ds (j : Int) _ rdD (by omega)).mono ?_
                              rintro e w11 ⟨rfl, rfl⟩
                              rw [decide_eq_true hin]
                              go_wp2_with fail
                              refine ⟨by kernel_rfl, ?_⟩
                              exact ⟨h6, _, _, X9.out, HSJ.out, TWN.out⟩
                            · rw [if_neg hin] at HSJ
                              obtain ⟨i0, hi, hz0, hz1, hz2⟩ := info_parts info_int
                              have Hi := Lib.hid hi; have Hz0 := Lib.hid hz0; have Hz1 := Lib.hid hz1; have Hz2 := Lib.hid hz2; clear hi hz0 hz1 hz2
                              go_wp2_with fail
                              refine (In_c ao dcap ds (j : Int) _ rdD (by omega)).mono ?_
                              rintro e w11 ⟨rfl, rfl⟩
                              rw [decide_eq_false hin]
                              go_wp2_with (at_builtin; refine wpList_app rfl (.tmp 334) (.tmp 339) 50 rfl 3 i0 (.int .i64 0) 1 8 Try.underlying50 Hi.out Hz0.out Hz1.out Hz2.out rfl (by decide) _ ds.length (ds.map (Value.int .i64)) rfl ?ha ⟨w9.heap.size, 0, none⟩ 1 1 [.int .i64 (j : Int)] rfl rfl ?hb ?hc ?hd ?he ?hf)
                              case ha => exact X9.out.D.D.keep ((Keeps.refl (fun _ => False) _).alloc _) (fun _ _ h => h)
                              case hb => exact news_at w9 3 _
                              case hc => intro u hu; simp at hu; subst hu; rfl
                              case hd => unfold maxLen; omega
                              case he => omega
                              case hf =>
                                intro v4 w12 hs4 hk4 how4
                                have hka := (Keeps.refl (fun _ => False) w9).alloc (.cells #[.int .i64 (j : Int)] 3)
                                have X12 := Lib.hid ((X9.out.same hka).app hs4 hk4 (by simpa using how4))
                                clear hs4 hk4 how4 hka rdD
                                go_wp2_with fail
                                refine ⟨by kernel_rfl, ?_⟩
                                exact ⟨h6, _, _, X12.out, HSJ.out, TWN.out⟩
                      · have SN := Lib.hid (SNO.out (fun h => hm4c h.1))
                        go_wp2_with fail
                        refine (At_no vc _ hm4c).mono ?_
                        rintro e w8 ⟨rfl, rfl⟩
                        go_wp2_with fail
                        refine ⟨by kernel_rfl, ?_⟩
                        exact ⟨h6, _, _, X7.out, SN.out, TWN.out⟩
                    · have hzb : (gc == 0) = false := by simpa using hz
                      have e2 : (O.set va y vc).2 = O := by rw [Wo.set_no' (by rw [HG.out]; exact hz)]
                      rw [e2] at X6
                      clear e2
                      go_wp2_with fail
                      refine ⟨by kernel_rfl, ?_⟩
                      exact ⟨h6, _, _, X6.out, S.out, HT.out⟩
                -->d2
              · --<d3
                as_aux_lemma =>
                go_wp2_with fail
                refine (At_any va _).mono ?_
                rintro e w5 ⟨rfl, rfl⟩
                obtain ⟨ok, hok⟩ : ∃ b, decide (va % 4 = 1) = b := ⟨_, rfl⟩
                obtain ⟨at_, hat⟩ : ∃ i, (if va % 4 = 1 then va / 4 else 0) = i := ⟨_, rfl⟩
                rw [hok, hat]
                have HOK2 := Lib.hid hok; have HAT := Lib.hid hat
                clear hok hat ra gl0
                go_upto_if 187 with fail
                rename_i K0 hK0
                refine wp_cut_over (fun i => Nat.blt 186 i && Nat.blt i 195 || Nat.blt 25 i && Nat.blt i 29) (fun s wx => s 26 = .int .i64 tk ∧ s 27 = .int .i64 tn ∧ s 28 = .int .i64 te ∧ DX w wx p hh q gq gr O O.ar O.rt dv ds be [.int .i64 3, .int .i64 x, .int .i64 y, .int .i64 z, .int .i64 v]) ?_ ?_
                · intro K hK
                  clear hK0
                  cases ok
                  · have e : (tk, tn, te) = (0, 0, 2) := by rw [HT3.out, if_neg (of_decide_eq_false HOK2.out)]
                    obtain ⟨e1, e2, e3⟩ : tk = 0 ∧ tn = 0 ∧ te = 2 := by simpa using e
                    subst e1; subst e2; subst e3
                    go_wp2_with fail
                    refine ⟨by kernel_rfl, ?_⟩
                    exact ⟨rfl, rfl, rfl, X.out⟩
                  · have hm4 := of_decide_eq_true HOK2.out
                    have e : O.ar.thing (va / 4) = (tk, tn, te) := by have := HT3.out; rw [if_pos hm4] at this; exact this.symm
                    have ea : at_ = va / 4 := by have := HAT.out; rw [if_pos hm4] at this; exact this.symm
                    subst ea
                    have HE := Lib.hid e; clear e hm4
                    go_wp2_with fail
                    refine (RThing_c (va / 4) _ X.out.D.R HRq.out).mono ?_
                    rintro e w6 ⟨rfl, hk6⟩
                    rw [HE.out]
                    have X6 := Lib.hid (X.out.same hk6)
                    clear hk6
                    go_wp2_with fail
                    refine ⟨by kernel_rfl, ?_⟩
                    exact ⟨rfl, rfl, rfl, X6.out⟩
                · intro u3 wy hrel
                  clear X b0 bl
                  obtain ⟨e26, e27, e28, hX⟩ := hrel
                  have e26 : u3 26 = .int .i64 tk := e26
                  have e27 : u3 27 = .int .i64 tn := e27
                  have e28 : u3 28 = .int .i64 te := e28
                  simp (maxSteps := 2000000) only [overA, overL, List.toList_toArray, Nat.blt, Nat.beq, Nat.ble, Nat.reduceAdd, Bool.or_false, Bool.false_or, Bool.or_true, Bool.true_or, Bool.and_true, Bool.true_and, Bool.and_false, Bool.false_and, cond_true, cond_false]
                  rw [e26, e27, e28]
                  have X := Lib.hid hX
                  clear e26 e27 e28 hX
                  refine hK0 _ _ ?_
                  clear hK0
                  refine wp_seq_k ?_
                  intro K2 hK2
                  have b0 := X.out.B.cell 0; have bl := X.out.B.lt; have b2 := X.out.B.cell 2
                  simp only [List.getElem?_cons_zero, List.getElem?_cons_succ] at b0 b2
                  refine wp_cut_over (fun i => Nat.blt 194 i && Nat.blt i 210 || Nat.beq i 28) (fun s wz => s 28 = .int .i64 gc ∧ wz = wy) ?_ ?_
                  · intro K hK
                    clear hK2
                    by_cases c1 : te = 0
                    · subst c1
                      by_cases c2 : tk = 5
                      · subst c2
                        obtain rfl : gc = 2 := by rw [HCODE.out, if_pos (.inr rfl)]
                        go_wp2_with fail
                        refine ⟨by kernel_rfl, ?_⟩
                        exact ⟨rfl, rfl⟩
                      · have e5 : (tk == 5) = false := by simpa using c2
                        have n1 : ¬ ((0 : Int) ≠ 0 ∨ tk = 5) := fun h => by rcases h with h | h; exact h rfl; exact c2 h
                        by_cases c3 : y < 0
                        · obtain rfl : gc = 1 := by rw [HCODE.out, if_neg n1, if_pos (.inl c3)]
                          go_wp2_with fail
                          refine ⟨by kernel_rfl, ?_⟩
                          exact ⟨rfl, rfl⟩
                        · have d3 : decide (y < 0) = false := decide_eq_false c3
                          by_cases c4 : tn ≤ y
                          · obtain rfl : gc = 1 := by rw [HCODE.out, if_neg n1, if_pos (.inr c4)]
                            go_wp2_with fail
                            refine ⟨by kernel_rfl, ?_⟩
                            exact ⟨rfl, rfl⟩
                          · have d4 : decide (tn ≤ y) = false := decide_eq_false c4
                            obtain rfl : gc = 0 := by rw [HCODE.out, if_neg n1, if_neg (fun h => by rcases h with h | h; exact c3 h; exact c4 h)]
                            go_wp2_with fail
                            refine ⟨by kernel_rfl, ?_⟩
                            exact ⟨rfl, rfl⟩
                    · have ee : (te != 0) = true := by simpa using c1
                      obtain rfl : gc = 2 := by rw [HCODE.out, if_pos (.inl c1)]
                      go_wp2_with fail
                      refine ⟨by kernel_rfl, ?_⟩
                      exact ⟨rfl, rfl⟩
                  · intro u4 wz hrel
                    obtain ⟨e28, rfl⟩ := hrel
                    have e28 : u4 28 = .int .i64 gc := e28
                    simp (maxSteps := 2000000) only [overA, overL, List.toList_toArray, Nat.blt, Nat.beq, Nat.ble, Nat.reduceAdd, Bool.or_false, Bool.false_or, Bool.or_true, Bool.true_or, Bool.and_true, Bool.true_and, Bool.and_false, Bool.false_and, cond_true, cond_false]
                    rw [e28]
                    clear e28
                    have XD := Lib.hid (X.out.same ((Keeps.refl (fun _ => False) wz).drew))
                    obtain ⟨g5, o5, cap5, hro5, how5, hgl5, c5, fz5, rc5⟩ := X.out.D.M.H.roots
                    have ra5 := rc5 a (by rw [h12]; exact hal); have rc6 := rc5 c (by rw [h12]; exact hcl)
                    have hf5 := fz5 (o5 + c)
                    rw [HVA.out] at ra5
                    rw [X.out.D.M.e, h12] at c5
                    have pl : p < wz.heap.size := X.out.D.M.e ▸ X.out.D.M.H.hp.lt
                    have HRO5 := Lib.hid hro5
                    have hne : g5 ≠ gr := fun e => X.out.D.ar (e ▸ .inr (.inr (.inr (.inr how5))))
                    have gl := X.out.D.G.lt; have gf := X.out.D.G.free c; have gcc := X.out.D.root (k := c) (by rw [h12]; exact hcl)
                    clear hro5 rc5 fz5 how5
                    have hget := Get_c va y XD.out.D.M.H
                    rw [XD.out.D.M.e, HG.out] at hget
                    have HGET := Lib.hid hget
                    clear hget
                    have RO6 := Lib.hid rc6; have FF := Lib.hid hf5
                    go_wp2_with fail
                    refine wp_region_ro (.free 0 (.free 1 (.free 2 (.free 3 (.free 5 (.free 8 (.pure 4 (.free 6 (.pure 7 (.pure 9 (.run 10 (.swi [] (.free 11 (.free 12 (.free 13 (.free 14 (.free 15 (.fin)))))))))))))))))) [10, 11, 12, 13, 14, 15] (fun w' => w'.cell? ⟨p, 3, none⟩ = some (.slice (some ⟨g5, o5, none⟩) 12 cap5) ∧ w'.cell? ⟨g5, o5 + a, none⟩ = some (.int .i64 va) ∧ w'.cell? ⟨be, 2, none⟩ = some (.int .i64 y)) (by kernel_rfl) (by kernel_rfl) ⟨c5, ra5, b2⟩ ?_
                    first | (refine wpRO_free rfl rfl _ (fun w' => by go_simp; exact Gives.mk _ _) (fun K hK => ?_); go_simp; refine hK _ ?_; clear hK K) | (refine wpRO_skipF rfl rfl (fun K hK => ?_); go_simp; refine hK _ ?_; clear hK K)
                    first | (refine wpRO_free rfl rfl _ (fun w' => by go_simp; exact Gives.mk _ _) (fun K hK => ?_); go_simp; refine hK _ ?_; clear hK K) | (refine wpRO_skipF rfl rfl (fun K hK => ?_); go_simp; refine hK _ ?_; clear hK K)
                    first | (refine wpRO_free rfl rfl _ (fun w' => by go_simp; exact Gives.mk _ _) (fun K hK => ?_); go_simp; refine hK _ ?_; clear hK K) | (refine wpRO_skipF rfl rfl (fun K hK => ?_); go_simp; refine hK _ ?_; clear hK K)
                    first | (refine wpRO_free rfl rfl _ (fun w' => by go_simp; exact Gives.mk _ _) (fun K hK => ?_); go_simp; refine hK _ ?_; clear hK K) | (refine wpRO_skipF rfl rfl (fun K hK => ?_); go_simp; refine hK _ ?_; clear hK K)
                    first | (refine wpRO_free rfl rfl _ (fun w' => by go_simp; exact Gives.mk _ _) (fun K hK => ?_); go_simp; refine hK _ ?_; clear hK K) | (refine wpRO_skipF rfl rfl (fun K hK => ?_); go_simp; refine hK _ ?_; clear hK K)
                    first | (refine wpRO_free rfl rfl _ (fun w' => by go_simp; exact Gives.mk _ _) (fun K hK => ?_); go_simp; refine hK _ ?_; clear hK K) | (refine wpRO_skipF rfl rfl (fun K hK => ?_); go_simp; refine hK _ ?_; clear hK K)
                    first | (refine wpRO_pure rfl rfl _ (fun w' hG => by obtain ⟨g0, g1, g2⟩ := hG; exact gives_agg2 rfl (by decide +kernel) rfl (by assumption) (by assumption)) (fun K hK => ?_); go_simp; refine hK _ ?_; clear hK K) | (refine wpRO_pure rfl rfl _ (fun w' hG => by obtain ⟨g0, g1, g2⟩ := hG; go_simp; exact Gives.mk _ _) (fun K hK => ?_); go_simp; refine hK _ ?_; clear hK K) | (refine wpRO_skip rfl rfl (fun K hK => ?_); go_simp; refine hK _ ?_; clear hK K)
                    first | (refine wpRO_free rfl rfl _ (fun w' => by go_simp; exact Gives.mk _ _) (fun K hK => ?_); go_simp; refine hK _ ?_; clear hK K) | (refine wpRO_skipF rfl rfl (fun K hK => ?_); go_simp; refine hK _ ?_; clear hK K)
                    first | (refine wpRO_pure rfl rfl _ (fun w' hG => by obtain ⟨g0, g1, g2⟩ := hG; exact gives_agg2 rfl (by decide +kernel) rfl (by assumption) (by assumption)) (fun K hK => ?_); go_simp; refine hK _ ?_; clear hK K) | (refine wpRO_pure rfl rfl _ (fun w' hG => by obtain ⟨g0, g1, g2⟩ := hG; go_simp; exact Gives.mk _ _) (fun K hK => ?_); go_simp; refine hK _ ?_; clear hK K) | (refine wpRO_skip rfl rfl (fun K hK => ?_); go_simp; refine hK _ ?_; clear hK K)
                    first | (refine wpRO_pure rfl rfl _ (fun w' hG => by obtain ⟨g0, g1, g2⟩ := hG; exact gives_agg2 rfl (by decide +kernel) rfl (by assumption) (by assumption)) (fun K hK => ?_); go_simp; refine hK _ ?_; clear hK K) | (refine wpRO_pure rfl rfl _ (fun w' hG => by obtain ⟨g0, g1, g2⟩ := hG; go_simp; exact Gives.mk _ _) (fun K hK => ?_); go_simp; refine hK _ ?_; clear hK K) | (refine wpRO_skip rfl rfl (fun K hK => ?_); go_simp; refine hK _ ?_; clear hK K)
                    refine wpRO_chg rfl rfl rfl (fun K hK => ?_); unfold gRun; go_simp
                    refine HGET.out.mono ?_
                    rintro e w6 ⟨rfl, rfl⟩
                    refine hK _ _ ?_
                    clear hK K
                    refine wpRO_swi (fun _ => True) trivial ?_
                    first | (refine wpRO_free rfl rfl _ (fun w' => by go_simp; exact Gives.mk _ _) (fun K hK => ?_); go_simp; refine hK _ ?_; clear hK K) | (refine wpRO_skipF rfl rfl (fun K hK => ?_); go_simp; refine hK _ ?_; clear hK K)
                    first | (refine wpRO_free rfl rfl _ (fun w' => by go_simp; exact Gives.mk _ _) (fun K hK => ?_); go_simp; refine hK _ ?_; clear hK K) | (refine wpRO_skipF rfl rfl (fun K hK => ?_); go_simp; refine hK _ ?_; clear hK K)
                    first | (refine wpRO_free rfl rfl _ (fun w' => by go_simp; exact Gives.mk _ _) (fun K hK => ?_); go_simp; refine hK _ ?_; clear hK K) | (refine wpRO_skipF rfl rfl (fun K hK => ?_); go_simp; refine hK _ ?_; clear hK K)
                    first | (refine wpRO_free rfl rfl _ (fun w' => by go_simp; exact Gives.mk _ _) (fun K hK => ?_); go_simp; refine hK _ ?_; clear hK K) | (refine wpRO_skipF rfl rfl (fun K hK => ?_); go_simp; refine hK _ ?_; clear hK K)
                    first | (refine wpRO_free rfl rfl _ (fun w' => by go_simp; exact Gives.mk _ _) (fun K hK => ?_); go_simp; refine hK _ ?_; clear hK K) | (refine wpRO_skipF rfl rfl (fun K hK => ?_); go_simp; refine hK _ ?_; clear hK K)
                    refine wpRO_fin ?_
                    clear HGET c5 ra5 b0 b2 bl pl gl gf gcc rc6 hf5 X hgl5 RO6 FF
                    by_cases hz : gc = 0
                    · subst hz
                      have TG := Lib.hid (show va % 4 = 1 ∧ 0 ≤ y ∧ gv = O.ar.load (va / 4 + 1 + y) ∧ O.ar.inUse (va / 4 + 1 + y) = true ∧ (gv % 4 = 1 → ∃ ps, TW O.ar O.rt ps ∧ gv / 4 ∈ ps) ∧ ∃ ps, TW O.ar O.rt ps ∧ va / 4 ∈ ps ∧ y < (O.ar.thing (va / 4)).2.1 by
                        obtain ⟨ps, T⟩ := HT.out
                        have tg := T.get HMEM.out (i := y) (by rw [HG.out])
                        rw [HG.out] at tg
                        exact ⟨tg.1, tg.2.2.1, tg.2.2.2.2.1, tg.2.2.2.2.2.1, fun h => ⟨ps, T, tg.2.2.2.2.2.2 h⟩, ps, T, tg.2.1, tg.2.2.2.1⟩)
                      have hul := HOK.out.ha.use_lt TG.out.2.2.2.1
                      obtain ⟨N, hN⟩ : ∃ N : Nat, va / 4 + 1 + y = N := ⟨(va / 4 + 1 + y).toNat, by omega⟩
                      have hNl : (N : Int) < O.ar.ws.length := by rw [← hN]; exact hul.2
                      have hwl := HOK.out.ha.h4; have hw3 := HOK.out.ha.h3
                      have hgv : O.ar.ws.getD N 0 = gv := by
                        rw [TG.out.2.2.1, hN]; unfold Ar.load; rw [if_pos (by rw [← hN]; exact TG.out.2.2.2.1), Int.toNat_natCast]
                      obtain rfl : at_ = va / 4 := by have := HAT.out; rw [if_pos TG.out.1] at this; exact this.symm
                      have hat0 : 0 ≤ va / 4 := by
                        obtain ⟨ps, T, hp, -⟩ := TG.out.2.2.2.2.2
                        have := HOK.out.ha.use_lt (T.use hp (j := 0) (by omega) (O.ar.thing_fields _).1)
                        omega
                      have hat1 : va / 4 ≤ 1280 := by have := TG.out.2.1; omega
                      have hy0 := TG.out.2.1
                      have hy1 : y ≤ 1280 := by omega
                      clear hul
                      have hgv0 : True := trivial
                      have q0 := XD.out.D.R.hp.cell 0; have ql := XD.out.D.R.hp.lt; have qg := XD.out.D.R.hg.lt; have qw := XD.out.D.R.word N (by omega)
                      have b2 := XD.out.B.cell 2; have bl := XD.out.B.lt
                      simp only [List.getElem?_cons_zero, List.getElem?_cons_succ] at q0 b2
                      rw [hgv] at qw
                      generalize hwd : wz.drew = wd at *
                      clear hwd
                      have hW : IntKind.i64.wrap (IntKind.i64.wrap (va / 4 + 1) + y) = (N : Int) := by rw [IntWalk.i64_in (va / 4 + 1) (by omega), hN]; exact IntWalk.i64_in _ (by omega)
                      have HN := Lib.hid hN
                      clear hN
                      go_wp2_with fail
                      refine wp_region_ro (.free 0 (.free 1 (.free 2 (.free 3 (.free 4 (.free 5 (.free 6 (.free 7 (.free 8 (.free 9 (.free 10 (.free 12 (.free 13 (.free 14 (.pure 11 (.pure 15 (.free 16 (.free 17 (.pure 18 (.free 19 (.free 20 (.free 21 (.free 22 (.free 23 (.free 24 (.free 25 (.free 26 (.free 27 (.free 28 (.free 29 (.fin))))))))))))))))))))))))))))))) [] (fun w' => w'.cell? ⟨q, 0, none⟩ = some (.slice (some ⟨gq, 0, none⟩) O.ar.ws.length O.ar.ws.length) ∧ w'.cell? ⟨be, 2, none⟩ = some (.int .i64 y) ∧ w'.cell? ⟨gq, N, none⟩ = some (.int .i64 gv)) (by kernel_rfl) (by kernel_rfl) ⟨q0, b2, qw⟩ ?_
                      first | (refine wpRO_free rfl rfl _ (fun w' => by go_simp; exact Gives.mk _ _) (fun K hK => ?_); go_simp; refine hK _ ?_; clear hK K) | (refine wpRO_skipF rfl rfl (fun K hK => ?_); go_simp; refine hK _ ?_; clear hK K)
                      first | (refine wpRO_free rfl rfl _ (fun w' => by go_simp; exact Gives.mk _ _) (fun K hK => ?_); go_simp; refine hK _ ?_; clear hK K) | (refine wpRO_skipF rfl rfl (fun K hK => ?_); go_simp; refine hK _ ?_; clear hK K)
                      first | (refine wpRO_free rfl rfl _ (fun w' => by go_simp; exact Gives.mk _ _) (fun K hK => ?_); go_simp; refine hK _ ?_; clear hK K) | (refine wpRO_skipF rfl rfl (fun K hK => ?_); go_simp; refine hK _ ?_; clear hK K)
                      first | (refine wpRO_free rfl rfl _ (fun w' => by go_simp; exact Gives.mk _ _) (fun K hK => ?_); go_simp; refine hK _ ?_; clear hK K) | (refine wpRO_skipF rfl rfl (fun K hK => ?_); go_simp; refine hK _ ?_; clear hK K)
                      first | (refine wpRO_free rfl rfl _ (fun w' => by go_simp; exact Gives.mk _ _) (fun K hK => ?_); go_simp; refine hK _ ?_; clear hK K) | (refine wpRO_skipF rfl rfl (fun K hK => ?_); go_simp; refine hK _ ?_; clear hK K)
                      first | (refine wpRO_free rfl rfl _ (fun w' => by go_simp; exact Gives.mk _ _) (fun K hK => ?_); go_simp; refine hK _ ?_; clear hK K) | (refine wpRO_skipF rfl rfl (fun K hK => ?_); go_simp; refine hK _ ?_; clear hK K)
                      first | (refine wpRO_free rfl rfl _ (fun w' => by go_simp; exact Gives.mk _ _) (fun K hK => ?_); go_simp; refine hK _ ?_; clear hK K) | (refine wpRO_skipF rfl rfl (fun K hK => ?_); go_simp; refine hK _ ?_; clear hK K)
                      first | (refine wpRO_free rfl rfl _ (fun w' => by go_simp; exact Gives.mk _ _) (fun K hK => ?_); go_simp; refine hK _ ?_; clear hK K) | (refine wpRO_skipF rfl rfl (fun K hK => ?_); go_simp; refine hK _ ?_; clear hK K)
                      first | (refine wpRO_free rfl rfl _ (fun w' => by go_simp; exact Gives.mk _ _) (fun K hK => ?_); go_simp; refine hK _ ?_; clear hK K) | (refine wpRO_skipF rfl rfl (fun K hK => ?_); go_simp; refine hK _ ?_; clear hK K)
                      first | (refine wpRO_free rfl rfl _ (fun w' => by go_simp; exact Gives.mk _ _) (fun K hK => ?_); go_simp; refine hK _ ?_; clear hK K) | (refine wpRO_skipF rfl rfl (fun K hK => ?_); go_simp; refine hK _ ?_; clear hK K)
                      first | (refine wpRO_free rfl rfl _ (fun w' => by go_simp; exact Gives.mk _ _) (fun K hK => ?_); go_simp; refine hK _ ?_; clear hK K) | (refine wpRO_skipF rfl rfl (fun K hK => ?_); go_simp; refine hK _ ?_; clear hK K)
                      first | (refine wpRO_free rfl rfl _ (fun w' => by go_simp; exact Gives.mk _ _) (fun K hK => ?_); go_simp; refine hK _ ?_; clear hK K) | (refine wpRO_skipF rfl rfl (fun K hK => ?_); go_simp; refine hK _ ?_; clear hK K)
                      first | (refine wpRO_free rfl rfl _ (fun w' => by go_simp; exact Gives.mk _ _) (fun K hK => ?_); go_simp; refine hK _ ?_; clear hK K) | (refine wpRO_skipF rfl rfl (fun K hK => ?_); go_simp; refine hK _ ?_; clear hK K)
                      first | (refine wpRO_free rfl rfl _ (fun w' => by go_simp; exact Gives.mk _ _) (fun K hK => ?_); go_simp; refine hK _ ?_; clear hK K) | (refine wpRO_skipF rfl rfl (fun K hK => ?_); go_simp; refine hK _ ?_; clear hK K)
                      first | (refine wpRO_pure rfl rfl _ (fun w' hG => by obtain ⟨g0, g1, g2⟩ := hG; exact gives_agg2 rfl (by decide +kernel) rfl (by assumption) (by assumption)) (fun K hK => ?_); go_simp; refine hK _ ?_; clear hK K) | (refine wpRO_pure rfl rfl _ (fun w' hG => by obtain ⟨g0, g1, g2⟩ := hG; go_simp; exact Gives.mk _ _) (fun K hK => ?_); go_simp; refine hK _ ?_; clear hK K) | (refine wpRO_skip rfl rfl (fun K hK => ?_); go_simp; refine hK _ ?_; clear hK K)
                      first | (refine wpRO_pure rfl rfl _ (fun w' hG => by obtain ⟨g0, g1, g2⟩ := hG; exact gives_agg2 rfl (by decide +kernel) rfl (by assumption) (by assumption)) (fun K hK => ?_); go_simp; refine hK _ ?_; clear hK K) | (refine wpRO_pure rfl rfl _ (fun w' hG => by obtain ⟨g0, g1, g2⟩ := hG; go_simp; exact Gives.mk _ _) (fun K hK => ?_); go_simp; refine hK _ ?_; clear hK K) | (refine wpRO_skip rfl rfl (fun K hK => ?_); go_simp; refine hK _ ?_; clear hK K)
                      first | (refine wpRO_free rfl rfl _ (fun w' => by go_simp; exact Gives.mk _ _) (fun K hK => ?_); go_simp; refine hK _ ?_; clear hK K) | (refine wpRO_skipF rfl rfl (fun K hK => ?_); go_simp; refine hK _ ?_; clear hK K)
                      first | (refine wpRO_free rfl rfl _ (fun w' => by go_simp; exact Gives.mk _ _) (fun K hK => ?_); go_simp; refine hK _ ?_; clear hK K) | (refine wpRO_skipF rfl rfl (fun K hK => ?_); go_simp; refine hK _ ?_; clear hK K)
                      first | (refine wpRO_pure rfl rfl _ (fun w' hG => by obtain ⟨g0, g1, g2⟩ := hG; exact gives_agg2 rfl (by decide +kernel) rfl (by assumption) (by assumption)) (fun K hK => ?_); go_simp; refine hK _ ?_; clear hK K) | (refine wpRO_pure rfl rfl _ (fun w' hG => by obtain ⟨g0, g1, g2⟩ := hG; go_simp; exact Gives.mk _ _) (fun K hK => ?_); go_simp; refine hK _ ?_; clear hK K) | (refine wpRO_skip rfl rfl (fun K hK => ?_); go_simp; refine hK _ ?_; clear hK K)
                      first | (refine wpRO_free rfl rfl _ (fun w' => by go_simp; exact Gives.mk _ _) (fun K hK => ?_); go_simp; refine hK _ ?_; clear hK K) | (refine wpRO_skipF rfl rfl (fun K hK => ?_); go_simp; refine hK _ ?_; clear hK K)
                      first | (refine wpRO_free rfl rfl _ (fun w' => by go_simp; exact Gives.mk _ _) (fun K hK => ?_); go_simp; refine hK _ ?_; clear hK K) | (refine wpRO_skipF rfl rfl (fun K hK => ?_); go_simp; refine hK _ ?_; clear hK K)
                      first | (refine wpRO_free rfl rfl _ (fun w' => by go_simp; exact Gives.mk _ _) (fun K hK => ?_); go_simp; refine hK _ ?_; clear hK K) | (refine wpRO_skipF rfl rfl (fun K hK => ?_); go_simp; refine hK _ ?_; clear hK K)
                      first | (refine wpRO_free rfl rfl _ (fun w' => by go_simp; exact Gives.mk _ _) (fun K hK => ?_); go_simp; refine hK _ ?_; clear hK K) | (refine wpRO_skipF rfl rfl (fun K hK => ?_); go_simp; refine hK _ ?_; clear hK K)
                      first | (refine wpRO_free rfl rfl _ (fun w' => by go_simp; exact Gives.mk _ _) (fun K hK => ?_); go_simp; refine hK _ ?_; clear hK K) | (refine wpRO_skipF rfl rfl (fun K hK => ?_); go_simp; refine hK _ ?_; clear hK K)
                      first | (refine wpRO_free rfl rfl _ (fun w' => by go_simp; exact Gives.mk _ _) (fun K hK => ?_); go_simp; refine hK _ ?_; clear hK K) | (refine wpRO_skipF rfl rfl (fun K hK => ?_); go_simp; refine hK _ ?_; clear hK K)
                      first | (refine wpRO_free rfl rfl _ (fun w' => by go_simp; exact Gives.mk _ _) (fun K hK => ?_); go_simp; refine hK _ ?_; clear hK K) | (refine wpRO_skipF rfl rfl (fun K hK => ?_); go_simp; refine hK _ ?_; clear hK K)
                      first | (refine wpRO_free rfl rfl _ (fun w' => by go_simp; exact Gives.mk _ _) (fun K hK => ?_); go_simp; refine hK _ ?_; clear hK K) | (refine wpRO_skipF rfl rfl (fun K hK => ?_); go_simp; refine hK _ ?_; clear hK K)
                      first | (refine wpRO_free rfl rfl _ (fun w' => by go_simp; exact Gives.mk _ _) (fun K hK => ?_); go_simp; refine hK _ ?_; clear hK K) | (refine wpRO_skipF rfl rfl (fun K hK => ?_); go_simp; refine hK _ ?_; clear hK K)
                      first | (refine wpRO_free rfl rfl _ (fun w' => by go_simp; exact Gives.mk _ _) (fun K hK => ?_); go_simp; refine hK _ ?_; clear hK K) | (refine wpRO_skipF rfl rfl (fun K hK => ?_); go_simp; refine hK _ ?_; clear hK K)
                      first | (refine wpRO_free rfl rfl _ (fun w' => by go_simp; exact Gives.mk _ _) (fun K hK => ?_); go_simp; refine hK _ ?_; clear hK K) | (refine wpRO_skipF rfl rfl (fun K hK => ?_); go_simp; refine hK _ ?_; clear hK K)
                      refine wpRO_fin ?_
                      clear q0 ql qg qw b2 bl hW
                      have X6 := Lib.hid (XD.out.same ((Keeps.refl (fun _ => False) wd).drew))
                      clear XD
                      generalize wd.drew = wc at *
                      obtain ⟨g5, o5, cap5, hro5, how5, hgl5, c5, fz5, rc5⟩ := X6.out.D.M.H.roots
                      have rc6 := rc5 c (by rw [h12]; exact hcl)
                      have hf5 := fz5 (o5 + c)
                      rw [X6.out.D.M.e, h12] at c5
                      have pl : p < wc.heap.size := X6.out.D.M.e ▸ X6.out.D.M.H.hp.lt
                      have HRO5 := Lib.hid hro5
                      have hne : g5 ≠ gr := fun e => X6.out.D.ar (e ▸ .inr (.inr (.inr (.inr how5))))
                      have gl := X6.out.D.G.lt; have gf := X6.out.D.G.free c; have gcc := X6.out.D.root (k := c) (by rw [h12]; exact hcl)
                      clear hro5 rc5 fz5 how5
                      have HGR := Lib.hid (show R64 gv by rw [TG.out.2.2.1]; exact HOK.out.ha.load _)
                      go_wp2_with fail
                      obtain ⟨h7, X7⟩ := X6.out.both (k := c) (x := gv) HRO5.out (by rw [h12]; exact hcl) HGR.out
                      have X8 := Lib.hid X7
                      clear X7
                      refine ⟨⟨by kernel_rfl, ?rel⟩, ?measure⟩
                      case rel =>
                        refine ⟨k + 1, hlt, by go_num, h7, _, _, X8.out.D, ⟨S.out.nur, S.out.len, S.out.cl, S.out.di⟩, ?_⟩
                        obtain ⟨ps, T, -, -⟩ := TG.out.2.2.2.2.2
                        by_cases hg4 : gv % 4 = 1
                        · obtain ⟨ps, T, hp⟩ := TG.out.2.2.2.2.1 hg4
                          exact ⟨ps, T.setRt (fun _ => hp) c⟩
                        · exact ⟨ps, T.setRt (fun h => (hg4 h).elim) c⟩
                      case measure => exact meas_lt (by go_num) (by first | rfl | exact E14.out) hlt
                    · have hzb : (gc == 0) = false := by simpa using hz
                      have hzc : (gc != 0) = true := by simpa using hz
                      obtain rfl : gv = 0 := by have := get_val (A := O.ar) (x := va) (i := y) (by rw [HG.out]; exact hz); rw [HG.out] at this; exact this
                      go_wp2_with fail
                      refine wp_region_ro (.free 0 (.free 1 (.free 2 (.free 3 (.free 4 (.free 5 (.free 6 (.free 7 (.free 8 (.free 9 (.free 10 (.free 12 (.free 13 (.free 14 (.pure 11 (.pure 15 (.free 16 (.free 17 (.pure 18 (.free 19 (.free 20 (.free 21 (.free 22 (.free 23 (.free 24 (.free 25 (.free 26 (.free 27 (.free 28 (.free 29 (.fin))))))))))))))))))))))))))))))) [] (fun w' => True) (by kernel_rfl) (by kernel_rfl) trivial ?_
                      first | (refine wpRO_free rfl rfl _ (fun w' => by go_simp; exact Gives.mk _ _) (fun K hK => ?_); go_simp; refine hK _ ?_; clear hK K) | (refine wpRO_skipF rfl rfl (fun K hK => ?_); go_simp; refine hK _ ?_; clear hK K)
                      first | (refine wpRO_free rfl rfl _ (fun w' => by go_simp; exact Gives.mk _ _) (fun K hK => ?_); go_simp; refine hK _ ?_; clear hK K) | (refine wpRO_skipF rfl rfl (fun K hK => ?_); go_simp; refine hK _ ?_; clear hK K)
                      first | (refine wpRO_free rfl rfl _ (fun w' => by go_simp; exact Gives.mk _ _) (fun K hK => ?_); go_simp; refine hK _ ?_; clear hK K) | (refine wpRO_skipF rfl rfl (fun K hK => ?_); go_simp; refine hK _ ?_; clear hK K)
                      first | (refine wpRO_free rfl rfl _ (fun w' => by go_simp; exact Gives.mk _ _) (fun K hK => ?_); go_simp; refine hK _ ?_; clear hK K) | (refine wpRO_skipF rfl rfl (fun K hK => ?_); go_simp; refine hK _ ?_; clear hK K)
                      first | (refine wpRO_free rfl rfl _ (fun w' => by go_simp; exact Gives.mk _ _) (fun K hK => ?_); go_simp; refine hK _ ?_; clear hK K) | (refine wpRO_skipF rfl rfl (fun K hK => ?_); go_simp; refine hK _ ?_; clear hK K)
                      first | (refine wpRO_free rfl rfl _ (fun w' => by go_simp; exact Gives.mk _ _) (fun K hK => ?_); go_simp; refine hK _ ?_; clear hK K) | (refine wpRO_skipF rfl rfl (fun K hK => ?_); go_simp; refine hK _ ?_; clear hK K)
                      first | (refine wpRO_free rfl rfl _ (fun w' => by go_simp; exact Gives.mk _ _) (fun K hK => ?_); go_simp; refine hK _ ?_; clear hK K) | (refine wpRO_skipF rfl rfl (fun K hK => ?_); go_simp; refine hK _ ?_; clear hK K)
                      first | (refine wpRO_free rfl rfl _ (fun w' => by go_simp; exact Gives.mk _ _) (fun K hK => ?_); go_simp; refine hK _ ?_; clear hK K) | (refine wpRO_skipF rfl rfl (fun K hK => ?_); go_simp; refine hK _ ?_; clear hK K)
                      first | (refine wpRO_free rfl rfl _ (fun w' => by go_simp; exact Gives.mk _ _) (fun K hK => ?_); go_simp; refine hK _ ?_; clear hK K) | (refine wpRO_skipF rfl rfl (fun K hK => ?_); go_simp; refine hK _ ?_; clear hK K)
                      first | (refine wpRO_free rfl rfl _ (fun w' => by go_simp; exact Gives.mk _ _) (fun K hK => ?_); go_simp; refine hK _ ?_; clear hK K) | (refine wpRO_skipF rfl rfl (fun K hK => ?_); go_simp; refine hK _ ?_; clear hK K)
                      first | (refine wpRO_free rfl rfl _ (fun w' => by go_simp; exact Gives.mk _ _) (fun K hK => ?_); go_simp; refine hK _ ?_; clear hK K) | (refine wpRO_skipF rfl rfl (fun K hK => ?_); go_simp; refine hK _ ?_; clear hK K)
                      first | (refine wpRO_free rfl rfl _ (fun w' => by go_simp; exact Gives.mk _ _) (fun K hK => ?_); go_simp; refine hK _ ?_; clear hK K) | (refine wpRO_skipF rfl rfl (fun K hK => ?_); go_simp; refine hK _ ?_; clear hK K)
                      first | (refine wpRO_free rfl rfl _ (fun w' => by go_simp; exact Gives.mk _ _) (fun K hK => ?_); go_simp; refine hK _ ?_; clear hK K) | (refine wpRO_skipF rfl rfl (fun K hK => ?_); go_simp; refine hK _ ?_; clear hK K)
                      first | (refine wpRO_free rfl rfl _ (fun w' => by go_simp; exact Gives.mk _ _) (fun K hK => ?_); go_simp; refine hK _ ?_; clear hK K) | (refine wpRO_skipF rfl rfl (fun K hK => ?_); go_simp; refine hK _ ?_; clear hK K)
                      first | (refine wpRO_pure rfl rfl _ (fun w' hG => by obtain _ := hG; exact gives_agg2 rfl (by decide +kernel) rfl (by assumption) (by assumption)) (fun K hK => ?_); go_simp; refine hK _ ?_; clear hK K) | (refine wpRO_pure rfl rfl _ (fun w' hG => by obtain _ := hG; go_simp; exact Gives.mk _ _) (fun K hK => ?_); go_simp; refine hK _ ?_; clear hK K) | (refine wpRO_skip rfl rfl (fun K hK => ?_); go_simp; refine hK _ ?_; clear hK K)
                      first | (refine wpRO_pure rfl rfl _ (fun w' hG => by obtain _ := hG; exact gives_agg2 rfl (by decide +kernel) rfl (by assumption) (by assumption)) (fun K hK => ?_); go_simp; refine hK _ ?_; clear hK K) | (refine wpRO_pure rfl rfl _ (fun w' hG => by obtain _ := hG; go_simp; exact Gives.mk _ _) (fun K hK => ?_); go_simp; refine hK _ ?_; clear hK K) | (refine wpRO_skip rfl rfl (fun K hK => ?_); go_simp; refine hK _ ?_; clear hK K)
                      first | (refine wpRO_free rfl rfl _ (fun w' => by go_simp; exact Gives.mk _ _) (fun K hK => ?_); go_simp; refine hK _ ?_; clear hK K) | (refine wpRO_skipF rfl rfl (fun K hK => ?_); go_simp; refine hK _ ?_; clear hK K)
                      first | (refine wpRO_free rfl rfl _ (fun w' => by go_simp; exact Gives.mk _ _) (fun K hK => ?_); go_simp; refine hK _ ?_; clear hK K) | (refine wpRO_skipF rfl rfl (fun K hK => ?_); go_simp; refine hK _ ?_; clear hK K)
                      first | (refine wpRO_pure rfl rfl _ (fun w' hG => by obtain _ := hG; exact gives_agg2 rfl (by decide +kernel) rfl (by assumption) (by assumption)) (fun K hK => ?_); go_simp; refine hK _ ?_; clear hK K) | (refine wpRO_pure rfl rfl _ (fun w' hG => by obtain _ := hG; go_simp; exact Gives.mk _ _) (fun K hK => ?_); go_simp; refine hK _ ?_; clear hK K) | (refine wpRO_skip rfl rfl (fun K hK => ?_); go_simp; refine hK _ ?_; clear hK K)
                      first | (refine wpRO_free rfl rfl _ (fun w' => by go_simp; exact Gives.mk _ _) (fun K hK => ?_); go_simp; refine hK _ ?_; clear hK K) | (refine wpRO_skipF rfl rfl (fun K hK => ?_); go_simp; refine hK _ ?_; clear hK K)
                      first | (refine wpRO_free rfl rfl _ (fun w' => by go_simp; exact Gives.mk _ _) (fun K hK => ?_); go_simp; refine hK _ ?_; clear hK K) | (refine wpRO_skipF rfl rfl (fun K hK => ?_); go_simp; refine hK _ ?_; clear hK K)
                      first | (refine wpRO_free rfl rfl _ (fun w' => by go_simp; exact Gives.mk _ _) (fun K hK => ?_); go_simp; refine hK _ ?_; clear hK K) | (refine wpRO_skipF rfl rfl (fun K hK => ?_); go_simp; refine hK _ ?_; clear hK K)
                      first | (refine wpRO_free rfl rfl _ (fun w' => by go_simp; exact Gives.mk _ _) (fun K hK => ?_); go_simp; refine hK _ ?_; clear hK K) | (refine wpRO_skipF rfl rfl (fun K hK => ?_); go_simp; refine hK _ ?_; clear hK K)
                      first | (refine wpRO_free rfl rfl _ (fun w' => by go_simp; exact Gives.mk _ _) (fun K hK => ?_); go_simp; refine hK _ ?_; clear hK K) | (refine wpRO_skipF rfl rfl (fun K hK => ?_); go_simp; refine hK _ ?_; clear hK K)
                      first | (refine wpRO_free rfl rfl _ (fun w' => by go_simp; exact Gives.mk _ _) (fun K hK => ?_); go_simp; refine hK _ ?_; clear hK K) | (refine wpRO_skipF rfl rfl (fun K hK => ?_); go_simp; refine hK _ ?_; clear hK K)
                      first | (refine wpRO_free rfl rfl _ (fun w' => by go_simp; exact Gives.mk _ _) (fun K hK => ?_); go_simp; refine hK _ ?_; clear hK K) | (refine wpRO_skipF rfl rfl (fun K hK => ?_); go_simp; refine hK _ ?_; clear hK K)
                      first | (refine wpRO_free rfl rfl _ (fun w' => by go_simp; exact Gives.mk _ _) (fun K hK => ?_); go_simp; refine hK _ ?_; clear hK K) | (refine wpRO_skipF rfl rfl (fun K hK => ?_); go_simp; refine hK _ ?_; clear hK K)
                      first | (refine wpRO_free rfl rfl _ (fun w' => by go_simp; exact Gives.mk _ _) (fun K hK => ?_); go_simp; refine hK _ ?_; clear hK K) | (refine wpRO_skipF rfl rfl (fun K hK => ?_); go_simp; refine hK _ ?_; clear hK K)
                      first | (refine wpRO_free rfl rfl _ (fun w' => by go_simp; exact Gives.mk _ _) (fun K hK => ?_); go_simp; refine hK _ ?_; clear hK K) | (refine wpRO_skipF rfl rfl (fun K hK => ?_); go_simp; refine hK _ ?_; clear hK K)
                      first | (refine wpRO_free rfl rfl _ (fun w' => by go_simp; exact Gives.mk _ _) (fun K hK => ?_); go_simp; refine hK _ ?_; clear hK K) | (refine wpRO_skipF rfl rfl (fun K hK => ?_); go_simp; refine hK _ ?_; clear hK K)
                      refine wpRO_fin ?_
                      have X6 := Lib.hid (XD.out.same ((Keeps.refl (fun _ => False) _).drew))
                      go_wp2_with fail
                      refine ⟨⟨by kernel_rfl, ?rel⟩, ?measure⟩
                      case rel => exact ⟨k + 1, hlt, by go_num, hh, _, _, X6.out.D, S.out, HT.out⟩
                      case measure => exact meas_lt (by go_num) (by first | rfl | exact E14.out) hlt
                -->d3
            -->arm23
            have e0 : (d == 0) = false := by simpa using hd0
            have e1 : (d == 1) = false := by simpa using hd1
            have e2 : (d == 2) = false := by simp; omega
            have e3 : (d == 3) = false := by simp; omega
            have e4 : (d == 4) = false := by simpa using hd4
            go_wp2_with fail
            refine ⟨by kernel_rfl, ?_⟩
            exact ⟨hh, _, _, X.out, S.out, HT.out⟩
            -->arms
          · intro u2 wx hrel
            --<chk
            as_aux_lemma =>
            clear X b0 bl HOK HT S
            obtain ⟨h2, O2, ds2, hX, hS, hT⟩ := hrel
            obtain ⟨dv2, e13⟩ : ∃ v, u2 13 = v := ⟨_, rfl⟩
            have hX : DX w wx p h2 q gq gr O2 O2.ar O2.rt (u2 13) ds2 be [.int .i64 d, .int .i64 x, .int .i64 y, .int .i64 z, .int .i64 v] := hX
            rw [e13] at hX
            have e13 : u2 13 = dv2 := e13
            simp (maxSteps := 2000000) only [overA, overL, List.toList_toArray, Nat.blt, Nat.beq, Nat.ble, Nat.reduceAdd, Bool.or_false, Bool.false_or, Bool.or_true, Bool.true_or, Bool.and_true, Bool.true_and, Bool.and_false, Bool.false_and, cond_true, cond_false]
            rw [e13]
            clear e13
            obtain ⟨ao, dcap, edv, rdD, -, -⟩ := hX.D.D.rd
            subst edv
            have X := Lib.hid hX; have S := Lib.hid hS; have HT := Lib.hid hT
            clear hX hS hT rdD
            have h12 : O2.rt.length = 12 := X.out.D.M.H.ok.h12
            obtain ⟨g5, o5, cap5, hro5, how5, hgl5, c5, fz5, rc5⟩ := X.out.D.M.H.roots
            have ra5 := rc5 a (by rw [h12]; exact hal)
            rw [X.out.D.M.e, h12] at c5
            have pl : p < wx.heap.size := X.out.D.M.e ▸ X.out.D.M.H.hp.lt
            have hsl := SameLongs_yes (some ⟨g5, o5, none⟩) (some ⟨gr, 0, none⟩) cap5 12 O2.rt wx (by
              obtain ⟨_, _, e1, r1, -, -⟩ := X.out.D.M.H.hr.rd
              rw [hro5] at e1; cases e1; exact r1) (Rd.blk X.out.D.G 0 _ (by rw [List.drop_zero]; exact List.take_of_length_le (Nat.le_refl _))) (by omega)
            rw [h12] at hsl
            have HSL := Lib.hid hsl
            clear fz5 rc5 how5 hro5 hsl
            go_wp2_with fail
            refine HSL.out.mono ?_
            rintro e w5 ⟨rfl, hk5⟩
            have X5 := Lib.hid (X.out.same hk5)
            clear HSL c5 ra5 pl hgl5 hk5 X
            have pt1 := X5.out.D.M.H.ptrs.2.1
            rw [X5.out.D.M.e] at pt1
            have pl : p < w5.heap.size := X5.out.D.M.e ▸ X5.out.D.M.H.hp.lt
            have hcd : O2.cd.length ≤ 1000000 := by have := X5.out.D.M.H.ok.hc; omega
            go_wp2_with fail
            refine (Count_c h2.pc h2.cb _ O2.cd _ X5.out.D.M.H.hc hcd).mono ?_
            rintro e w6 ⟨rfl, rfl⟩
            rw [S.out.di.n]
            have hdl := S.out.le X5.out.D.M.H.ok
            obtain ⟨g5, o5, cap5, hro5, how5, hgl5, c5, fz5, rc5⟩ := X5.out.D.M.H.roots
            have ra5 := rc5 a (by rw [h12]; exact hal)
            rw [X5.out.D.M.e, h12] at c5
            have gl := X5.out.D.G.lt; have gca := X5.out.D.root (k := a) (by rw [h12]; exact hal)
            have HRq := Lib.hid (show R64 (O2.rt.getD a 0 / 4) by
              have : R64 (O2.rt.getD a 0) := X5.out.D.M.H.ok.hR _ (by rw [List.getD_eq_getElem?_getD, List.getElem?_eq_getElem (by rw [h12]; exact hal)]; exact List.getElem_mem _)
              unfold R64 at *; omega)
            generalize O2.rt.getD a 0 = va at *
            have hkd := Kind_c va X5.out.D.M.H
            rw [X5.out.D.M.e] at hkd
            have HKD := Lib.hid hkd
            clear hkd pt1 fz5 rc5 how5 hro5
            go_wp2_with fail
            refine HKD.out.mono ?_
            rintro e w6 ⟨rfl, rfl⟩
            clear HKD c5 ra5 hgl5
            by_cases hm4 : va % 4 = 1
            · have h7 : (O2.ar.thing (va / 4)).2.2 ≠ 0 → O2.ar.thing (va / 4) = (0, 0, 7) := fun h => by
                unfold Ar.thing partsW at *
                split
                · rename_i c; rw [if_pos c] at h; exact (h rfl).elim
                · rfl
              by_cases ht0 : (O2.ar.thing (va / 4)).2.2 = 0
              · rw [thingAt_yes ⟨hm4, ht0⟩]
                obtain ⟨⟨tk, tn, te⟩, hT⟩ : ∃ t, O2.ar.thing (va / 4) = t := ⟨_, rfl⟩
                rw [hT] at ht0 ⊢
                dsimp only at ht0 ⊢
                subst ht0
                have HTT := Lib.hid hT
                clear hT h7
                go_wp2_with fail
                refine (At_yes va _ hm4).mono ?_
                rintro e w7 ⟨rfl, rfl⟩
                go_wp2_with fail
                refine (RThing_c (va / 4) _ X5.out.D.R HRq.out).mono ?_
                rintro e w8 ⟨rfl, hk8⟩
                rw [HTT.out]
                have X8 := Lib.hid (X5.out.same hk8)
                clear hk8
                go_wp2_with fail
                refine ⟨⟨by kernel_rfl, ?rel⟩, ?measure⟩
                case rel => exact ⟨k + 1, hlt, by go_num, h2, _, _, X8.out.D, S.out, HT.out⟩
                case measure => exact meas_lt (by go_num) (by first | rfl | exact E14.out) hlt
              · rw [thingAt_no (fun h => ht0 h.2)]
                have HTT := Lib.hid (h7 ht0)
                clear h7 ht0
                dsimp only
                go_wp2_with fail
                refine (At_yes va _ hm4).mono ?_
                rintro e w7 ⟨rfl, rfl⟩
                go_wp2_with fail
                refine (RThing_c (va / 4) _ X5.out.D.R HRq.out).mono ?_
                rintro e w8 ⟨rfl, hk8⟩
                rw [HTT.out]
                have X8 := Lib.hid (X5.out.same hk8)
                clear hk8
                go_wp2_with fail
                refine ⟨⟨by kernel_rfl, ?rel⟩, ?measure⟩
                case rel => exact ⟨k + 1, hlt, by go_num, h2, _, _, X8.out.D, S.out, HT.out⟩
                case measure => exact meas_lt (by go_num) (by first | rfl | exact E14.out) hlt
            · rw [thingAt_no (fun h => hm4 h.1)]
              dsimp only
              go_wp2_with fail
              refine (At_no va _ hm4).mono ?_
              rintro e w7 ⟨rfl, rfl⟩
              go_wp2_with fail
              refine ⟨⟨by kernel_rfl, ?rel⟩, ?measure⟩
              case rel => exact ⟨k + 1, hlt, by go_num, h2, _, _, X5.out.D, S.out, HT.out⟩
              case measure => exact meas_lt (by go_num) (by first | rfl | exact E14.out) hlt
            -->chk
          -->steps
        · as_aux_lemma =>
          go_wp2_with fail
          go_ret
          exact ⟨rfl, D.out.M.K⟩

end Go.Proofs.Ytjifdalflepcoab
