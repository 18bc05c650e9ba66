/-
  Parts of the proof, merged: what the functions do, and plain laws.
-/
import Derived.Test.YtjifdalflepcoabMnrP5
import Derived.Test.YtjifdalflepcoabMnrP1
import Derived.Test.YtjifdalflepcoabMnrP0
namespace Go.Proofs.Ytjifdalflepcoab
open Go.RowKit
set_option linter.unusedVariables false
set_option linter.unusedSimpArgs false

/-- Both, in a statement, behind k steps; the wood is some world's. -/
def CInv (w wr : World) (p k : Nat) : Prop := ∃ h O W, BM w wr p h O W ∧ W.T.length ≤ k ∧ ∃ W1 φ, Rep O W1 φ

section
variable {w w' : World}

set_option maxHeartbeats 16000000 in
set_option maxRecDepth 100000 in
theorem MinorCards_raw (n o : Int) (lo : Option Addr) (lc m : Nat) (xs : List Int) (w : World) (h0 : Rd w lo (xs.map (Value.int .i64))) (hx : xs.length = m * 4) (hb : ∀ x ∈ xs, R64 x) :
    Calls Try.prog 12 #[.int .i64 n, .int .i64 o, .slice lo m lc] w fun e w' => e = .returned (.bool true) ∧ Keeps (fun _ => False) w w' := by
  have H0 := Lib.hid h0; have HX := Lib.hid hx; have HBD := Lib.hid hb
  clear h0 hx hb
  go_enter Try.func12, Try.ntmps12
  go_wp2_with fail
  refine (minorBegun_c _).mono ?_
  rintro e w1 ⟨rfl, hk1⟩
  have HK1 := Lib.hid hk1; clear hk1
  by_cases hm : 250 < m
  · go_wp2_with fail
    go_ret
    exact ⟨rfl, HK1.out⟩
  cases hfit : Ar.fits n o
  · have HFM := Lib.hid (show faultM n o = (1, -1) by unfold faultM; rw [hfit]; rfl)
    go_wp2_with fail
    refine (start_no n o _ hfit).mono ?_
    rintro e w2 ⟨rfl, hk2⟩
    go_wp2_with fail
    refine (RoomFault_c n o _).mono ?_
    rintro e w3 ⟨rfl, hk3⟩
    rw [HFM.out]
    have hfd : ∀ w : World, (Instr.field 26 (.agg #[.int .i64 1, .int .i64 (-1)]) 0).run Try.prog w = .ok (.int .i64 1) w := fun _ => by kernel_rfl
    go_wp2_with fail
    go_ret
    exact ⟨rfl, (HK1.out.trans hk2).trans hk3⟩
  have HFIT := Lib.hid hfit
  go_wp2_with fail
  refine (start_yes n o _ hfit).mono ?_
  rintro e w2 ⟨h, rfl, B2, k2, o2⟩
  have HM := Lib.hid (show BM w w2 h.p h (Wo.new n o) (Wd.new n o) from ⟨B2, rfl, HK1.out.trans k2, fun b hb => Nat.le_trans HK1.out.size (o2 b hb)⟩)
  clear hfit B2 k2 o2 HK1
  generalize h.p = p at *
  have HI := Lib.hid (show CInv w w2 p 0 from ⟨h, _, _, HM.out, by simp [Wd.new], _, _, Rep.new HFIT.out⟩)
  clear HM HFIT
  go_wp2_with fail
  refine wp_loop_over (fun i => Nat.blt 36 i && Nat.blt i 144 || Nat.blt 8 i && Nat.blt i 19) (fun s wr => ∃ k : Nat, k ≤ m ∧ s 9 = .int .i64 k ∧ CInv w wr p k) (fun s _ => m - (intOf (s 9)).toNat) ?_ ?_
  · exact ⟨0, Nat.zero_le _, rfl, HI.out⟩
  · intro u0 wr hrel K hK
    clear HI
    obtain ⟨k, hk, e9, hI⟩ := hrel
    have e9 : u0 9 = .int .i64 k := e9
    have HI := Lib.hid hI
    clear hI
    simp only [overA, overL, List.toList_toArray, Nat.blt, Nat.beq, Nat.ble, Nat.reduceAdd, Bool.or_false, Bool.false_or, Bool.or_true, Bool.true_or, Bool.and_true, Bool.true_and, Bool.and_false, Bool.false_and, cond_true, cond_false]
    rw [e9]
    have E9 := Lib.hid e9; clear e9
    by_cases hlt : k < m
    · obtain ⟨h1, O1, W1, M1, hT1, G1, φ1, R1⟩ := HI.out
      have hrd := H0.out.keep M1.K (fun _ _ _ h => h)
      obtain ⟨gs, os, rfl, hgl, d0⟩ := hrd.nth (k * 4) (by rw [HX.out]; omega)
      obtain ⟨_, _, e', -, d1⟩ := hrd.nth (k * 4 + 1) (by rw [HX.out]; omega)
      cases e'
      obtain ⟨_, _, e', -, d2⟩ := hrd.nth (k * 4 + 2) (by rw [HX.out]; omega)
      cases e'
      obtain ⟨_, _, e', -, d3⟩ := hrd.nth (k * 4 + 3) (by rw [HX.out]; omega)
      cases e'
      rw [← Nat.add_assoc] at d1 d2 d3
      have hy : ∀ j, j < 4 → R64 (xs.getD (k * 4 + j) 0) := fun j hj => HBD.out _ (by rw [List.getD_eq_getElem?_getD, List.getElem?_eq_getElem (by rw [HX.out]; omega)]; exact List.getElem_mem _)
      have HY1 := Lib.hid (hy 1 (by decide)); have HY2 := Lib.hid (hy 2 (by decide))
      generalize xs.getD (k * 4) 0 = d at *
      generalize xs.getD (k * 4 + 1) 0 = x at *
      generalize xs.getD (k * 4 + 2) 0 = y at *
      generalize xs.getD (k * 4 + 3) 0 = z at *
      have M := Lib.hid M1; have R := Lib.hid R1; have HT := Lib.hid hT1
      clear hrd hy HI M1 R1 hT1
      obtain ⟨c0, c1, pl⟩ := M.out.pc
      obtain ⟨b, hb⟩ : ∃ b, decide (d < 6) = b := ⟨_, rfl⟩
      go_upto_region 11 with (fail)
      refine wp_cut_over (fun i => Nat.blt 42 i && Nat.blt i 49) (fun s wx => s 48 = .bool b ∧ wx = wr) ?_ ?_
      · intro K' hK'
        go_wp2_with fail
        refine ⟨by kernel_rfl, ?_⟩
        exact ⟨rfl, rfl⟩
      intro u1 wx hR
      obtain ⟨e48, rfl⟩ := hR
      have e48 : u1 48 = .bool b := e48
      simp (maxSteps := 2000000) only [overA, overL, List.toList_toArray, Nat.blt, Nat.beq, Nat.ble, Nat.reduceAdd, Bool.or_false, Bool.false_or, Bool.or_true, Bool.true_or, Bool.and_true, Bool.true_and, Bool.and_false, Bool.false_and, cond_true, cond_false]
      rw [e48]
      clear e48
      rename_i K3 hK3
      refine hK3 _ _ ?_
      clear hK3
      refine wp_cut_over (fun i => Nat.blt 48 i && Nat.blt i 60) (fun s wx => CInv w wx p (k + 1)) ?_ ?_
      · intro K' hK'
        clear hb
        cases b
        · go_wp2_with fail
          refine (minorCut_c R.out M.out.B.H).mono ?_
          rintro e w2 ⟨rfl, ht⟩
          obtain ⟨h2, M2⟩ := M.out.wood ht
          obtain ⟨-, ψ, R2⟩ := R.out.minor
          have HI := Lib.hid (show CInv w w2 p (k + 1) from ⟨h2, _, _, M2, by have := HT.out; omega, _, ψ, R2⟩)
          clear ht M2 R2 c0 c1 pl
          go_wp2_with fail
          refine ⟨by kernel_rfl, ?_⟩
          exact HI.out
        · go_wp2_with (refine wpList_agg rfl 112 (.tmp 52) rfl [.int .i64 d, .int .i64 x, .int .i64 y, .int .i64 z] (by kernel_rfl) gs (os + k * 4) rfl (rangeAt_cons d0 (rangeAt_cons d1 (rangeAt_cons d2 (rangeAt_cons d3 rangeAt_nil)))) ?_)
          refine (M.out.do_c d x y z (by have := HT.out; omega) HY1.out HY2.out).mono ?_
          rintro e w2 ⟨rfl, ht⟩
          obtain ⟨h2, M2⟩ := M.out.to ht
          obtain ⟨-, ψ, R2⟩ := R.out.cs d x y (rootN_lt x) (rootN_lt z)
          have hl2 := wdC_len W1 d x y (rootN_lt x) (rootN_lt z)
          have HI := Lib.hid (show CInv w w2 p (k + 1) from ⟨h2, _, _, M2, by have := HT.out; omega, _, ψ, R2⟩)
          clear ht M2 R2 hl2 c0 c1 pl
          go_wp2_with fail
          refine ⟨by kernel_rfl, ?_⟩
          exact HI.out
      intro u2 wy hI
      have HI := Lib.hid hI
      simp (maxSteps := 2000000) only [overA, overL, List.toList_toArray, Nat.blt, Nat.beq, Nat.ble, Nat.reduceAdd, Bool.or_false, Bool.false_or, Bool.or_true, Bool.true_or, Bool.and_true, Bool.true_and, Bool.and_false, Bool.false_and, cond_true, cond_false]
      clear hI hb M R HT c0 c1 pl d0 d1 d2 d3 hgl
      obtain ⟨h5, O5, W5, M5', hT5, G5, φ5, R5'⟩ := HI.out
      have M5 := Lib.hid M5'; have CD := Lib.hid R5'.carded; have HOA := Lib.hid M5'.B.H.ok.ha
      have HLB := Lib.hid (show ∀ q ∈ O5.ar.things.2, 0 ≤ q ∧ q ≤ 1300 from fun q hq => by have := list_bounds O5.ar 1300 _ _ q hq; have := M5'.B.H.ok.ha.h4; have := M5'.B.H.ok.ha.h3; omega)
      have HLL := Lib.hid (show O5.ar.things.2.length ≤ 1300 from Ar.list_len O5.ar 1300 _ _)
      have HT5 := Lib.hid hT5; have HR5 : Hid (∃ W1 φ, Rep O5 W1 φ) := ⟨_, _, R5'⟩
      clear M5' R5' hT5
      obtain ⟨c0, c1, pl⟩ := M5.out.pc
      have q0 := M5.out.B.H.ptrs.1; have ql := M5.out.B.H.hp.lt
      go_wp2_with fail
      refine (Things_c _ M5.out.B.H.ha).mono ?_
      rintro e w6 ⟨ao, ac, bo, bc, rfl, -, hl, hk, -, -⟩
      have M6 := Lib.hid (M5.out.same hk); have LS := Lib.hid hl
      clear M5 hk hl c0 c1 pl q0 ql
      have hll := HLL.out
      obtain ⟨L, hL⟩ : ∃ L, O5.ar.things.2 = L := ⟨_, rfl⟩
      have HL := Lib.hid hL
      rw [hL] at LS HLB hll
      rw [hL]
      clear hL HLL
      go_wp2_with fail
      refine wp_loop_over (fun i => Nat.blt 70 i && Nat.blt i 144 || Nat.blt 11 i && Nat.blt i 19) (fun s wr2 => ∃ j : Nat, j ≤ L.length ∧ s 12 = .int .i64 j ∧ Keeps (fun _ => False) w6 wr2) (fun s _ => L.length - (intOf (s 12)).toNat) ?_ ?_
      · exact ⟨0, Nat.zero_le _, rfl, Keeps.refl _ _⟩
      intro u3 wr2 hrel K4 hK4
      obtain ⟨j, hj, e12, hkk⟩ := hrel
      have e12 : u3 12 = .int .i64 j := e12
      have K6 := Lib.hid hkk
      clear hkk
      simp only [overA, overL, List.toList_toArray, Nat.blt, Nat.beq, Nat.ble, Nat.reduceAdd, Bool.or_false, Bool.false_or, Bool.or_true, Bool.true_or, Bool.and_true, Bool.true_and, Bool.and_false, Bool.false_and, cond_true, cond_false]
      rw [e12]
      have E12 := Lib.hid e12; clear e12
      by_cases hjl : j < L.length
      · have M7 := Lib.hid (M6.out.same K6.out)
        obtain ⟨_, _, e', rd, -, -⟩ := (LS.out.keep K6.out (fun _ _ h => h)).rd
        cases e'
        obtain ⟨ge, oe, rfl, d0⟩ := rd.int j hjl
        have hgl := ((LS.out.keep K6.out (fun _ _ h => h)).own rfl).1
        have hmem : L.getD j 0 ∈ L := by rw [List.getD_eq_getElem?_getD, List.getElem?_eq_getElem hjl]; exact List.getElem_mem _
        obtain ⟨pb0, pb1⟩ := HLB.out _ hmem
        have HCD := Lib.hid (CD.out (L.getD j 0) (by rw [HL.out]; exact hmem))
        generalize hij : L.getD j 0 = i at *
        have HIJ := Lib.hid hij
        clear hij
        obtain ⟨c0, c1, pl⟩ := M7.out.pc
        have q0 := M7.out.B.H.ptrs.1; have ql := M7.out.B.H.hp.lt
        have hth := fun wz (H : ArenaAt wz h5.a.pa h5.a.g O5.ar) => Thing_c i wz H
        have htf := O5.ar.thing_fields i
        obtain ⟨⟨kd, nf, cc⟩, hT⟩ : ∃ t, O5.ar.thing i = t := ⟨_, rfl⟩
        simp only [hT] at hth
        rw [hT] at htf HCD
        dsimp only at htf HCD
        obtain ⟨nn, rfl⟩ : ∃ nn : Nat, nf = nn := ⟨nf.toNat, by omega⟩
        have HTH := Lib.hid hth
        clear rd hmem hth hT
        go_wp2_with fail
        refine wp_region_ro (.free 0 (.free 1 (.free 2 (.free 7 (.free 8 (.free 9 (.pure 3 (.free 4 (.free 5 (.pure 6 (.pure 10 (.run 11 (.swi [] (.free 12 (.free 13 (.free 14 (.free 15 (.free 16 (.free 17 (.free 18 (.fin))))))))))))))))))))) [11, 12, 13, 14, 15, 16, 17, 18] (fun w' => w'.cell? ⟨p, 0, none⟩ = some (.pointer (some ⟨h5.a.p, 0, none⟩)) ∧ w'.cell? ⟨h5.a.p, 0, none⟩ = some (.pointer (some ⟨h5.a.pa, 0, none⟩)) ∧ w'.cell? ⟨ge, oe + j, none⟩ = some (.int .i64 i)) (by kernel_rfl) (by kernel_rfl) ⟨c0, q0, d0⟩ ?_
        first | (refine wpRO_free rfl rfl _ (fun w' => by go_simp; exact Gives.mk _ _) (fun K hK => ?_); go_simp; refine hK _ ?_; clear hK K) | (refine wpRO_skipF rfl rfl (fun K hK => ?_); go_simp; refine hK _ ?_; clear hK K)
        first | (refine wpRO_free rfl rfl _ (fun w' => by go_simp; exact Gives.mk _ _) (fun K hK => ?_); go_simp; refine hK _ ?_; clear hK K) | (refine wpRO_skipF rfl rfl (fun K hK => ?_); go_simp; refine hK _ ?_; clear hK K)
        first | (refine wpRO_free rfl rfl _ (fun w' => by go_simp; exact Gives.mk _ _) (fun K hK => ?_); go_simp; refine hK _ ?_; clear hK K) | (refine wpRO_skipF rfl rfl (fun K hK => ?_); go_simp; refine hK _ ?_; clear hK K)
        first | (refine wpRO_free rfl rfl _ (fun w' => by go_simp; exact Gives.mk _ _) (fun K hK => ?_); go_simp; refine hK _ ?_; clear hK K) | (refine wpRO_skipF rfl rfl (fun K hK => ?_); go_simp; refine hK _ ?_; clear hK K)
        first | (refine wpRO_free rfl rfl _ (fun w' => by go_simp; exact Gives.mk _ _) (fun K hK => ?_); go_simp; refine hK _ ?_; clear hK K) | (refine wpRO_skipF rfl rfl (fun K hK => ?_); go_simp; refine hK _ ?_; clear hK K)
        first | (refine wpRO_free rfl rfl _ (fun w' => by go_simp; exact Gives.mk _ _) (fun K hK => ?_); go_simp; refine hK _ ?_; clear hK K) | (refine wpRO_skipF rfl rfl (fun K hK => ?_); go_simp; refine hK _ ?_; clear hK K)
        first | (refine wpRO_pure rfl rfl _ (fun w' hG => by obtain ⟨c0, q0, d0⟩ := hG; exact gives_agg2 rfl (by decide +kernel) rfl (by assumption) (by assumption)) (fun K hK => ?_); go_simp; refine hK _ ?_; clear hK K) | (refine wpRO_pure rfl rfl _ (fun w' hG => by obtain ⟨c0, q0, d0⟩ := hG; go_simp; exact Gives.mk _ _) (fun K hK => ?_); go_simp; refine hK _ ?_; clear hK K) | (refine wpRO_skip rfl rfl (fun K hK => ?_); go_simp; refine hK _ ?_; clear hK K)
        first | (refine wpRO_free rfl rfl _ (fun w' => by go_simp; exact Gives.mk _ _) (fun K hK => ?_); go_simp; refine hK _ ?_; clear hK K) | (refine wpRO_skipF rfl rfl (fun K hK => ?_); go_simp; refine hK _ ?_; clear hK K)
        first | (refine wpRO_free rfl rfl _ (fun w' => by go_simp; exact Gives.mk _ _) (fun K hK => ?_); go_simp; refine hK _ ?_; clear hK K) | (refine wpRO_skipF rfl rfl (fun K hK => ?_); go_simp; refine hK _ ?_; clear hK K)
        first | (refine wpRO_pure rfl rfl _ (fun w' hG => by obtain ⟨c0, q0, d0⟩ := hG; exact gives_agg2 rfl (by decide +kernel) rfl (by assumption) (by assumption)) (fun K hK => ?_); go_simp; refine hK _ ?_; clear hK K) | (refine wpRO_pure rfl rfl _ (fun w' hG => by obtain ⟨c0, q0, d0⟩ := hG; go_simp; exact Gives.mk _ _) (fun K hK => ?_); go_simp; refine hK _ ?_; clear hK K) | (refine wpRO_skip rfl rfl (fun K hK => ?_); go_simp; refine hK _ ?_; clear hK K)
        first | (refine wpRO_pure rfl rfl _ (fun w' hG => by obtain ⟨c0, q0, d0⟩ := hG; exact gives_agg2 rfl (by decide +kernel) rfl (by assumption) (by assumption)) (fun K hK => ?_); go_simp; refine hK _ ?_; clear hK K) | (refine wpRO_pure rfl rfl _ (fun w' hG => by obtain ⟨c0, q0, d0⟩ := hG; go_simp; exact Gives.mk _ _) (fun K hK => ?_); go_simp; refine hK _ ?_; clear hK K) | (refine wpRO_skip rfl rfl (fun K hK => ?_); go_simp; refine hK _ ?_; clear hK K)
        refine wpRO_chg rfl rfl rfl (fun K hK => ?_); unfold gRun; go_simp
        refine (HTH.out _ (M7.out.same ((Keeps.refl (fun _ => False) wr2).drew)).B.H.ha).mono ?_
        rintro e w8 ⟨rfl, rfl⟩
        refine hK _ _ ?_
        clear hK K
        refine wpRO_swi (fun _ => True) trivial ?_
        first | (refine wpRO_free rfl rfl _ (fun w' => by go_simp; exact Gives.mk _ _) (fun K hK => ?_); go_simp; refine hK _ ?_; clear hK K) | (refine wpRO_skipF rfl rfl (fun K hK => ?_); go_simp; refine hK _ ?_; clear hK K)
        first | (refine wpRO_free rfl rfl _ (fun w' => by go_simp; exact Gives.mk _ _) (fun K hK => ?_); go_simp; refine hK _ ?_; clear hK K) | (refine wpRO_skipF rfl rfl (fun K hK => ?_); go_simp; refine hK _ ?_; clear hK K)
        first | (refine wpRO_free rfl rfl _ (fun w' => by go_simp; exact Gives.mk _ _) (fun K hK => ?_); go_simp; refine hK _ ?_; clear hK K) | (refine wpRO_skipF rfl rfl (fun K hK => ?_); go_simp; refine hK _ ?_; clear hK K)
        first | (refine wpRO_free rfl rfl _ (fun w' => by go_simp; exact Gives.mk _ _) (fun K hK => ?_); go_simp; refine hK _ ?_; clear hK K) | (refine wpRO_skipF rfl rfl (fun K hK => ?_); go_simp; refine hK _ ?_; clear hK K)
        first | (refine wpRO_free rfl rfl _ (fun w' => by go_simp; exact Gives.mk _ _) (fun K hK => ?_); go_simp; refine hK _ ?_; clear hK K) | (refine wpRO_skipF rfl rfl (fun K hK => ?_); go_simp; refine hK _ ?_; clear hK K)
        first | (refine wpRO_free rfl rfl _ (fun w' => by go_simp; exact Gives.mk _ _) (fun K hK => ?_); go_simp; refine hK _ ?_; clear hK K) | (refine wpRO_skipF rfl rfl (fun K hK => ?_); go_simp; refine hK _ ?_; clear hK K)
        first | (refine wpRO_free rfl rfl _ (fun w' => by go_simp; exact Gives.mk _ _) (fun K hK => ?_); go_simp; refine hK _ ?_; clear hK K) | (refine wpRO_skipF rfl rfl (fun K hK => ?_); go_simp; refine hK _ ?_; clear hK K)
        refine wpRO_fin ?_
        have K8 := Lib.hid (K6.out.drew)
        have LS8 := Lib.hid (show Rd w6 (some ⟨ge, oe, none⟩) (L.map (Value.int .i64)) from by obtain ⟨_, _, e', rd, -, -⟩ := LS.out.rd; cases e'; exact rd)
        clear c0 c1 pl q0 ql d0 hgl M7
        generalize wr2.drew = w8 at *
        go_wp2_with fail
        refine wp_loop_over (fun i => Nat.blt 92 i && Nat.blt i 144 || Nat.blt 15 i && Nat.blt i 19) (fun s wr3 => ∃ q : Nat, q ≤ nn ∧ s 16 = .int .i64 q ∧ Keeps (fun _ => False) w6 wr3) (fun s _ => nn - (intOf (s 16)).toNat) ?_ ?_
        · exact ⟨0, Nat.zero_le _, rfl, K8.out⟩
        clear K8
        intro u4 wr3 hrel K5 hK5
        obtain ⟨q, hq, e16, hkk⟩ := hrel
        have e16 : u4 16 = .int .i64 q := e16
        have K9 := Lib.hid hkk
        clear hkk
        simp only [overA, overL, List.toList_toArray, Nat.blt, Nat.beq, Nat.ble, Nat.reduceAdd, Bool.or_false, Bool.false_or, Bool.or_true, Bool.true_or, Bool.and_true, Bool.true_and, Bool.and_false, Bool.false_and, cond_true, cond_false]
        rw [e16]
        have E16 := Lib.hid e16; clear e16
        by_cases hqn : q < nn
        · have M9 := Lib.hid (M6.out.same K9.out)
          obtain ⟨_, _, e', rd, -, -⟩ := (LS.out.keep K9.out (fun _ _ h => h)).rd
          cases e'
          obtain ⟨_, _, e', d0⟩ := rd.int j hjl
          cases e'
          have hgl := ((LS.out.keep K9.out (fun _ _ h => h)).own rfl).1
          have hij : L.getD j 0 = i := HIJ.out
          rw [hij] at d0
          obtain ⟨c0, c1, pl⟩ := M9.out.pc
          obtain ⟨q0, q1, -, -⟩ := M9.out.B.H.ptrs
          have ql := M9.out.B.H.hp.lt
          have hx := HCD.out (q : Int) (by omega) (by omega)
          have hxr := HOA.out.load (i + 1 + (q : Int))
          have hld := fun wz (H : ArenaAt wz h5.a.pa h5.a.g O5.ar) => Load_c (i + 1 + (q : Int)) wz H
          generalize O5.ar.load (i + 1 + (q : Int)) = x at *
          have HX1 := Lib.hid hx; have HLD := Lib.hid hld; have HXR := Lib.hid hxr
          have hw1 : IntKind.i64.wrap (i + 1) = i + 1 := IntWalk.i64_in _ (by omega)
          have hw2 : IntKind.i64.wrap (i + 1 + (q : Int)) = i + 1 + q := IntWalk.i64_in _ (by omega)
          clear rd hij hx hld hxr
          go_wp2_with fail
          refine wp_region_ro (.free 0 (.free 1 (.free 2 (.free 7 (.free 8 (.free 9 (.free 12 (.pure 3 (.free 4 (.free 5 (.pure 6 (.pure 10 (.free 11 (.free 13 (.run 14 (.swi [15, 16, 17, 18, 19, 20] (.run 15 (.swi [] (.free 16 (.free 17 (.free 18 (.free 19 (.free 20 (.fin)))))))))))))))))))))))) [14, 15, 16, 17, 18, 19, 20] (fun w' => w'.cell? ⟨p, 0, none⟩ = some (.pointer (some ⟨h5.a.p, 0, none⟩)) ∧ w'.cell? ⟨h5.a.p, 0, none⟩ = some (.pointer (some ⟨h5.a.pa, 0, none⟩)) ∧ w'.cell? ⟨ge, oe + j, none⟩ = some (.int .i64 i)) (by kernel_rfl) (by kernel_rfl) ⟨c0, q0, d0⟩ ?_
          first | (refine wpRO_free rfl rfl _ (fun w' => by go_simp; exact Gives.mk _ _) (fun K hK => ?_); go_simp; refine hK _ ?_; clear hK K) | (refine wpRO_skipF rfl rfl (fun K hK => ?_); go_simp; refine hK _ ?_; clear hK K)
          first | (refine wpRO_free rfl rfl _ (fun w' => by go_simp; exact Gives.mk _ _) (fun K hK => ?_); go_simp; refine hK _ ?_; clear hK K) | (refine wpRO_skipF rfl rfl (fun K hK => ?_); go_simp; refine hK _ ?_; clear hK K)
          first | (refine wpRO_free rfl rfl _ (fun w' => by go_simp; exact Gives.mk _ _) (fun K hK => ?_); go_simp; refine hK _ ?_; clear hK K) | (refine wpRO_skipF rfl rfl (fun K hK => ?_); go_simp; refine hK _ ?_; clear hK K)
          first | (refine wpRO_free rfl rfl _ (fun w' => by go_simp; exact Gives.mk _ _) (fun K hK => ?_); go_simp; refine hK _ ?_; clear hK K) | (refine wpRO_skipF rfl rfl (fun K hK => ?_); go_simp; refine hK _ ?_; clear hK K)
          first | (refine wpRO_free rfl rfl _ (fun w' => by go_simp; exact Gives.mk _ _) (fun K hK => ?_); go_simp; refine hK _ ?_; clear hK K) | (refine wpRO_skipF rfl rfl (fun K hK => ?_); go_simp; refine hK _ ?_; clear hK K)
          first | (refine wpRO_free rfl rfl _ (fun w' => by go_simp; exact Gives.mk _ _) (fun K hK => ?_); go_simp; refine hK _ ?_; clear hK K) | (refine wpRO_skipF rfl rfl (fun K hK => ?_); go_simp; refine hK _ ?_; clear hK K)
          first | (refine wpRO_free rfl rfl _ (fun w' => by go_simp; exact Gives.mk _ _) (fun K hK => ?_); go_simp; refine hK _ ?_; clear hK K) | (refine wpRO_skipF rfl rfl (fun K hK => ?_); go_simp; refine hK _ ?_; clear hK K)
          first | (refine wpRO_pure rfl rfl _ (fun w' hG => by obtain ⟨c0, q0, d0⟩ := hG; exact gives_agg2 rfl (by decide +kernel) rfl (by assumption) (by assumption)) (fun K hK => ?_); go_simp; refine hK _ ?_; clear hK K) | (refine wpRO_pure rfl rfl _ (fun w' hG => by obtain ⟨c0, q0, d0⟩ := hG; go_simp; exact Gives.mk _ _) (fun K hK => ?_); go_simp; refine hK _ ?_; clear hK K) | (refine wpRO_skip rfl rfl (fun K hK => ?_); go_simp; refine hK _ ?_; clear hK K)
          first | (refine wpRO_free rfl rfl _ (fun w' => by go_simp; exact Gives.mk _ _) (fun K hK => ?_); go_simp; refine hK _ ?_; clear hK K) | (refine wpRO_skipF rfl rfl (fun K hK => ?_); go_simp; refine hK _ ?_; clear hK K)
          first | (refine wpRO_free rfl rfl _ (fun w' => by go_simp; exact Gives.mk _ _) (fun K hK => ?_); go_simp; refine hK _ ?_; clear hK K) | (refine wpRO_skipF rfl rfl (fun K hK => ?_); go_simp; refine hK _ ?_; clear hK K)
          first | (refine wpRO_pure rfl rfl _ (fun w' hG => by obtain ⟨c0, q0, d0⟩ := hG; exact gives_agg2 rfl (by decide +kernel) rfl (by assumption) (by assumption)) (fun K hK => ?_); go_simp; refine hK _ ?_; clear hK K) | (refine wpRO_pure rfl rfl _ (fun w' hG => by obtain ⟨c0, q0, d0⟩ := hG; go_simp; exact Gives.mk _ _) (fun K hK => ?_); go_simp; refine hK _ ?_; clear hK K) | (refine wpRO_skip rfl rfl (fun K hK => ?_); go_simp; refine hK _ ?_; clear hK K)
          first | (refine wpRO_pure rfl rfl _ (fun w' hG => by obtain ⟨c0, q0, d0⟩ := hG; exact gives_agg2 rfl (by decide +kernel) rfl (by assumption) (by assumption)) (fun K hK => ?_); go_simp; refine hK _ ?_; clear hK K) | (refine wpRO_pure rfl rfl _ (fun w' hG => by obtain ⟨c0, q0, d0⟩ := hG; go_simp; exact Gives.mk _ _) (fun K hK => ?_); go_simp; refine hK _ ?_; clear hK K) | (refine wpRO_skip rfl rfl (fun K hK => ?_); go_simp; refine hK _ ?_; clear hK K)
          first | (refine wpRO_free rfl rfl _ (fun w' => by go_simp; exact Gives.mk _ _) (fun K hK => ?_); go_simp; refine hK _ ?_; clear hK K) | (refine wpRO_skipF rfl rfl (fun K hK => ?_); go_simp; refine hK _ ?_; clear hK K)
          first | (refine wpRO_free rfl rfl _ (fun w' => by go_simp; exact Gives.mk _ _) (fun K hK => ?_); go_simp; refine hK _ ?_; clear hK K) | (refine wpRO_skipF rfl rfl (fun K hK => ?_); go_simp; refine hK _ ?_; clear hK K)
          refine wpRO_chg rfl rfl rfl (fun K hK => ?_); unfold gRun; go_simp
          refine (HLD.out _ (M9.out.same ((Keeps.refl (fun _ => False) wr3).drew)).B.H.ha).mono ?_
          rintro e w8 ⟨rfl, rfl⟩
          refine hK _ _ ?_
          clear hK K
          refine wpRO_swi (fun _ => True) trivial ?_
          refine wpRO_chg rfl rfl rfl (fun K hK => ?_); unfold gRun; go_simp
          refine (At_any x _).mono ?_
          rintro e w8 ⟨rfl, rfl⟩
          refine hK _ _ ?_
          clear hK K
          refine wpRO_swi (fun _ => True) trivial ?_
          first | (refine wpRO_free rfl rfl _ (fun w' => by go_simp; exact Gives.mk _ _) (fun K hK => ?_); go_simp; refine hK _ ?_; clear hK K) | (refine wpRO_skipF rfl rfl (fun K hK => ?_); go_simp; refine hK _ ?_; clear hK K)
          first | (refine wpRO_free rfl rfl _ (fun w' => by go_simp; exact Gives.mk _ _) (fun K hK => ?_); go_simp; refine hK _ ?_; clear hK K) | (refine wpRO_skipF rfl rfl (fun K hK => ?_); go_simp; refine hK _ ?_; clear hK K)
          first | (refine wpRO_free rfl rfl _ (fun w' => by go_simp; exact Gives.mk _ _) (fun K hK => ?_); go_simp; refine hK _ ?_; clear hK K) | (refine wpRO_skipF rfl rfl (fun K hK => ?_); go_simp; refine hK _ ?_; clear hK K)
          first | (refine wpRO_free rfl rfl _ (fun w' => by go_simp; exact Gives.mk _ _) (fun K hK => ?_); go_simp; refine hK _ ?_; clear hK K) | (refine wpRO_skipF rfl rfl (fun K hK => ?_); go_simp; refine hK _ ?_; clear hK K)
          first | (refine wpRO_free rfl rfl _ (fun w' => by go_simp; exact Gives.mk _ _) (fun K hK => ?_); go_simp; refine hK _ ?_; clear hK K) | (refine wpRO_skipF rfl rfl (fun K hK => ?_); go_simp; refine hK _ ?_; clear hK K)
          refine wpRO_fin ?_
          clear hw1 hw2
          have M10 := Lib.hid (M9.out.same ((Keeps.refl (fun _ => False) wr3).drew))
          have K10 := Lib.hid (K9.out.drew)
          have c0 : wr3.drew.cell? ⟨p, 0, none⟩ = some (.pointer (some ⟨h5.a.p, 0, none⟩)) := c0
          have q0 : wr3.drew.cell? ⟨h5.a.p, 0, none⟩ = some (.pointer (some ⟨h5.a.pa, 0, none⟩)) := q0
          have q1 : wr3.drew.cell? ⟨h5.a.p, 1, none⟩ = some (.pointer (some ⟨h5.a.pc, 0, none⟩)) := q1
          have d0 : wr3.drew.cell? ⟨ge, oe + j, none⟩ = some (.int .i64 i) := d0
          have pl : p < wr3.drew.heap.size := pl
          have ql : h5.a.p < wr3.drew.heap.size := ql
          have hgl : ge < wr3.drew.heap.size := hgl
          clear M9 K9
          generalize wr3.drew = w10 at *
          by_cases hx4 : x % 4 = 1
          · have hxe : (if x % 4 = 1 then x / 4 else 0) = x / 4 := if_pos hx4
            have hxd : decide (x % 4 = 1) = true := by simpa using hx4
            rw [hxe, hxd]
            have HYD := Lib.hid (fun h => HX1.out hx4 h)
            clear hxe hxd hx4
            obtain ⟨yb, hyb⟩ : ∃ yb, O5.ar.young (x / 4) = yb := ⟨_, rfl⟩
            have hyc := Young_c (x / 4) _ (M10.out.same ((Keeps.refl (fun _ => False) w10).drew)).B.H.ha
            rw [hyb] at hyc HYD
            have HYC := Lib.hid hyc
            clear hyc hyb
            cases yb
            · go_wp2_with fail
              refine wp_region_ro (.free 0 (.free 1 (.free 2 (.free 3 (.free 4 (.free 9 (.pure 5 (.free 6 (.free 7 (.pure 8 (.run 10 (.swi [24, 25, 26] (.free 11 (.free 12 (.free 13 (.free 14 (.free 15 (.free 20 (.free 21 (.free 22 (.pure 16 (.free 17 (.free 18 (.pure 19 (.pure 23 (.run 24 (.swi [] (.free 25 (.free 26 (.fin)))))))))))))))))))))))))))))) [10, 11, 12, 13, 14, 15, 16, 17, 18, 19, 20, 21, 22, 23, 24, 25, 26] (fun w' => w'.cell? ⟨p, 0, none⟩ = some (.pointer (some ⟨h5.a.p, 0, none⟩)) ∧ w'.cell? ⟨h5.a.p, 0, none⟩ = some (.pointer (some ⟨h5.a.pa, 0, none⟩))) (by kernel_rfl) (by kernel_rfl) ⟨c0, q0⟩ ?_
              first | (refine wpRO_free rfl rfl _ (fun w' => by go_simp; exact Gives.mk _ _) (fun K hK => ?_); go_simp; refine hK _ ?_; clear hK K) | (refine wpRO_skipF rfl rfl (fun K hK => ?_); go_simp; refine hK _ ?_; clear hK K)
              first | (refine wpRO_free rfl rfl _ (fun w' => by go_simp; exact Gives.mk _ _) (fun K hK => ?_); go_simp; refine hK _ ?_; clear hK K) | (refine wpRO_skipF rfl rfl (fun K hK => ?_); go_simp; refine hK _ ?_; clear hK K)
              first | (refine wpRO_free rfl rfl _ (fun w' => by go_simp; exact Gives.mk _ _) (fun K hK => ?_); go_simp; refine hK _ ?_; clear hK K) | (refine wpRO_skipF rfl rfl (fun K hK => ?_); go_simp; refine hK _ ?_; clear hK K)
              first | (refine wpRO_free rfl rfl _ (fun w' => by go_simp; exact Gives.mk _ _) (fun K hK => ?_); go_simp; refine hK _ ?_; clear hK K) | (refine wpRO_skipF rfl rfl (fun K hK => ?_); go_simp; refine hK _ ?_; clear hK K)
              first | (refine wpRO_free rfl rfl _ (fun w' => by go_simp; exact Gives.mk _ _) (fun K hK => ?_); go_simp; refine hK _ ?_; clear hK K) | (refine wpRO_skipF rfl rfl (fun K hK => ?_); go_simp; refine hK _ ?_; clear hK K)
              first | (refine wpRO_free rfl rfl _ (fun w' => by go_simp; exact Gives.mk _ _) (fun K hK => ?_); go_simp; refine hK _ ?_; clear hK K) | (refine wpRO_skipF rfl rfl (fun K hK => ?_); go_simp; refine hK _ ?_; clear hK K)
              first | (refine wpRO_pure rfl rfl _ (fun w' hG => by obtain ⟨c0, q0⟩ := hG; exact gives_agg2 rfl (by decide +kernel) rfl (by assumption) (by assumption)) (fun K hK => ?_); go_simp; refine hK _ ?_; clear hK K) | (refine wpRO_pure rfl rfl _ (fun w' hG => by obtain ⟨c0, q0⟩ := hG; go_simp; exact Gives.mk _ _) (fun K hK => ?_); go_simp; refine hK _ ?_; clear hK K) | (refine wpRO_skip rfl rfl (fun K hK => ?_); go_simp; refine hK _ ?_; clear hK K)
              first | (refine wpRO_free rfl rfl _ (fun w' => by go_simp; exact Gives.mk _ _) (fun K hK => ?_); go_simp; refine hK _ ?_; clear hK K) | (refine wpRO_skipF rfl rfl (fun K hK => ?_); go_simp; refine hK _ ?_; clear hK K)
              first | (refine wpRO_free rfl rfl _ (fun w' => by go_simp; exact Gives.mk _ _) (fun K hK => ?_); go_simp; refine hK _ ?_; clear hK K) | (refine wpRO_skipF rfl rfl (fun K hK => ?_); go_simp; refine hK _ ?_; clear hK K)
              first | (refine wpRO_pure rfl rfl _ (fun w' hG => by obtain ⟨c0, q0⟩ := hG; exact gives_agg2 rfl (by decide +kernel) rfl (by assumption) (by assumption)) (fun K hK => ?_); go_simp; refine hK _ ?_; clear hK K) | (refine wpRO_pure rfl rfl _ (fun w' hG => by obtain ⟨c0, q0⟩ := hG; go_simp; exact Gives.mk _ _) (fun K hK => ?_); go_simp; refine hK _ ?_; clear hK K) | (refine wpRO_skip rfl rfl (fun K hK => ?_); go_simp; refine hK _ ?_; clear hK K)
              refine wpRO_chg rfl rfl rfl (fun K hK => ?_); unfold gRun; go_simp
              refine HYC.out.mono ?_
              rintro e w8 ⟨rfl, rfl⟩
              refine hK _ _ ?_
              clear hK K
              refine wpRO_swi (fun _ => True) trivial ?_
              first | (refine wpRO_free rfl rfl _ (fun w' => by go_simp; exact Gives.mk _ _) (fun K hK => ?_); go_simp; refine hK _ ?_; clear hK K) | (refine wpRO_skipF rfl rfl (fun K hK => ?_); go_simp; refine hK _ ?_; clear hK K)
              first | (refine wpRO_free rfl rfl _ (fun w' => by go_simp; exact Gives.mk _ _) (fun K hK => ?_); go_simp; refine hK _ ?_; clear hK K) | (refine wpRO_skipF rfl rfl (fun K hK => ?_); go_simp; refine hK _ ?_; clear hK K)
              first | (refine wpRO_free rfl rfl _ (fun w' => by go_simp; exact Gives.mk _ _) (fun K hK => ?_); go_simp; refine hK _ ?_; clear hK K) | (refine wpRO_skipF rfl rfl (fun K hK => ?_); go_simp; refine hK _ ?_; clear hK K)
              first | (refine wpRO_free rfl rfl _ (fun w' => by go_simp; exact Gives.mk _ _) (fun K hK => ?_); go_simp; refine hK _ ?_; clear hK K) | (refine wpRO_skipF rfl rfl (fun K hK => ?_); go_simp; refine hK _ ?_; clear hK K)
              first | (refine wpRO_free rfl rfl _ (fun w' => by go_simp; exact Gives.mk _ _) (fun K hK => ?_); go_simp; refine hK _ ?_; clear hK K) | (refine wpRO_skipF rfl rfl (fun K hK => ?_); go_simp; refine hK _ ?_; clear hK K)
              first | (refine wpRO_free rfl rfl _ (fun w' => by go_simp; exact Gives.mk _ _) (fun K hK => ?_); go_simp; refine hK _ ?_; clear hK K) | (refine wpRO_skipF rfl rfl (fun K hK => ?_); go_simp; refine hK _ ?_; clear hK K)
              first | (refine wpRO_free rfl rfl _ (fun w' => by go_simp; exact Gives.mk _ _) (fun K hK => ?_); go_simp; refine hK _ ?_; clear hK K) | (refine wpRO_skipF rfl rfl (fun K hK => ?_); go_simp; refine hK _ ?_; clear hK K)
              first | (refine wpRO_free rfl rfl _ (fun w' => by go_simp; exact Gives.mk _ _) (fun K hK => ?_); go_simp; refine hK _ ?_; clear hK K) | (refine wpRO_skipF rfl rfl (fun K hK => ?_); go_simp; refine hK _ ?_; clear hK K)
              first | (refine wpRO_pure rfl rfl _ (fun w' hG => by obtain _ := hG; exact gives_agg2 rfl (by decide +kernel) rfl (by assumption) (by assumption)) (fun K hK => ?_); go_simp; refine hK _ ?_; clear hK K) | (refine wpRO_pure rfl rfl _ (fun w' hG => by obtain _ := hG; go_simp; exact Gives.mk _ _) (fun K hK => ?_); go_simp; refine hK _ ?_; clear hK K) | (refine wpRO_skip rfl rfl (fun K hK => ?_); go_simp; refine hK _ ?_; clear hK K)
              first | (refine wpRO_free rfl rfl _ (fun w' => by go_simp; exact Gives.mk _ _) (fun K hK => ?_); go_simp; refine hK _ ?_; clear hK K) | (refine wpRO_skipF rfl rfl (fun K hK => ?_); go_simp; refine hK _ ?_; clear hK K)
              first | (refine wpRO_free rfl rfl _ (fun w' => by go_simp; exact Gives.mk _ _) (fun K hK => ?_); go_simp; refine hK _ ?_; clear hK K) | (refine wpRO_skipF rfl rfl (fun K hK => ?_); go_simp; refine hK _ ?_; clear hK K)
              first | (refine wpRO_pure rfl rfl _ (fun w' hG => by obtain _ := hG; exact gives_agg2 rfl (by decide +kernel) rfl (by assumption) (by assumption)) (fun K hK => ?_); go_simp; refine hK _ ?_; clear hK K) | (refine wpRO_pure rfl rfl _ (fun w' hG => by obtain _ := hG; go_simp; exact Gives.mk _ _) (fun K hK => ?_); go_simp; refine hK _ ?_; clear hK K) | (refine wpRO_skip rfl rfl (fun K hK => ?_); go_simp; refine hK _ ?_; clear hK K)
              first | (refine wpRO_pure rfl rfl _ (fun w' hG => by obtain _ := hG; exact gives_agg2 rfl (by decide +kernel) rfl (by assumption) (by assumption)) (fun K hK => ?_); go_simp; refine hK _ ?_; clear hK K) | (refine wpRO_pure rfl rfl _ (fun w' hG => by obtain _ := hG; go_simp; exact Gives.mk _ _) (fun K hK => ?_); go_simp; refine hK _ ?_; clear hK K) | (refine wpRO_skip rfl rfl (fun K hK => ?_); go_simp; refine hK _ ?_; clear hK K)
              refine wpRO_skipR rfl rfl (fun K hK => ?_)
              go_simp
              refine hK _ ?_
              clear hK K
              refine wpRO_swi (fun _ => True) trivial ?_
              first | (refine wpRO_free rfl rfl _ (fun w' => by go_simp; exact Gives.mk _ _) (fun K hK => ?_); go_simp; refine hK _ ?_; clear hK K) | (refine wpRO_skipF rfl rfl (fun K hK => ?_); go_simp; refine hK _ ?_; clear hK K)
              first | (refine wpRO_free rfl rfl _ (fun w' => by go_simp; exact Gives.mk _ _) (fun K hK => ?_); go_simp; refine hK _ ?_; clear hK K) | (refine wpRO_skipF rfl rfl (fun K hK => ?_); go_simp; refine hK _ ?_; clear hK K)
              refine wpRO_fin ?_
              clear c0 c1 q0 q1 d0 pl ql hgl
              go_wp2_with fail
              refine ⟨⟨by kernel_rfl, ?rel⟩, ?measure⟩
              case rel => exact ⟨q + 1, hqn, by go_num, K10.out.drew⟩
              case measure => exact meas_lt (by go_num) (by first | rfl | exact E16.out) hqn
            · have hdy := Dirty_c h5.a.pc h5.a.cb O5.ar.nur i O5.cd _ (M10.out.same ((Keeps.refl (fun _ => False) w10).drew)).B.H.hc (by omega) (by have := HOA.out.h2; have := HOA.out.h3; have := HOA.out.h4; omega) (by omega) (by omega) (by have := M10.out.B.H.ok.hc; omega)
              rw [HYD.out rfl] at hdy
              have HDY := Lib.hid hdy
              clear hdy
              go_wp2_with fail
              refine wp_region_ro (.free 0 (.free 1 (.free 2 (.free 3 (.free 4 (.free 9 (.pure 5 (.free 6 (.free 7 (.pure 8 (.run 10 (.swi [24, 25, 26] (.free 11 (.free 12 (.free 13 (.free 14 (.free 15 (.free 20 (.free 21 (.free 22 (.pure 16 (.free 17 (.free 18 (.pure 19 (.pure 23 (.run 24 (.swi [] (.free 25 (.free 26 (.fin)))))))))))))))))))))))))))))) [10, 11, 12, 13, 14, 15, 16, 17, 18, 19, 20, 21, 22, 23, 24, 25, 26] (fun w' => w'.cell? ⟨p, 0, none⟩ = some (.pointer (some ⟨h5.a.p, 0, none⟩)) ∧ w'.cell? ⟨h5.a.p, 0, none⟩ = some (.pointer (some ⟨h5.a.pa, 0, none⟩))) (by kernel_rfl) (by kernel_rfl) ⟨c0, q0⟩ ?_
              first | (refine wpRO_free rfl rfl _ (fun w' => by go_simp; exact Gives.mk _ _) (fun K hK => ?_); go_simp; refine hK _ ?_; clear hK K) | (refine wpRO_skipF rfl rfl (fun K hK => ?_); go_simp; refine hK _ ?_; clear hK K)
              first | (refine wpRO_free rfl rfl _ (fun w' => by go_simp; exact Gives.mk _ _) (fun K hK => ?_); go_simp; refine hK _ ?_; clear hK K) | (refine wpRO_skipF rfl rfl (fun K hK => ?_); go_simp; refine hK _ ?_; clear hK K)
              first | (refine wpRO_free rfl rfl _ (fun w' => by go_simp; exact Gives.mk _ _) (fun K hK => ?_); go_simp; refine hK _ ?_; clear hK K) | (refine wpRO_skipF rfl rfl (fun K hK => ?_); go_simp; refine hK _ ?_; clear hK K)
              first | (refine wpRO_free rfl rfl _ (fun w' => by go_simp; exact Gives.mk _ _) (fun K hK => ?_); go_simp; refine hK _ ?_; clear hK K) | (refine wpRO_skipF rfl rfl (fun K hK => ?_); go_simp; refine hK _ ?_; clear hK K)
              first | (refine wpRO_free rfl rfl _ (fun w' => by go_simp; exact Gives.mk _ _) (fun K hK => ?_); go_simp; refine hK _ ?_; clear hK K) | (refine wpRO_skipF rfl rfl (fun K hK => ?_); go_simp; refine hK _ ?_; clear hK K)
              first | (refine wpRO_free rfl rfl _ (fun w' => by go_simp; exact Gives.mk _ _) (fun K hK => ?_); go_simp; refine hK _ ?_; clear hK K) | (refine wpRO_skipF rfl rfl (fun K hK => ?_); go_simp; refine hK _ ?_; clear hK K)
              first | (refine wpRO_pure rfl rfl _ (fun w' hG => by obtain ⟨c0, q0⟩ := hG; exact gives_agg2 rfl (by decide +kernel) rfl (by assumption) (by assumption)) (fun K hK => ?_); go_simp; refine hK _ ?_; clear hK K) | (refine wpRO_pure rfl rfl _ (fun w' hG => by obtain ⟨c0, q0⟩ := hG; go_simp; exact Gives.mk _ _) (fun K hK => ?_); go_simp; refine hK _ ?_; clear hK K) | (refine wpRO_skip rfl rfl (fun K hK => ?_); go_simp; refine hK _ ?_; clear hK K)
              first | (refine wpRO_free rfl rfl _ (fun w' => by go_simp; exact Gives.mk _ _) (fun K hK => ?_); go_simp; refine hK _ ?_; clear hK K) | (refine wpRO_skipF rfl rfl (fun K hK => ?_); go_simp; refine hK _ ?_; clear hK K)
              first | (refine wpRO_free rfl rfl _ (fun w' => by go_simp; exact Gives.mk _ _) (fun K hK => ?_); go_simp; refine hK _ ?_; clear hK K) | (refine wpRO_skipF rfl rfl (fun K hK => ?_); go_simp; refine hK _ ?_; clear hK K)
              first | (refine wpRO_pure rfl rfl _ (fun w' hG => by obtain ⟨c0, q0⟩ := hG; exact gives_agg2 rfl (by decide +kernel) rfl (by assumption) (by assumption)) (fun K hK => ?_); go_simp; refine hK _ ?_; clear hK K) | (refine wpRO_pure rfl rfl _ (fun w' hG => by obtain ⟨c0, q0⟩ := hG; go_simp; exact Gives.mk _ _) (fun K hK => ?_); go_simp; refine hK _ ?_; clear hK K) | (refine wpRO_skip rfl rfl (fun K hK => ?_); go_simp; refine hK _ ?_; clear hK K)
              refine wpRO_chg rfl rfl rfl (fun K hK => ?_); unfold gRun; go_simp
              refine HYC.out.mono ?_
              rintro e w8 ⟨rfl, rfl⟩
              refine hK _ _ ?_
              clear hK K
              refine wpRO_swi (fun w' => w'.cell? ⟨p, 0, none⟩ = some (.pointer (some ⟨h5.a.p, 0, none⟩)) ∧ w'.cell? ⟨h5.a.p, 1, none⟩ = some (.pointer (some ⟨h5.a.pc, 0, none⟩)) ∧ w'.cell? ⟨ge, oe + j, none⟩ = some (.int .i64 i)) ⟨c0, q1, d0⟩ ?_
              first | (refine wpRO_free rfl rfl _ (fun w' => by go_simp; exact Gives.mk _ _) (fun K hK => ?_); go_simp; refine hK _ ?_; clear hK K) | (refine wpRO_skipF rfl rfl (fun K hK => ?_); go_simp; refine hK _ ?_; clear hK K)
              first | (refine wpRO_free rfl rfl _ (fun w' => by go_simp; exact Gives.mk _ _) (fun K hK => ?_); go_simp; refine hK _ ?_; clear hK K) | (refine wpRO_skipF rfl rfl (fun K hK => ?_); go_simp; refine hK _ ?_; clear hK K)
              first | (refine wpRO_free rfl rfl _ (fun w' => by go_simp; exact Gives.mk _ _) (fun K hK => ?_); go_simp; refine hK _ ?_; clear hK K) | (refine wpRO_skipF rfl rfl (fun K hK => ?_); go_simp; refine hK _ ?_; clear hK K)
              first | (refine wpRO_free rfl rfl _ (fun w' => by go_simp; exact Gives.mk _ _) (fun K hK => ?_); go_simp; refine hK _ ?_; clear hK K) | (refine wpRO_skipF rfl rfl (fun K hK => ?_); go_simp; refine hK _ ?_; clear hK K)
              first | (refine wpRO_free rfl rfl _ (fun w' => by go_simp; exact Gives.mk _ _) (fun K hK => ?_); go_simp; refine hK _ ?_; clear hK K) | (refine wpRO_skipF rfl rfl (fun K hK => ?_); go_simp; refine hK _ ?_; clear hK K)
              first | (refine wpRO_free rfl rfl _ (fun w' => by go_simp; exact Gives.mk _ _) (fun K hK => ?_); go_simp; refine hK _ ?_; clear hK K) | (refine wpRO_skipF rfl rfl (fun K hK => ?_); go_simp; refine hK _ ?_; clear hK K)
              first | (refine wpRO_free rfl rfl _ (fun w' => by go_simp; exact Gives.mk _ _) (fun K hK => ?_); go_simp; refine hK _ ?_; clear hK K) | (refine wpRO_skipF rfl rfl (fun K hK => ?_); go_simp; refine hK _ ?_; clear hK K)
              first | (refine wpRO_free rfl rfl _ (fun w' => by go_simp; exact Gives.mk _ _) (fun K hK => ?_); go_simp; refine hK _ ?_; clear hK K) | (refine wpRO_skipF rfl rfl (fun K hK => ?_); go_simp; refine hK _ ?_; clear hK K)
              first | (refine wpRO_pure rfl rfl _ (fun w' hG => by obtain ⟨c0, q1, d0⟩ := hG; exact gives_agg2 rfl (by decide +kernel) rfl (by assumption) (by assumption)) (fun K hK => ?_); go_simp; refine hK _ ?_; clear hK K) | (refine wpRO_pure rfl rfl _ (fun w' hG => by obtain ⟨c0, q1, d0⟩ := hG; go_simp; exact Gives.mk _ _) (fun K hK => ?_); go_simp; refine hK _ ?_; clear hK K) | (refine wpRO_skip rfl rfl (fun K hK => ?_); go_simp; refine hK _ ?_; clear hK K)
              first | (refine wpRO_free rfl rfl _ (fun w' => by go_simp; exact Gives.mk _ _) (fun K hK => ?_); go_simp; refine hK _ ?_; clear hK K) | (refine wpRO_skipF rfl rfl (fun K hK => ?_); go_simp; refine hK _ ?_; clear hK K)
              first | (refine wpRO_free rfl rfl _ (fun w' => by go_simp; exact Gives.mk _ _) (fun K hK => ?_); go_simp; refine hK _ ?_; clear hK K) | (refine wpRO_skipF rfl rfl (fun K hK => ?_); go_simp; refine hK _ ?_; clear hK K)
              first | (refine wpRO_pure rfl rfl _ (fun w' hG => by obtain ⟨c0, q1, d0⟩ := hG; exact gives_agg2 rfl (by decide +kernel) rfl (by assumption) (by assumption)) (fun K hK => ?_); go_simp; refine hK _ ?_; clear hK K) | (refine wpRO_pure rfl rfl _ (fun w' hG => by obtain ⟨c0, q1, d0⟩ := hG; go_simp; exact Gives.mk _ _) (fun K hK => ?_); go_simp; refine hK _ ?_; clear hK K) | (refine wpRO_skip rfl rfl (fun K hK => ?_); go_simp; refine hK _ ?_; clear hK K)
              first | (refine wpRO_pure rfl rfl _ (fun w' hG => by obtain ⟨c0, q1, d0⟩ := hG; exact gives_agg2 rfl (by decide +kernel) rfl (by assumption) (by assumption)) (fun K hK => ?_); go_simp; refine hK _ ?_; clear hK K) | (refine wpRO_pure rfl rfl _ (fun w' hG => by obtain ⟨c0, q1, d0⟩ := hG; go_simp; exact Gives.mk _ _) (fun K hK => ?_); go_simp; refine hK _ ?_; clear hK K) | (refine wpRO_skip rfl rfl (fun K hK => ?_); go_simp; refine hK _ ?_; clear hK K)
              refine wpRO_chg rfl rfl rfl (fun K hK => ?_); unfold gRun; go_simp
              refine HDY.out.mono ?_
              rintro e w8 ⟨rfl, rfl⟩
              refine hK _ _ ?_
              clear hK K
              refine wpRO_swi (fun _ => True) trivial ?_
              first | (refine wpRO_free rfl rfl _ (fun w' => by go_simp; exact Gives.mk _ _) (fun K hK => ?_); go_simp; refine hK _ ?_; clear hK K) | (refine wpRO_skipF rfl rfl (fun K hK => ?_); go_simp; refine hK _ ?_; clear hK K)
              first | (refine wpRO_free rfl rfl _ (fun w' => by go_simp; exact Gives.mk _ _) (fun K hK => ?_); go_simp; refine hK _ ?_; clear hK K) | (refine wpRO_skipF rfl rfl (fun K hK => ?_); go_simp; refine hK _ ?_; clear hK K)
              refine wpRO_fin ?_
              clear c0 c1 q0 q1 d0 pl ql hgl
              go_wp2_with fail
              refine ⟨⟨by kernel_rfl, ?rel⟩, ?measure⟩
              case rel => exact ⟨q + 1, hqn, by go_num, K10.out.drew⟩
              case measure => exact meas_lt (by go_num) (by first | rfl | exact E16.out) hqn
          · have hxe : (if x % 4 = 1 then x / 4 else 0) = 0 := if_neg hx4
            have hxd : decide (x % 4 = 1) = false := by simpa using hx4
            rw [hxe, hxd]
            clear hxe hxd hx4 HX1
            go_wp2_with fail
            refine wp_region_ro (.free 0 (.free 1 (.free 2 (.free 3 (.free 4 (.free 9 (.pure 5 (.free 6 (.free 7 (.pure 8 (.run 10 (.swi [24, 25, 26] (.free 11 (.free 12 (.free 13 (.free 14 (.free 15 (.free 20 (.free 21 (.free 22 (.pure 16 (.free 17 (.free 18 (.pure 19 (.pure 23 (.run 24 (.swi [] (.free 25 (.free 26 (.fin)))))))))))))))))))))))))))))) [10, 11, 12, 13, 14, 15, 16, 17, 18, 19, 20, 21, 22, 23, 24, 25, 26] (fun w' => True) (by kernel_rfl) (by kernel_rfl) trivial ?_
            first | (refine wpRO_free rfl rfl _ (fun w' => by go_simp; exact Gives.mk _ _) (fun K hK => ?_); go_simp; refine hK _ ?_; clear hK K) | (refine wpRO_skipF rfl rfl (fun K hK => ?_); go_simp; refine hK _ ?_; clear hK K)
            first | (refine wpRO_free rfl rfl _ (fun w' => by go_simp; exact Gives.mk _ _) (fun K hK => ?_); go_simp; refine hK _ ?_; clear hK K) | (refine wpRO_skipF rfl rfl (fun K hK => ?_); go_simp; refine hK _ ?_; clear hK K)
            first | (refine wpRO_free rfl rfl _ (fun w' => by go_simp; exact Gives.mk _ _) (fun K hK => ?_); go_simp; refine hK _ ?_; clear hK K) | (refine wpRO_skipF rfl rfl (fun K hK => ?_); go_simp; refine hK _ ?_; clear hK K)
            first | (refine wpRO_free rfl rfl _ (fun w' => by go_simp; exact Gives.mk _ _) (fun K hK => ?_); go_simp; refine hK _ ?_; clear hK K) | (refine wpRO_skipF rfl rfl (fun K hK => ?_); go_simp; refine hK _ ?_; clear hK K)
            first | (refine wpRO_free rfl rfl _ (fun w' => by go_simp; exact Gives.mk _ _) (fun K hK => ?_); go_simp; refine hK _ ?_; clear hK K) | (refine wpRO_skipF rfl rfl (fun K hK => ?_); go_simp; refine hK _ ?_; clear hK K)
            first | (refine wpRO_free rfl rfl _ (fun w' => by go_simp; exact Gives.mk _ _) (fun K hK => ?_); go_simp; refine hK _ ?_; clear hK K) | (refine wpRO_skipF rfl rfl (fun K hK => ?_); go_simp; refine hK _ ?_; clear hK K)
            first | (refine wpRO_pure rfl rfl _ (fun w' hG => by obtain _ := hG; exact gives_agg2 rfl (by decide +kernel) rfl (by assumption) (by assumption)) (fun K hK => ?_); go_simp; refine hK _ ?_; clear hK K) | (refine wpRO_pure rfl rfl _ (fun w' hG => by obtain _ := hG; go_simp; exact Gives.mk _ _) (fun K hK => ?_); go_simp; refine hK _ ?_; clear hK K) | (refine wpRO_skip rfl rfl (fun K hK => ?_); go_simp; refine hK _ ?_; clear hK K)
            first | (refine wpRO_free rfl rfl _ (fun w' => by go_simp; exact Gives.mk _ _) (fun K hK => ?_); go_simp; refine hK _ ?_; clear hK K) | (refine wpRO_skipF rfl rfl (fun K hK => ?_); go_simp; refine hK _ ?_; clear hK K)
            first | (refine wpRO_free rfl rfl _ (fun w' => by go_simp; exact Gives.mk _ _) (fun K hK => ?_); go_simp; refine hK _ ?_; clear hK K) | (refine wpRO_skipF rfl rfl (fun K hK => ?_); go_simp; refine hK _ ?_; clear hK K)
            first | (refine wpRO_pure rfl rfl _ (fun w' hG => by obtain _ := hG; exact gives_agg2 rfl (by decide +kernel) rfl (by assumption) (by assumption)) (fun K hK => ?_); go_simp; refine hK _ ?_; clear hK K) | (refine wpRO_pure rfl rfl _ (fun w' hG => by obtain _ := hG; go_simp; exact Gives.mk _ _) (fun K hK => ?_); go_simp; refine hK _ ?_; clear hK K) | (refine wpRO_skip rfl rfl (fun K hK => ?_); go_simp; refine hK _ ?_; clear hK K)
            refine wpRO_skipR rfl rfl (fun K hK => ?_)
            go_simp
            refine hK _ ?_
            clear hK K
            refine wpRO_swi (fun _ => True) trivial ?_
            first | (refine wpRO_free rfl rfl _ (fun w' => by go_simp; exact Gives.mk _ _) (fun K hK => ?_); go_simp; refine hK _ ?_; clear hK K) | (refine wpRO_skipF rfl rfl (fun K hK => ?_); go_simp; refine hK _ ?_; clear hK K)
            first | (refine wpRO_free rfl rfl _ (fun w' => by go_simp; exact Gives.mk _ _) (fun K hK => ?_); go_simp; refine hK _ ?_; clear hK K) | (refine wpRO_skipF rfl rfl (fun K hK => ?_); go_simp; refine hK _ ?_; clear hK K)
            first | (refine wpRO_free rfl rfl _ (fun w' => by go_simp; exact Gives.mk _ _) (fun K hK => ?_); go_simp; refine hK _ ?_; clear hK K) | (refine wpRO_skipF rfl rfl (fun K hK => ?_); go_simp; refine hK _ ?_; clear hK K)
            first | (refine wpRO_free rfl rfl _ (fun w' => by go_simp; exact Gives.mk _ _) (fun K hK => ?_); go_simp; refine hK _ ?_; clear hK K) | (refine wpRO_skipF rfl rfl (fun K hK => ?_); go_simp; refine hK _ ?_; clear hK K)
            first | (refine wpRO_free rfl rfl _ (fun w' => by go_simp; exact Gives.mk _ _) (fun K hK => ?_); go_simp; refine hK _ ?_; clear hK K) | (refine wpRO_skipF rfl rfl (fun K hK => ?_); go_simp; refine hK _ ?_; clear hK K)
            first | (refine wpRO_free rfl rfl _ (fun w' => by go_simp; exact Gives.mk _ _) (fun K hK => ?_); go_simp; refine hK _ ?_; clear hK K) | (refine wpRO_skipF rfl rfl (fun K hK => ?_); go_simp; refine hK _ ?_; clear hK K)
            first | (refine wpRO_free rfl rfl _ (fun w' => by go_simp; exact Gives.mk _ _) (fun K hK => ?_); go_simp; refine hK _ ?_; clear hK K) | (refine wpRO_skipF rfl rfl (fun K hK => ?_); go_simp; refine hK _ ?_; clear hK K)
            first | (refine wpRO_free rfl rfl _ (fun w' => by go_simp; exact Gives.mk _ _) (fun K hK => ?_); go_simp; refine hK _ ?_; clear hK K) | (refine wpRO_skipF rfl rfl (fun K hK => ?_); go_simp; refine hK _ ?_; clear hK K)
            first | (refine wpRO_pure rfl rfl _ (fun w' hG => by obtain _ := hG; exact gives_agg2 rfl (by decide +kernel) rfl (by assumption) (by assumption)) (fun K hK => ?_); go_simp; refine hK _ ?_; clear hK K) | (refine wpRO_pure rfl rfl _ (fun w' hG => by obtain _ := hG; go_simp; exact Gives.mk _ _) (fun K hK => ?_); go_simp; refine hK _ ?_; clear hK K) | (refine wpRO_skip rfl rfl (fun K hK => ?_); go_simp; refine hK _ ?_; clear hK K)
            first | (refine wpRO_free rfl rfl _ (fun w' => by go_simp; exact Gives.mk _ _) (fun K hK => ?_); go_simp; refine hK _ ?_; clear hK K) | (refine wpRO_skipF rfl rfl (fun K hK => ?_); go_simp; refine hK _ ?_; clear hK K)
            first | (refine wpRO_free rfl rfl _ (fun w' => by go_simp; exact Gives.mk _ _) (fun K hK => ?_); go_simp; refine hK _ ?_; clear hK K) | (refine wpRO_skipF rfl rfl (fun K hK => ?_); go_simp; refine hK _ ?_; clear hK K)
            first | (refine wpRO_pure rfl rfl _ (fun w' hG => by obtain _ := hG; exact gives_agg2 rfl (by decide +kernel) rfl (by assumption) (by assumption)) (fun K hK => ?_); go_simp; refine hK _ ?_; clear hK K) | (refine wpRO_pure rfl rfl _ (fun w' hG => by obtain _ := hG; go_simp; exact Gives.mk _ _) (fun K hK => ?_); go_simp; refine hK _ ?_; clear hK K) | (refine wpRO_skip rfl rfl (fun K hK => ?_); go_simp; refine hK _ ?_; clear hK K)
            first | (refine wpRO_pure rfl rfl _ (fun w' hG => by obtain _ := hG; exact gives_agg2 rfl (by decide +kernel) rfl (by assumption) (by assumption)) (fun K hK => ?_); go_simp; refine hK _ ?_; clear hK K) | (refine wpRO_pure rfl rfl _ (fun w' hG => by obtain _ := hG; go_simp; exact Gives.mk _ _) (fun K hK => ?_); go_simp; refine hK _ ?_; clear hK K) | (refine wpRO_skip rfl rfl (fun K hK => ?_); go_simp; refine hK _ ?_; clear hK K)
            refine wpRO_skipR rfl rfl (fun K hK => ?_)
            go_simp
            refine hK _ ?_
            clear hK K
            refine wpRO_swi (fun _ => True) trivial ?_
            first | (refine wpRO_free rfl rfl _ (fun w' => by go_simp; exact Gives.mk _ _) (fun K hK => ?_); go_simp; refine hK _ ?_; clear hK K) | (refine wpRO_skipF rfl rfl (fun K hK => ?_); go_simp; refine hK _ ?_; clear hK K)
            first | (refine wpRO_free rfl rfl _ (fun w' => by go_simp; exact Gives.mk _ _) (fun K hK => ?_); go_simp; refine hK _ ?_; clear hK K) | (refine wpRO_skipF rfl rfl (fun K hK => ?_); go_simp; refine hK _ ?_; clear hK K)
            refine wpRO_fin ?_
            clear c0 c1 q0 q1 d0 pl ql hgl
            go_wp2_with fail
            refine ⟨⟨by kernel_rfl, ?rel⟩, ?measure⟩
            case rel => exact ⟨q + 1, hqn, by go_num, K10.out.drew⟩
            case measure => exact meas_lt (by go_num) (by first | rfl | exact E16.out) hqn
        · obtain rfl : q = nn := by omega
          go_wp2_with fail
          refine ⟨⟨by kernel_rfl, ?rel⟩, ?measure⟩
          case rel => exact ⟨j + 1, hjl, by go_num, K9.out⟩
          case measure => exact meas_lt (by go_num) (by first | rfl | exact E12.out) hjl
      · obtain rfl : j = L.length := by omega
        have HIK := Lib.hid (show CInv w wr2 p (k + 1) from ⟨h5, O5, W5, M6.out.same K6.out, HT5.out, HR5.out⟩)
        go_wp2_with fail
        refine ⟨⟨by kernel_rfl, ?rel⟩, ?measure⟩
        case rel => exact ⟨k + 1, hlt, by go_num, HIK.out⟩
        case measure => exact meas_lt (by go_num) (by first | rfl | exact E9.out) hlt
    · obtain rfl : k = m := by omega
      obtain ⟨h1, O1, W1, M1, hT1, G1, φ1, R1⟩ := HI.out
      have K1 := Lib.hid M1.K
      clear HI M1 hT1 R1
      go_wp2_with fail
      go_ret
      exact ⟨rfl, K1.out⟩

theorem MinorCards_walk (n o : Int) (lo : Option Addr) (lc m : Nat) (xs : List Int) (w : World) (_ : R64 n) (_ : R64 o) (h0 : Rd w lo (xs.map (Value.int .i64))) (hx : xs.length = m * 4) (_ : m ≤ maxLen) (hb : ∀ x ∈ xs, R64 x) :
    Calls Try.prog 12 #[.int .i64 n, .int .i64 o, .slice lo m lc] w fun e w' => e = .returned (.bool true) ∧ Below w.heap.size w w' :=
  (MinorCards_raw n o lo lc m xs w h0 hx hb).mono fun e w' ⟨h1, h2⟩ => ⟨h1, h2.below (fun _ _ h => h)⟩
end

end Go.Proofs.Ytjifdalflepcoab

namespace Go.Proofs.Ytjifdalflepcoab
set_option linter.unusedVariables false
set_option linter.unusedSimpArgs false

section
variable {O : Wo} {W : Wd} {φ : Int → Int}

theorem wdC_dims (W : Wd) (d xa b : Int) {a c : Nat} (ha : a < 12) (hc : c < 12) : (wdC W d xa b a c).2.most = W.most ∧ (wdC W d xa b a c).2.grow = W.grow := by
  unfold wdC
  by_cases d0 : d = 0
  · rw [if_pos d0]; unfold Wd.fresh; split <;> exact ⟨rfl, rfl⟩
  rw [if_neg d0]
  by_cases d1 : d = 1
  · rw [if_pos d1]; unfold Wd.do; rw [if_pos (check12 ha hc b)]
    show (W.set _).2.most = _ ∧ (W.set _).2.grow = _
    unfold Wd.set; split <;> exact ⟨rfl, rfl⟩
  rw [if_neg d1]
  by_cases d2 : d = 2
  · rw [if_pos d2]; unfold Wd.do; rw [if_pos (check11 ha hc b)]
    show (W.get _).2.most = _ ∧ (W.get _).2.grow = _
    unfold Wd.get; split <;> exact ⟨rfl, rfl⟩
  rw [if_neg d2]
  by_cases d3 : d = 3
  · rw [if_pos d3]; unfold Wd.do; split <;> exact ⟨rfl, rfl⟩
  rw [if_neg d3]
  by_cases d4 : d = 4
  · rw [if_pos d4]; unfold Wd.do; rw [if_pos (check2 hc)]; exact ⟨rfl, rfl⟩
  rw [if_neg d4]
  by_cases d5 : d = 5
  · rw [if_pos d5]; unfold Wd.do; rw [if_pos (check9 ha hc)]
    show (W.reg _).2.most = _ ∧ (W.reg _).2.grow = _
    unfold Wd.reg; split
    · exact ⟨rfl, rfl⟩
    · split <;> exact ⟨rfl, rfl⟩
  rw [if_neg d5]
  exact ⟨rfl, rfl⟩

theorem Wd.cut_dims (W : Wd) (major : Bool) : (W.cut major).2.most = W.most ∧ (W.cut major).2.grow = W.grow := by
  unfold Wd.cut
  split
  · exact ⟨rfl, rfl⟩
  · split <;> exact ⟨rfl, rfl⟩

theorem mCut_no {O : Wo} (h : (mCut O).1 ≠ 0) : (mCut O).2 = O := by
  unfold mCut at h ⊢
  split
  · rfl
  · rename_i h1; rw [if_neg h1] at h; exact (h rfl).elim

/-- Behind a small cut of a strong wood. -/
structure StrongCut (O P : Wo) (c grow : Int) : Prop where
  view : P.view = O.view
  code : c = 0 ∨ c = 3
  young : c = 0 → P.ar.yng = 0
  le : c = 0 → ((P.ar.grn - P.ar.nur : Nat) : Int) ≤ ((O.ar.grn - O.ar.nur : Nat) : Int) + O.ar.yng
  size : c = 0 → sizeN O.view.2 ≤ ((P.ar.grn - P.ar.nur : Nat) : Int)
  same : c ≠ 0 → P = O
  full : c ≠ 0 → (O.ar.yng : Int) > grow - ((O.ar.grn - O.ar.nur : Nat) : Int)

theorem Rep.olds_eq (R : Rep O W φ) : ((O.ar.grn - O.ar.nur : Nat) : Int) = W.olds := by
  have h := R.ho.ha.h2
  rw [← R.so]; omega

theorem Rep.strongMinor (R : Rep O W φ) (hs : W.strong) : StrongCut O (mCut O).2 (mCut O).1 W.grow ∧ ∃ ψ, Rep (mCut O).2 (W.cut false).2 ψ := by
  obtain ⟨e, ψ, R'⟩ := R.minor
  refine ⟨?_, ψ, R'⟩
  have hv : (mCut O).2.view = O.view := by rw [R'.view, R.view, hs.view_cut R.hw]
  have hm := (Wd.pass_mid R.hw false).1
  have hsum := sumL_le R.hw hm.live
  have hsz := hs.size_le R.hw false
  have ho := R.olds_eq; have hy := R.sy; have ho' := R'.olds_eq; have hy' := R'.sy
  by_cases hf : W.young > W.grow - W.olds
  · have ec : W.cut false = (3, W) := by unfold Wd.cut; rw [if_pos ⟨rfl, hf⟩]
    have e3 : (mCut O).1 = 3 := by rw [e, ec]
    rw [e3]
    refine ⟨hv, .inr rfl, fun h => absurd h (by decide), fun h => absurd h (by decide), fun h => absurd h (by decide), fun _ => mCut_no (by rw [e3]; decide), fun _ => by omega⟩
  · have hle : W.young + W.olds ≤ W.grow := by omega
    have ec := W.cut_small hf (by omega)
    have e0 : (mCut O).1 = 0 := by rw [e, ec]
    rw [ec] at ho' hy' R'
    dsimp only at ho' hy'
    have hsa := Wd.after_sums R.hw false
    rw [e0]
    refine ⟨hv, .inl rfl, fun _ => by have := hsa.1; omega, fun _ => by have := hsa.2; omega, fun _ => ?_, fun h => absurd rfl h, fun h => absurd rfl h⟩
    rw [R.view]
    have := hsa.2; omega

/-! Great cuts. -/

end
end Go.Proofs.Ytjifdalflepcoab

namespace Go.Proofs.Ytjifdalflepcoab
open Go.RowKit
set_option linter.unusedVariables false
set_option linter.unusedSimpArgs false

theorem sizeN_step {l : List Nd} {k : Nat} (h : k < l.length) : sizeN (l.take (k + 1)) = sizeN (l.take k) + (1 + if (l.getD k (0, [])).1 = 5 then 0 else ((l.getD k (0, [])).2.length : Int)) := by
  rw [← List.take_append_getElem h]
  unfold sizeN
  rw [List.map_append, List.sum_append]
  have e : l.getD k (0, []) = l[k] := by rw [List.getD_eq_getElem?_getD, List.getElem?_eq_getElem h]; rfl
  rw [e]
  simp

theorem sizeN_bound {l : List Nd} (hl : ∀ n ∈ l, n.2.length ≤ 1000000) : ∀ k : Nat, k ≤ l.length → 0 ≤ sizeN (l.take k) ∧ sizeN (l.take k) ≤ 1000001 * k
  | 0, _ => by simp [sizeN]
  | k + 1, h => by
    have ih := sizeN_bound hl k (by omega)
    have hm : (l.getD k (0, [])).2.length ≤ 1000000 := by
      rw [List.getD_eq_getElem?_getD, List.getElem?_eq_getElem (by omega)]; exact hl _ (List.getElem_mem _)
    rw [sizeN_step (by omega)]
    split
    · omega
    · omega

set_option maxHeartbeats 4000000 in
set_option maxRecDepth 100000 in
theorem Size_c (x : Value) (V : List Vl × List Nd) (w : World) (h1 : ViewR w x V) :
    Calls Try.prog 68 #[x] w fun e w' => e = .returned (.int .i64 (sizeN V.2)) ∧ Keeps (fun _ => False) w w' := by
  obtain ⟨ro, rc, nv, F, rfl, r1, n1, l1, l2, l3⟩ := h1
  obtain ⟨no, nc, rfl, N1⟩ := n1.nth
  have M1 := Lib.hid n1; have L3 := Lib.hid l3
  clear r1 n1 N1 l3
  go_enter Try.func68, Try.ntmps68
  go_wp2_with fail
  have hka := (Keeps.refl (fun _ => False) w).alloc (.cells #[.slice ro V.1.length rc, .slice no V.2.length nc] 72)
  have hba : Blk (w.alloc (.cells #[.slice ro V.1.length rc, .slice no V.2.length nc] 72)) w.heap.size [.slice ro V.1.length rc, .slice no V.2.length nc] 72 := Blk.newAt _ rfl rfl
  generalize w.alloc (.cells #[.slice ro V.1.length rc, .slice no V.2.length nc] 72) = wa at *
  generalize w.heap.size = b at *
  have KA := Lib.hid hka; have BA := Lib.hid hba
  clear hka hba
  go_loopw [3, 4] (fun nn i wr => ∃ k : Nat, k ≤ V.2.length ∧ i = .int .i64 k ∧ nn = .int .i64 (sizeN (V.2.take k)) ∧ Keeps (fun _ => False) w wr ∧ Blk wr b [.slice ro V.1.length rc, .slice no V.2.length nc] 72) (fun _ i _ => V.2.length - (intOf i).toNat)
  case atStart => exact ⟨0, Nat.zero_le _, rfl, rfl, KA.out, BA.out⟩
  case round =>
    obtain ⟨k, hk, rfl, rfl, hkk, hb1⟩ := hrel
    have HK := Lib.hid hkk; have HX1 := Lib.hid hb1
    clear KA BA hkk hb1
    have c1 := HX1.out.cell 1; have cl := HX1.out.lt
    simp only [List.getElem?_cons_zero, List.getElem?_cons_succ] at c1
    by_cases hlt : k < V.2.length
    · obtain ⟨no', nc', e', N1⟩ := (M1.out.keep HK.out (fun _ _ _ h => h) (fun _ _ h => h)).nth
      cases e'
      obtain ⟨g, o, ao, ac, rfl, hgl, x0, x1, -, -⟩ := N1 k hlt
      have hnl : (V.2.getD k (0, [])).2.length ≤ 1000000 := by
        rw [List.getD_eq_getElem?_getD, List.getElem?_eq_getElem hlt]; exact L3.out _ (List.getElem_mem _)
      have hst := sizeN_step hlt
      have hbd := sizeN_bound L3.out k hk
      generalize sizeN (V.2.take k) = s at *
      generalize V.2.getD k (0, []) = nd at *
      have HST := Lib.hid hst
      clear N1 hst
      by_cases h5 : nd.1 = 5
      · have HS := Lib.hid (show sizeN (V.2.take (k + 1)) = s + 1 by rw [HST.out, if_pos h5]; omega)
        rw [h5] at x0
        clear h5 HST
        go_wp2_with fail
        go_roundw
        case rel => exact ⟨k + 1, hlt, by go_num, by rw [HS.out], HK.out, HX1.out⟩
        case measure => simp [intOf]; omega
      · have HS := Lib.hid (show sizeN (V.2.take (k + 1)) = s + 1 + nd.2.length by rw [HST.out, if_neg h5]; omega)
        have hd : (nd.1 != 5) = true := by simpa using h5
        clear h5 HST
        go_wp2_with fail
        go_roundw
        case rel => exact ⟨k + 1, hlt, by go_num, by rw [HS.out], HK.out, HX1.out⟩
        case measure => simp [intOf]; omega
    · obtain rfl : k = V.2.length := by omega
      rw [List.take_length]
      go_wp2_with fail
      go_ret
      exact ⟨rfl, HK.out⟩

end Go.Proofs.Ytjifdalflepcoab

namespace Go.Proofs.Ytjifdalflepcoab
open Go.RowKit
set_option linter.unusedVariables false
set_option linter.unusedSimpArgs false

theorem wpList_agg2g {P : Program} {w : World} {ops : Array Oper} {o : Oper} {a : Act} {rest : List Oper} {Q : Exit → Act → World → Prop} (hw : Region.wanted o (yielded ops a.tmps) = true) (t : TypeId) (x : Operand) (ho : o.op = .load t x) (hr : rowB P t 2 = true) (b off : Nat) (hx : a.eval x = .pointer (some ⟨b, off, none⟩)) (v0 v1 : Value)
    (h0 : w.cell? ⟨b, off, none⟩ = some v0) (h1 : w.cell? ⟨b, off + 1, none⟩ = some v1) (h : wpList P ops Q rest (a.put o.dst (.agg #[v0, v1])) w) : wpList P ops Q (o :: rest) a w := by
  obtain ⟨d, hu, hd, hi⟩ := rowB_spec hr
  exact wpList_step fun K hK => by
    rw [if_pos hw]
    exact wp_load_mid t x ho b off hx [v0, v1] d (rangeAt2 h0 h1) hu hd hi (hK _ _ h)

end Go.Proofs.Ytjifdalflepcoab

namespace Go.Proofs.Ytjifdalflepcoab
open Go.RowKit
set_option linter.unusedVariables false
set_option linter.unusedSimpArgs false

/-- Both, in a statement, behind k steps; the wood is some strong world's. -/
def SInv (w wr : World) (p k : Nat) (n o : Int) : Prop := ∃ h O W, BM w wr p h O W ∧ W.T.length ≤ k ∧ ∃ W1 φ, Rep O W1 φ ∧ W1.strong ∧ W1.most = n ∧ W1.grow = o

theorem Rep.lens {O : Wo} {W : Wd} {φ : Int → Int} (R : Rep O W φ) : O.view.1.length = 12 ∧ O.view.2.length ≤ 1300 ∧ ∀ n ∈ O.view.2, n.2.length ≤ 100 := by
  rw [R.view]
  exact (Wd.seen R.hw).lens R.hw

theorem ViewV.rep {w : World} {lo : Nat} {v : Value} {O : Wo} {W : Wd} {φ : Int → Int} (H : ViewV w lo v O.view) (R : Rep O W φ) : ViewR w v O.view := by
  obtain ⟨h1, h2, h3⟩ := R.lens
  exact H.r (by omega) (by omega) (fun n hn => Nat.le_trans (h3 n hn) (by decide))

section
variable {w w' : World}

set_option maxHeartbeats 16000000 in
set_option maxRecDepth 100000 in
theorem MinorStrong_raw (n o : Int) (lo : Option Addr) (lc m : Nat) (xs : List Int) (w : World) (h0 : Rd w lo (xs.map (Value.int .i64))) (hx : xs.length = m * 4) (hb : ∀ x ∈ xs, R64 x) :
    Calls Try.prog 11 #[.int .i64 n, .int .i64 o, .slice lo m lc] w fun e w' => e = .returned (.bool true) ∧ Keeps (fun _ => False) w w' := by
  have H0 := Lib.hid h0; have HX := Lib.hid hx; have HBD := Lib.hid hb
  clear h0 hx hb
  go_enter Try.func11, Try.ntmps11
  go_wp2_with fail
  refine (minorBegun_c _).mono ?_
  rintro e w1 ⟨rfl, hk1⟩
  have HK1 := Lib.hid hk1; clear hk1
  by_cases hm : 250 < m
  · go_wp2_with fail
    go_ret
    exact ⟨rfl, HK1.out⟩
  cases hfit : Ar.fits n o
  · have HFM := Lib.hid (show faultM n o = (1, -1) by unfold faultM; rw [hfit]; rfl)
    go_wp2_with fail
    refine (start_no n o _ hfit).mono ?_
    rintro e w2 ⟨rfl, hk2⟩
    go_wp2_with fail
    refine (RoomFault_c n o _).mono ?_
    rintro e w3 ⟨rfl, hk3⟩
    rw [HFM.out]
    have hfd : ∀ w : World, (Instr.field 26 (.agg #[.int .i64 1, .int .i64 (-1)]) 0).run Try.prog w = .ok (.int .i64 1) w := fun _ => by kernel_rfl
    go_wp2_with fail
    go_ret
    exact ⟨rfl, (HK1.out.trans hk2).trans hk3⟩
  have HFIT := Lib.hid hfit
  go_wp2_with fail
  refine (start_yes n o _ hfit).mono ?_
  rintro e w2 ⟨h, rfl, B2, k2, o2⟩
  have HM := Lib.hid (show BM w w2 h.p h (Wo.new n o) (Wd.new n o) from ⟨B2, rfl, HK1.out.trans k2, fun b hb => Nat.le_trans HK1.out.size (o2 b hb)⟩)
  clear hfit B2 k2 o2 HK1
  generalize h.p = p at *
  have HI := Lib.hid (show SInv w w2 p 0 n o from ⟨h, _, _, HM.out, by simp [Wd.new], _, _, Rep.new HFIT.out, Wd.new_strong n o, rfl, rfl⟩)
  have hof : 0 ≤ o ∧ o ≤ 1024 := by have := HFIT.out; simp [Ar.fits] at this; omega
  clear HM HFIT
  go_wp2_with fail
  refine wp_loop_over (fun i => Nat.blt 34 i && Nat.blt i 148 || Nat.blt 8 i && Nat.blt i 17) (fun s wr => ∃ k : Nat, k ≤ m ∧ s 9 = .int .i64 k ∧ SInv w wr p k n o) (fun s _ => m - (intOf (s 9)).toNat) ?_ ?_
  · exact ⟨0, Nat.zero_le _, rfl, HI.out⟩
  · intro u0 wr hrel K hK
    clear HI
    obtain ⟨k, hk, e9, hI⟩ := hrel
    have e9 : u0 9 = .int .i64 k := e9
    have HI := Lib.hid hI
    clear hI
    simp only [overA, overL, List.toList_toArray, Nat.blt, Nat.beq, Nat.ble, Nat.reduceAdd, Bool.or_false, Bool.false_or, Bool.or_true, Bool.true_or, Bool.and_true, Bool.true_and, Bool.and_false, Bool.false_and, cond_true, cond_false]
    rw [e9]
    have E9 := Lib.hid e9; clear e9
    by_cases hlt : k < m
    · obtain ⟨h1, O1, W1, M1, hT1, G1, φ1, R1, hs1, hm1, hg1⟩ := HI.out
      have hrd := H0.out.keep M1.K (fun _ _ _ h => h)
      obtain ⟨gs, os, rfl, hgl, d0⟩ := hrd.nth (k * 4) (by rw [HX.out]; omega)
      obtain ⟨_, _, e', -, d1⟩ := hrd.nth (k * 4 + 1) (by rw [HX.out]; omega)
      cases e'
      obtain ⟨_, _, e', -, d2⟩ := hrd.nth (k * 4 + 2) (by rw [HX.out]; omega)
      cases e'
      obtain ⟨_, _, e', -, d3⟩ := hrd.nth (k * 4 + 3) (by rw [HX.out]; omega)
      cases e'
      rw [← Nat.add_assoc] at d1 d2 d3
      have hy : ∀ j, j < 4 → R64 (xs.getD (k * 4 + j) 0) := fun j hj => HBD.out _ (by rw [List.getD_eq_getElem?_getD, List.getElem?_eq_getElem (by rw [HX.out]; omega)]; exact List.getElem_mem _)
      have HY1 := Lib.hid (hy 1 (by decide)); have HY2 := Lib.hid (hy 2 (by decide))
      generalize xs.getD (k * 4) 0 = d at *
      generalize xs.getD (k * 4 + 1) 0 = x at *
      generalize xs.getD (k * 4 + 2) 0 = y at *
      generalize xs.getD (k * 4 + 3) 0 = z at *
      have M := Lib.hid M1; have R := Lib.hid R1; have HT := Lib.hid hT1; have ST := Lib.hid hs1; have HMO := Lib.hid hm1; have HGO := Lib.hid hg1
      clear hrd hy HI M1 R1 hT1 hs1 hm1 hg1
      go_upto_region 12 with (refine wpList_agg rfl 112 (.tmp 43) rfl [.int .i64 d, .int .i64 x, .int .i64 y, .int .i64 z] (by kernel_rfl) gs (os + k * 4) rfl (rangeAt_cons d0 (rangeAt_cons d1 (rangeAt_cons d2 (rangeAt_cons d3 rangeAt_nil)))) ?_)
      have hbk := Blk.newAt (w := wr) (b := wr.heap.size) (T := 112) #[.int .i64 d, .int .i64 x, .int .i64 y, .int .i64 z] rfl rfl
      have hka := (Keeps.refl (fun _ => False) wr).alloc (.cells #[.int .i64 d, .int .i64 x, .int .i64 y, .int .i64 z] 112)
      have hMb := M.out.same hka
      clear d0 d1 d2 d3 hgl M
      generalize wr.alloc (.cells #[.int .i64 d, .int .i64 x, .int .i64 y, .int .i64 z] 112) = wb at *
      generalize wr.heap.size = be at *
      have HB := Lib.hid hbk; have M := Lib.hid hMb
      clear hbk hka hMb
      have b0 := HB.out.cell 0; have b1 := HB.out.cell 1; have b2 := HB.out.cell 2; have b3 := HB.out.cell 3; have bl := HB.out.lt
      simp only [List.getElem?_cons_zero, List.getElem?_cons_succ] at b0 b1 b2 b3
      obtain ⟨c0, c1, pl⟩ := M.out.pc
      by_cases hskip : d = 0 ∧ x ≠ 1 ∧ x ≠ 2
      · obtain ⟨rfl, hx1, hx2⟩ := hskip
        have hd1 : (x != 1) = true := by simpa using hx1
        have hd2 : (x != 2) = true := by simpa using hx2
        have HIK := Lib.hid (show SInv w wb p (k + 1) n o from ⟨h1, _, _, M.out, by have := HT.out; omega, _, _, R.out, ST.out, HMO.out, HGO.out⟩)
        clear hx1 hx2
        go_wp2_with fail
        refine ⟨⟨by kernel_rfl, ?rel⟩, ?measure⟩
        case rel => exact ⟨k + 1, hlt, by go_num, HIK.out⟩
        case measure => exact meas_lt (by go_num) (by first | rfl | exact E9.out) hlt
      by_cases h6 : d < 6
      · have hst : d = 0 → x = 1 ∨ x = 2 := fun h => by
          by_cases h1 : x = 1
          · exact .inl h1
          · by_cases h2 : x = 2
            · exact .inr h2
            · exact (hskip ⟨h, h1, h2⟩).elim
        have hdo := M.out.do_c d x y z (by have := HT.out; omega) HY1.out HY2.out
        have HDO := Lib.hid hdo
        have hcs := R.out.cs d x y (rootN_lt x) (rootN_lt z)
        have hss := ST.out.cs R.out.hw (b := y) hst (rootN_lt x) (rootN_lt z)
        have hdm := wdC_dims G1 d x y (rootN_lt x) (rootN_lt z)
        have hln := wdC_len W1 d x y (rootN_lt x) (rootN_lt z)
        have HNX := Lib.hid (show ∀ w' h', BM w w' p h' (woC O1 d x y (rootN x) (rootN z)).2 (wdC W1 d x y (rootN x) (rootN z)).2 → SInv w w' p (k + 1) n o from fun w' h' M' => by
          obtain ⟨-, ψ, R'⟩ := hcs
          exact ⟨h', _, _, M', by have := HT.out; omega, _, ψ, R', hss, hdm.1.trans HMO.out, hdm.2.trans HGO.out⟩)
        clear hdo hcs hss hdm hln
        have key : d ≠ 0 ∨ (d = 0 ∧ x = 1) ∨ (d = 0 ∧ x = 2) := by
          by_cases h : d = 0
          · rcases hst h with h1 | h1
            · exact .inr (.inl ⟨h, h1⟩)
            · exact .inr (.inr ⟨h, h1⟩)
          · exact .inl h
        clear hst hskip
        rcases key with hk0 | ⟨rfl, rfl⟩ | ⟨rfl, rfl⟩
        · have hd0 : (d == 0) = false := by simpa using hk0
          clear hk0
          go_wp2_with (refine wpList_agg rfl 112 (.tmp 10) rfl [.int .i64 d, .int .i64 x, .int .i64 y, .int .i64 z] (by kernel_rfl) be 0 rfl (rangeAt_cons b0 (rangeAt_cons b1 (rangeAt_cons b2 (rangeAt_cons b3 rangeAt_nil)))) ?_)
          refine HDO.out.mono ?_
          rintro e w2 ⟨rfl, ht⟩
          obtain ⟨h2, M2⟩ := M.out.to ht
          have HIK := Lib.hid (HNX.out _ _ M2)
          clear ht M2 c0 c1 pl b0 b1 b2 b3 bl HDO HNX
          go_wp2_with fail
          refine ⟨⟨by kernel_rfl, ?rel⟩, ?measure⟩
          case rel => exact ⟨k + 1, hlt, by go_num, HIK.out⟩
          case measure => exact meas_lt (by go_num) (by first | rfl | exact E9.out) hlt
        · clear h6
          go_wp2_with (refine wpList_agg rfl 112 (.tmp 10) rfl [.int .i64 0, .int .i64 1, .int .i64 y, .int .i64 z] (by kernel_rfl) be 0 rfl (rangeAt_cons b0 (rangeAt_cons b1 (rangeAt_cons b2 (rangeAt_cons b3 rangeAt_nil)))) ?_)
          refine HDO.out.mono ?_
          rintro e w2 ⟨rfl, ht⟩
          obtain ⟨h2, M2⟩ := M.out.to ht
          have HIK := Lib.hid (HNX.out _ _ M2)
          clear ht M2 c0 c1 pl b0 b1 b2 b3 bl HDO HNX
          go_wp2_with fail
          refine ⟨⟨by kernel_rfl, ?rel⟩, ?measure⟩
          case rel => exact ⟨k + 1, hlt, by go_num, HIK.out⟩
          case measure => exact meas_lt (by go_num) (by first | rfl | exact E9.out) hlt
        · clear h6
          go_wp2_with (refine wpList_agg rfl 112 (.tmp 10) rfl [.int .i64 0, .int .i64 2, .int .i64 y, .int .i64 z] (by kernel_rfl) be 0 rfl (rangeAt_cons b0 (rangeAt_cons b1 (rangeAt_cons b2 (rangeAt_cons b3 rangeAt_nil)))) ?_)
          refine HDO.out.mono ?_
          rintro e w2 ⟨rfl, ht⟩
          obtain ⟨h2, M2⟩ := M.out.to ht
          have HIK := Lib.hid (HNX.out _ _ M2)
          clear ht M2 c0 c1 pl b0 b1 b2 b3 bl HDO HNX
          go_wp2_with fail
          refine ⟨⟨by kernel_rfl, ?rel⟩, ?measure⟩
          case rel => exact ⟨k + 1, hlt, by go_num, HIK.out⟩
          case measure => exact meas_lt (by go_num) (by first | rfl | exact E9.out) hlt
      · have hd0 : (d == 0) = false := by simp; omega
        have hd6 : decide (d < 6) = false := by simpa using h6
        have q0 := M.out.B.H.ptrs.1; have ql := M.out.B.H.hp.lt
        clear h6 hskip b1 b2 b3
        go_wp2_with fail
        refine (View_c _ M.out.B.H).mono ?_
        rintro e wv ⟨v, rfl, hv, hkv⟩
        have M2 := M.out.same hkv
        have HV0 := hv.keep ((Keeps.refl (fun _ => False) wv).alloc (.cells #[] 72)) (fun _ _ _ h => h)
        obtain ⟨ro, rc, no, nc, F, rfl, hva, hvb, hvc⟩ := hv
        have HVR := Lib.hid (show ViewV wv wb.heap.size _ O1.view from ⟨ro, rc, no, nc, F, rfl, hva, hvb, hvc⟩)
        have MV := Lib.hid M2
        have OL := Lib.hid (fun b hb => M.out.B.own_lt (k := b) hb); have HSZ := Lib.hid hkv.size
        clear hva hvb hvc HV0 M2 hkv b0 bl c0 c1 pl q0 ql
        generalize hvl1 : O1.view.1.length = vl1 at *
        generalize hvl2 : O1.view.2.length = vl2 at *
        obtain ⟨c0, c1, pl⟩ := MV.out.pc
        have q0 := MV.out.B.H.ptrs.1; have ql := MV.out.B.H.hp.lt
        go_upto_region 16 with (fail)
        have hka := (Keeps.refl (fun _ => False) wv).alloc (.cells #[.slice ro vl1 rc, .slice no vl2 nc] 72)
        have hvb : Blk (wv.alloc (.cells #[.slice ro vl1 rc, .slice no vl2 nc] 72)) wv.heap.size [.slice ro vl1 rc, .slice no vl2 nc] 72 := Blk.newAt _ rfl rfl
        have M3 := Lib.hid (MV.out.same hka); have HV3 := Lib.hid (HVR.out.keep hka (fun _ _ _ h => h)); have VB3 := Lib.hid hvb
        clear hka hvb c0 c1 pl q0 ql HVR
        generalize wv.alloc (.cells #[.slice ro vl1 rc, .slice no vl2 nc] 72) = wc at *
        have HSZ' := HSZ.out
        generalize wv.heap.size = vb at *
        clear MV
        obtain ⟨c0, c1, pl⟩ := M3.out.pc
        have q0 := M3.out.B.H.ptrs.1; have ql := M3.out.B.H.hp.lt
        go_wp2_with fail
        refine (Used_c _ M3.out.B.H.ha).mono ?_
        rintro e w4 ⟨rfl, hk4⟩
        have M4 := Lib.hid (M3.out.same hk4); have HV4 := Lib.hid (HV3.out.keep hk4 (fun _ _ _ h => h)); have VB4 := Lib.hid (hk4.blk VB3.out (fun h => h))
        clear hk4 c0 c1 pl q0 ql M3 HV3 VB3
        obtain ⟨c0, c1, pl⟩ := M4.out.pc
        go_wp2_with fail
        refine (minorCut_c R.out M4.out.B.H).mono ?_
        rintro e w5 ⟨rfl, ht⟩
        obtain ⟨h5, M5'⟩ := M4.out.wood ht
        obtain ⟨-, -, -, kt, -⟩ := ht
        have hno : ∀ j, wb.heap.size ≤ j → ¬ h1.a.Own j := fun j hj hn => by have := OL.out j (.inr (.inl hn)); omega
        have HV5 := Lib.hid (HV4.out.keep kt (fun j hj _ => hno j hj)); have VB5 := Lib.hid (kt.blk VB4.out (hno vb HSZ'))
        obtain ⟨SC, ψ, R5'⟩ := R.out.strongMinor ST.out
        rw [HGO.out] at SC
        have hdm := Wd.cut_dims G1 false
        have HNX := Lib.hid (show ∀ w' h', BM w w' p h' (mCut O1).2 W1 → SInv w w' p (k + 1) n o from fun w' h' M' => ⟨h', _, _, M', by have := HT.out; omega, _, ψ, R5', ST.out.cut R.out.hw false, hdm.1.trans HMO.out, hdm.2.trans HGO.out⟩)
        have hvw := fun w' h' (M' : BM w w' p h' (mCut O1).2 W1) => View_c w' M'.B.H
        rw [SC.view] at hvw
        obtain ⟨⟨c, P⟩, hP⟩ : ∃ t, mCut O1 = t := ⟨_, rfl⟩
        rw [hP] at M5' SC HNX hvw ⊢
        dsimp only at M5' SC HNX hvw ⊢
        have M5 := Lib.hid M5'; have SC := Lib.hid SC; have HVW := Lib.hid hvw
        clear hP hdm hvw M5' R5' kt hno M4 HV4 VB4 c0 c1 pl
        obtain ⟨c0, c1, pl⟩ := M5.out.pc
        have q0 := M5.out.B.H.ptrs.1; have ql := M5.out.B.H.hp.lt
        go_wp2_with fail
        refine (Used_c _ M5.out.B.H.ha).mono ?_
        rintro e w6 ⟨rfl, hk6⟩
        have M6 := Lib.hid (M5.out.same hk6); have HV6 := Lib.hid (HV5.out.keep hk6 (fun _ _ _ h => h)); have VB6 := Lib.hid (hk6.blk VB5.out (fun h => h))
        clear hk6 c0 c1 pl q0 ql M5 HV5 VB5
        obtain ⟨c0, c1, pl⟩ := M6.out.pc
        have v0 := VB6.out.cell 0; have v1 := VB6.out.cell 1; have vl := VB6.out.lt
        simp only [List.getElem?_cons_zero, List.getElem?_cons_succ] at v0 v1
        go_wp2_with fail
        refine wp_region_ro (.free 1 (.free 2 (.free 3 (.pure 0 (.pure 4 (.run 5 (.run 6 (.swi [] (.free 7 (.fin)))))))))) [6, 7] (fun w' => w'.cell? ⟨p, 0, none⟩ = some (.pointer (some ⟨h5.a.p, 0, none⟩)) ∧ w'.cell? ⟨vb, 0, none⟩ = some (.slice ro vl1 rc) ∧ w'.cell? ⟨vb, 1, none⟩ = some (.slice no vl2 nc)) (by kernel_rfl) (by kernel_rfl) ⟨c0, v0, v1⟩ ?_
        first | (refine wpRO_free rfl rfl _ (fun w' => by go_simp; exact Gives.mk _ _) (fun K hK => ?_); go_simp; refine hK _ ?_; clear hK K) | (refine wpRO_skipF rfl rfl (fun K hK => ?_); go_simp; refine hK _ ?_; clear hK K)
        first | (refine wpRO_free rfl rfl _ (fun w' => by go_simp; exact Gives.mk _ _) (fun K hK => ?_); go_simp; refine hK _ ?_; clear hK K) | (refine wpRO_skipF rfl rfl (fun K hK => ?_); go_simp; refine hK _ ?_; clear hK K)
        first | (refine wpRO_free rfl rfl _ (fun w' => by go_simp; exact Gives.mk _ _) (fun K hK => ?_); go_simp; refine hK _ ?_; clear hK K) | (refine wpRO_skipF rfl rfl (fun K hK => ?_); go_simp; refine hK _ ?_; clear hK K)
        first | (refine wpRO_pure rfl rfl _ (fun w' hG => by obtain ⟨c0, v0, v1⟩ := hG; exact gives_agg2 rfl (by decide +kernel) rfl (by assumption) (by assumption)) (fun K hK => ?_); go_simp; refine hK _ ?_; clear hK K) | (refine wpRO_pure rfl rfl _ (fun w' hG => by obtain ⟨c0, v0, v1⟩ := hG; go_simp; exact Gives.mk _ _) (fun K hK => ?_); go_simp; refine hK _ ?_; clear hK K) | (refine wpRO_skip rfl rfl (fun K hK => ?_); go_simp; refine hK _ ?_; clear hK K)
        first | (refine wpRO_pure rfl rfl _ (fun w' hG => by obtain ⟨c0, v0, v1⟩ := hG; exact gives_agg2 rfl (by decide +kernel) rfl (by assumption) (by assumption)) (fun K hK => ?_); go_simp; refine hK _ ?_; clear hK K) | (refine wpRO_pure rfl rfl _ (fun w' hG => by obtain ⟨c0, v0, v1⟩ := hG; go_simp; exact Gives.mk _ _) (fun K hK => ?_); go_simp; refine hK _ ?_; clear hK K) | (refine wpRO_skip rfl rfl (fun K hK => ?_); go_simp; refine hK _ ?_; clear hK K)
        refine wpRO_run rfl rfl (fun K hK => ?_); unfold gRun; go_simp
        refine (HVW.out _ _ (M6.out.same ((Keeps.refl (fun _ => False) w6).drew))).mono ?_
        rintro e w7 ⟨v7, rfl, hv7, hk7⟩
        have kk : Keeps (fun _ => False) w6 w7 := (Keeps.refl (fun _ => False) w6).drew.trans hk7
        have M7 := Lib.hid (M6.out.same kk); have HV7 := Lib.hid (HV6.out.keep kk (fun _ _ _ h => h)); have VB7 := Lib.hid (kk.blk VB6.out (fun h => h)); have HN7 := Lib.hid (hv7.rep R.out)
        refine hK _ _ (fun _ => ⟨M7.out.pc.1, VB7.out.cell 0, VB7.out.cell 1⟩) ?_
        clear hK K hv7 hk7 kk c0 c1 pl v0 v1 vl M6 HV6 VB6
        refine wpRO_chg rfl rfl rfl (fun K hK => ?_); unfold gRun; go_simp
        refine (SameView_yes _ _ O1.view _ (HV7.out.rep R.out) HN7.out).mono ?_
        rintro e w8 ⟨rfl, hk8⟩
        have M8 := Lib.hid (M7.out.same hk8); have HV8 := Lib.hid (HV7.out.keep hk8 (fun _ _ _ h => h)); have VB8 := Lib.hid (hk8.blk VB7.out (fun h => h))
        refine hK _ _ ?_
        clear hK K hk8 M7 HV7 VB7 HN7
        refine wpRO_swi (fun _ => True) trivial ?_
        first | (refine wpRO_free rfl rfl _ (fun w' => by go_simp; exact Gives.mk _ _) (fun K hK => ?_); go_simp; refine hK _ ?_; clear hK K) | (refine wpRO_skipF rfl rfl (fun K hK => ?_); go_simp; refine hK _ ?_; clear hK K)
        refine wpRO_fin ?_
        have HIK := Lib.hid (HNX.out _ _ M8.out)
        have v0 := VB8.out.cell 0; have v1 := VB8.out.cell 1; have vl := VB8.out.lt
        simp only [List.getElem?_cons_zero, List.getElem?_cons_succ] at v0 v1
        have okO := R.out.ho.ha; have okP := M8.out.B.H.ok.ha
        have x1 := okO.h1; have x2 := okO.h2; have x3 := okO.h3; have x4 := okO.h4
        have z1 := okP.h1; have z2 := okP.h2; have z3 := okP.h3; have z4 := okP.h4
        rcases SC.out.code with rfl | rfl
        · have y1 := SC.out.young rfl; have y2 := SC.out.le rfl; have y3 := SC.out.size rfl
          rw [y1]
          generalize hou : ((O1.ar.grn - O1.ar.nur : Nat) : Int) = ou at *
          generalize hpu : ((P.ar.grn - P.ar.nur : Nat) : Int) = pu at *
          generalize hoy : ((O1.ar.yng : Nat) : Int) = oy at *
          have hw1 : IntKind.i64.wrap (ou + oy) = ou + oy := IntWalk.i64_in _ (by omega)
          have hsz := Size_c _ O1.view w8 (HV8.out.rep R.out)
          generalize sizeN O1.view.2 = sz at *
          have HSZC := Lib.hid hsz
          have b1 : ou + oy ≤ 10000 := by omega
          have g1 : decide (ou + oy < pu) = false := by simp; omega
          have g2 : decide (pu < sz) = false := by simp; omega
          have b2 : 0 ≤ ou := by omega
          have b3 : 0 ≤ oy := by omega
          clear hou hpu hoy x1 x2 x3 x4 z1 z2 z3 z4 okO okP y1 hsz
          go_wp2_with (refine wpList_agg2g (by kernel_rfl) 72 (.tmp 11) rfl (by kernel_rfl) vb 0 rfl _ _ v0 v1 ?_)
          refine HSZC.out.mono ?_
          rintro e w9 ⟨rfl, hk9⟩
          have HIK9 := Lib.hid (HNX.out _ _ (M8.out.same hk9))
          clear hk9 v0 v1 vl b1 b2 b3 HIK
          go_wp2_with fail
          refine ⟨⟨by kernel_rfl, ?rel⟩, ?measure⟩
          case rel => exact ⟨k + 1, hlt, by go_num, HIK9.out⟩
          case measure => exact meas_lt (by go_num) (by first | rfl | exact E9.out) hlt
        · have y1 := SC.out.same (by decide); have y2 := SC.out.full (by decide)
          subst y1
          generalize hou : ((P.ar.grn - P.ar.nur : Nat) : Int) = ou at *
          generalize hoy : ((P.ar.yng : Nat) : Int) = oy at *
          have hw1 : IntKind.i64.wrap (o - ou) = o - ou := IntWalk.i64_in _ (by omega)
          have g1 : decide (oy ≤ o - ou) = false := by simp; omega
          have e1 : (oy != oy) = false := by simp
          have e2 : (ou != ou) = false := by simp
          have b1 : ou ≤ 10000 := by omega
          have b2 : 0 ≤ ou := by omega
          have b3 : 0 ≤ oy := by omega
          clear hou hoy x1 x2 x3 x4 z1 z2 z3 z4 okO okP v0 v1 vl
          go_wp2_with fail
          refine ⟨⟨by kernel_rfl, ?rel⟩, ?measure⟩
          case rel => exact ⟨k + 1, hlt, by go_num, HIK.out⟩
          case measure => exact meas_lt (by go_num) (by first | rfl | exact E9.out) hlt
    · obtain rfl : k = m := by omega
      obtain ⟨h1, O1, W1, M1, -⟩ := HI.out
      have K1 := Lib.hid M1.K
      clear HI M1
      go_wp2_with fail
      go_ret
      exact ⟨rfl, K1.out⟩

theorem MinorStrong_walk (n o : Int) (lo : Option Addr) (lc m : Nat) (xs : List Int) (w : World) (_ : R64 n) (_ : R64 o) (h0 : Rd w lo (xs.map (Value.int .i64))) (hx : xs.length = m * 4) (_ : m ≤ maxLen) (hb : ∀ x ∈ xs, R64 x) :
    Calls Try.prog 11 #[.int .i64 n, .int .i64 o, .slice lo m lc] w fun e w' => e = .returned (.bool true) ∧ Below w.heap.size w w' :=
  (MinorStrong_raw n o lo lc m xs w h0 hx hb).mono fun e w' ⟨h1, h2⟩ => ⟨h1, h2.below (fun _ _ h => h)⟩
end

end Go.Proofs.Ytjifdalflepcoab
