/-
  ArenaFull (law02.go): a thing is refused just if it has no room, or there is no such thing; then nothing changes; Clear and Cut make room again.
-/
import Derived.Test.YtjifdalflepcoaaArenaBegun
import Derived.Test.YtjifdalflepcoaaLongs
import Derived.Test.YtjifdalflepcoaaWordR
import Derived.Test.YtjifdalflepcoaaArenaIn
namespace Go.Proofs.Ytjifdalflepcoaa
open Go.RowKit
set_option linter.unusedVariables false
set_option linter.unusedSimpArgs false

set_option maxHeartbeats 8000000 in
set_option maxRecDepth 100000 in
theorem ArenaFull_raw (n o : Int) (lo : Option Addr) (lc m : Nat) (xs : List Int) (kd f : Int) (w : World) (hf : R64 f) (h0 : Rd w lo (xs.map (Value.int .i64))) (hx : xs.length = m * 4) (hb : ∀ x ∈ xs, R64 x) :
    Calls Try.prog 12 #[.int .i64 n, .int .i64 o, .slice lo m lc, .int .i64 kd, .int .i64 f] w fun e w' => e = .returned (.bool true) ∧ Keeps (fun _ => False) w w' := by
  have H0 := Lib.hid h0; have HX := Lib.hid hx; have HBD := Lib.hid hb; have HF := Lib.hid hf
  clear h0 hx hb hf
  go_enter Try.func12, Try.ntmps12
  go_wp2_with fail
  refine (arenaBegun_c _).mono ?_
  rintro e w1 ⟨rfl, hk1⟩
  have HK1 := Lib.hid hk1; clear hk1
  by_cases hm : 150 < m
  · go_wp2_with fail
    go_ret
    exact ⟨rfl, HK1.out⟩
  cases hfit : Ar.fits n o
  · go_wp2_with fail
    refine (ANew_no n o _ hfit).mono ?_
    rintro e w2 ⟨rfl, hk2⟩
    go_wp2_with fail
    go_ret
    exact ⟨rfl, (HK1.out.trans hk2).alloc _⟩
  have HN := Lib.hid (show ∃ a b : Nat, (Ar.new n o).nur = a ∧ (Ar.new n o).ws.length = a + b ∧ 16 ≤ a by
    simp [Ar.fits] at hfit
    exact ⟨n.toNat, o.toNat, rfl, by simp [Ar.new]; omega, by omega⟩)
  go_wp2_with fail
  refine (ANew_yes n o _ hfit).mono ?_
  rintro e w2 ⟨p, g, rfl, hA, hk2, hp, hg⟩
  obtain ⟨a, b, hna, hlb, ha16⟩ := HN.out
  have hka := (Keeps.refl (fun _ => False) w2).alloc (.cells #[.int .i64 0, .int .i64 0] 85)
  have HI := Lib.hid (show ArIn w (w2.alloc (.cells #[.int .i64 0, .int .i64 0] 85)) p g (Ar.new n o) a b from
    ⟨hA.keep hka (fun h => h) (fun h => h), hna, hlb, (HK1.out.trans hk2).trans hka, Nat.le_trans HK1.out.size hp, Nat.le_trans HK1.out.size hg⟩)
  clear hA hk2 hp hg hka hna hlb HN HK1 hfit
  go_wp2_with fail
  generalize w2.alloc (.cells #[.int .i64 0, .int .i64 0] 85) = w3 at *
  go_loopw [13] (fun i wr => ∃ (k : Nat) (A : Ar), k ≤ m ∧ i = .int .i64 k ∧ ArIn w wr p g A a b) (fun i _ => m - (intOf i).toNat)
  case atStart => exact ⟨0, _, Nat.zero_le _, rfl, HI.out⟩
  case round =>
    clear HI
    obtain ⟨k, A, hk, rfl, hI⟩ := hrel
    have GI := Lib.hid hI; clear hI
    by_cases hlt : k < m
    · have hrd := H0.out.keep GI.out.hK (fun _ _ _ h => h)
      obtain ⟨gs, os, rfl, hgl, d0⟩ := hrd.num (k * 4) (by rw [HX.out]; omega)
      obtain ⟨_, _, e', _, d1⟩ := hrd.num (k * 4 + 1) (by rw [HX.out]; omega)
      cases e'
      obtain ⟨_, _, e', _, d2⟩ := hrd.num (k * 4 + 2) (by rw [HX.out]; omega)
      cases e'
      rw [← Nat.add_assoc] at d1 d2
      have hy : R64 (xs.getD (k * 4 + 2) 0) := HBD.out _ (by rw [List.getD_eq_getElem?_getD, List.getElem?_eq_getElem (by rw [HX.out]; omega)]; exact List.getElem_mem _)
      have HY := Lib.hid hy
      generalize xs.getD (k * 4) 0 = d at *
      generalize xs.getD (k * 4 + 1) 0 = x at *
      generalize xs.getD (k * 4 + 2) 0 = y at *
      clear hrd hy
      by_cases hd0 : d = 0
      · subst hd0
        go_wp2_with fail
        refine wp_region_ro (.free 0 (.free 1 (.free 2 (.free 3 (.free 4 (.free 6 (.free 7 (.free 8 (.free 9 (.pure 5 (.pure 10 (.run 11 (.swi [] (.fin)))))))))))))) [11] (fun w' => w'.cell? ⟨gs, os + k * 4 + 1, none⟩ = some (.int .i64 x) ∧ w'.cell? ⟨gs, os + k * 4 + 2, none⟩ = some (.int .i64 y)) (by kernel_rfl) (by kernel_rfl) ⟨d1, d2⟩ ?_
        first | (refine wpRO_free rfl rfl _ (fun w' => by go_simp; exact Gives.mk _ _) (fun K hK => ?_); go_simp; refine hK _ ?_; clear hK K) | (refine wpRO_skipF rfl rfl (fun K hK => ?_); go_simp; refine hK _ ?_; clear hK K)
        first | (refine wpRO_free rfl rfl _ (fun w' => by go_simp; exact Gives.mk _ _) (fun K hK => ?_); go_simp; refine hK _ ?_; clear hK K) | (refine wpRO_skipF rfl rfl (fun K hK => ?_); go_simp; refine hK _ ?_; clear hK K)
        first | (refine wpRO_free rfl rfl _ (fun w' => by go_simp; exact Gives.mk _ _) (fun K hK => ?_); go_simp; refine hK _ ?_; clear hK K) | (refine wpRO_skipF rfl rfl (fun K hK => ?_); go_simp; refine hK _ ?_; clear hK K)
        first | (refine wpRO_free rfl rfl _ (fun w' => by go_simp; exact Gives.mk _ _) (fun K hK => ?_); go_simp; refine hK _ ?_; clear hK K) | (refine wpRO_skipF rfl rfl (fun K hK => ?_); go_simp; refine hK _ ?_; clear hK K)
        first | (refine wpRO_free rfl rfl _ (fun w' => by go_simp; exact Gives.mk _ _) (fun K hK => ?_); go_simp; refine hK _ ?_; clear hK K) | (refine wpRO_skipF rfl rfl (fun K hK => ?_); go_simp; refine hK _ ?_; clear hK K)
        first | (refine wpRO_free rfl rfl _ (fun w' => by go_simp; exact Gives.mk _ _) (fun K hK => ?_); go_simp; refine hK _ ?_; clear hK K) | (refine wpRO_skipF rfl rfl (fun K hK => ?_); go_simp; refine hK _ ?_; clear hK K)
        first | (refine wpRO_free rfl rfl _ (fun w' => by go_simp; exact Gives.mk _ _) (fun K hK => ?_); go_simp; refine hK _ ?_; clear hK K) | (refine wpRO_skipF rfl rfl (fun K hK => ?_); go_simp; refine hK _ ?_; clear hK K)
        first | (refine wpRO_free rfl rfl _ (fun w' => by go_simp; exact Gives.mk _ _) (fun K hK => ?_); go_simp; refine hK _ ?_; clear hK K) | (refine wpRO_skipF rfl rfl (fun K hK => ?_); go_simp; refine hK _ ?_; clear hK K)
        first | (refine wpRO_free rfl rfl _ (fun w' => by go_simp; exact Gives.mk _ _) (fun K hK => ?_); go_simp; refine hK _ ?_; clear hK K) | (refine wpRO_skipF rfl rfl (fun K hK => ?_); go_simp; refine hK _ ?_; clear hK K)
        first | (refine wpRO_pure rfl rfl _ (fun w' hG => by obtain ⟨g0, g1⟩ := hG; exact gives_agg2 rfl (by decide +kernel) rfl (by assumption) (by assumption)) (fun K hK => ?_); go_simp; refine hK _ ?_; clear hK K) | (refine wpRO_pure rfl rfl _ (fun w' hG => by obtain ⟨g0, g1⟩ := hG; go_simp; exact Gives.mk _ _) (fun K hK => ?_); go_simp; refine hK _ ?_; clear hK K) | (refine wpRO_skip rfl rfl (fun K hK => ?_); go_simp; refine hK _ ?_; clear hK K)
        first | (refine wpRO_pure rfl rfl _ (fun w' hG => by obtain ⟨g0, g1⟩ := hG; exact gives_agg2 rfl (by decide +kernel) rfl (by assumption) (by assumption)) (fun K hK => ?_); go_simp; refine hK _ ?_; clear hK K) | (refine wpRO_pure rfl rfl _ (fun w' hG => by obtain ⟨g0, g1⟩ := hG; go_simp; exact Gives.mk _ _) (fun K hK => ?_); go_simp; refine hK _ ?_; clear hK K) | (refine wpRO_skip rfl rfl (fun K hK => ?_); go_simp; refine hK _ ?_; clear hK K)
        refine wpRO_chg rfl rfl rfl (fun K hK => ?_); unfold gRun; go_simp
        refine (Make_c x y _ (GI.out.keep (Keeps.refl _ wr).drew).hA HY.out).mono ?_
        rintro e w4 ⟨rfl, ht⟩
        have HI4 := Lib.hid ((GI.out.keep (Keeps.refl _ wr).drew).make ht)
        refine hK _ _ ?_
        clear hK K ht d0 d1 d2 hgl
        refine wpRO_swi (fun _ => True) trivial (wpRO_fin ?_)
        go_wp2_with fail
        go_roundw
        case rel => exact ⟨k + 1, _, by omega, by go_num, HI4.out⟩
        case measure => simp [intOf]; omega
      have e0 : (d == 0) = false := by simpa using hd0
      by_cases hd1 : d = 1
      · subst hd1
        clear hd0
        go_wp2_with fail
        refine (ACopy_c x _ GI.out.hA).mono ?_
        rintro e w4 ⟨rfl, ht⟩
        have HI4 := Lib.hid (GI.out.copy ht)
        clear ht d0 d1 d2 hgl
        go_wp2_with fail
        go_roundw
        case rel => exact ⟨k + 1, _, by omega, by go_num, HI4.out⟩
        case measure => simp [intOf]; omega
      have e1 : (d == 1) = false := by simpa using hd1
      clear hd0 hd1
      go_wp2_with fail
      go_roundw
      case rel => exact ⟨k + 1, _, by omega, by go_num, GI.out⟩
      case measure => simp [intOf]; omega
    · obtain rfl : k = m := by omega
      have hok := GI.out.hA.ok
      have o1 := hok.h1; have o2 := hok.h2; have o3 := hok.h3; have o4 := hok.h4
      have hna := GI.out.hn
      go_wp2_with fail
      refine (Free_c _ GI.out.hA).mono ?_
      rintro e w4 ⟨rfl, hk4⟩
      have HI4 := Lib.hid (GI.out.keep hk4); clear hk4
      go_wp2_with fail
      refine (Words_c _ HI4.out.hA).mono ?_
      rintro e w5 ⟨uo, uc, rfl, hs5, hk5, ho5⟩
      have HI5 := Lib.hid (HI4.out.keep hk5); have HS5 := Lib.hid hs5
      have HO5 : Hid (∀ k, ownB (.slice uo A.ws.length uc) k → k ≠ p ∧ k ≠ g) := fun k hk => by have h1 := ho5 k hk; have h2 := HI4.out.hA.hp.lt; have h3 := HI4.out.hA.hg.lt; constructor <;> omega
      clear hs5 hk5 HI4 GI ho5
      go_wp2_with fail
      refine (Make_c kd f _ HI5.out.hA HF.out).mono ?_
      rintro e w6 ⟨rfl, ht⟩
      have HI6 := Lib.hid (HI5.out.make ht)
      have HS6 := Lib.hid (HS5.out.keep ht.k (fun k hk h => by have := HO5.out k hk; omega))
      clear ht HS5 HO5
      go_wp2_with fail
      refine (Free_c _ HI6.out.hA).mono ?_
      rintro e w7 ⟨rfl, hk7⟩
      have HI7 := Lib.hid (HI6.out.keep hk7); have HS7 := Lib.hid (HS6.out.keep hk7 (fun _ _ h => h))
      clear hk7 HI6 HS6
      by_cases hc : fitsW kd f = true ∧ 1 + f ≤ (A.nur : Int) - A.yng
      · obtain ⟨q, rfl⟩ : ∃ q : Nat, f = q := ⟨f.toNat, by have := fitsW_spec hc.1; omega⟩
        have hq := (fitsW_spec hc.1).2.2.2
        have HAG := Lib.hid (Ar.again hok hc (by omega))
        have HH := Lib.hid (headW_fits hc.1)
        have HE := Lib.hid (Ar.make_yes hc)
        have hgn := Lib.hid (Ar.make_grn (A := A) (k := kd) (f := q))
        have hnn := Lib.hid (Ar.make_nur (A := A) (k := kd) (f := q))
        have hln := Lib.hid (Ar.make_len (k := kd) (f := q) hok)
        have hyn := Lib.hid (show (A.make kd q).2.yng = A.yng + (1 + (q : Int)).toNat by rw [Ar.make_yes hc])
        have e1 := Lib.hid (show (A.make kd q).1 = (A.yng : Int) by rw [Ar.make_yes hc])
        rw [e1.out, hnn.out, hyn.out]
        have hL : ((A.nur - (A.yng + (1 + (q : Int)).toNat) : Nat) : Int) = ((A.nur - A.yng : Nat) : Int) - q - 1 := by omega
        rw [hL]
        have hr1 := hc.2
        clear hc hL
        go_wp2_with fail
        refine (Fits_c kd q _ HF.out.1 HF.out.2).mono ?_
        rintro e w8 ⟨rfl, rfl⟩
        rw [HH.out]
        dsimp only
        go_wp2_with fail
        refine (ACopy_c A.yng _ HI7.out.hA).mono ?_
        rintro e w8 ⟨rfl, ht⟩
        rw [HAG.out.1]
        have HI8 := Lib.hid (HI7.out.copy ht); clear ht HI7
        by_cases hroom : 1 + (q : Int) ≤ (A.ws.length : Int) - A.grn
        · rw [if_pos hroom]
          have d1 : decide ((A.grn : Int) < 0) = false := by simp
          have d2 : decide (((A.ws.length - A.grn : Nat) : Int) < (q : Int) + 1) = false := by simp only [decide_eq_false_iff_not]; omega
          clear hroom hr1
          go_wp2_with fail
          refine (AClear_c _ HI8.out.hA).mono ?_
          rintro e w9 ⟨rfl, ht⟩
          have HI9 := Lib.hid (HI8.out.to ht rfl rfl); clear ht HI8
          go_wp2_with fail
          refine (ACut_c 0 _ HI9.out.hA (by have h1 := HI9.out.hA.ok.h2; have h2 := HI9.out.hA.ok.h3; omega)).mono ?_
          rintro e w10 ⟨rfl, ht⟩
          have HI10 := Lib.hid (HI9.out.to ht rfl rfl); clear ht HI9
          obtain ⟨D, hD⟩ : ∃ D, D = (((A.make kd q).2.copy A.yng).2.clear).cut 0 := ⟨_, rfl⟩
          have HD1 := Lib.hid (show D.yng = 0 by rw [hD]; rfl)
          have HD2 := Lib.hid (show D.grn - D.nur = 0 by rw [hD]; exact Nat.sub_self _)
          have HD3 := Lib.hid HAG.out.2
          rw [← hD] at HI10 HD3
          clear hD HAG
          go_wp2_with fail
          refine (Used_c _ HI10.out.hA).mono ?_
          rintro e w11 ⟨rfl, hk11⟩
          rw [HD1.out, HD2.out]
          have HI11 := Lib.hid (HI10.out.keep hk11); clear hk11 HI10
          go_wp2_with fail
          refine (Make_c kd q _ HI11.out.hA HF.out).mono ?_
          rintro e w12 ⟨rfl, ht⟩
          rw [HD3.out.1]
          have HI12 := Lib.hid (HI11.out.make ht); clear ht HI11
          go_wp2_with fail
          refine (Load_c (1 + (q : Int)) _ HI12.out.hA).mono ?_
          rintro e w13 ⟨rfl, rfl⟩
          rw [HD3.out.2]
          go_wp2_with fail
          go_ret
          exact ⟨rfl, HI12.out.hK⟩
        · rw [if_neg hroom]
          have d1 : decide ((A.grn : Int) < 0) = false := by simp
          have d2 : decide (((A.ws.length - A.grn : Nat) : Int) < (q : Int) + 1) = true := by simp only [decide_eq_true_eq]; omega
          clear hroom hr1
          go_wp2_with fail
          refine (AClear_c _ HI8.out.hA).mono ?_
          rintro e w9 ⟨rfl, ht⟩
          have HI9 := Lib.hid (HI8.out.to ht rfl rfl); clear ht HI8
          go_wp2_with fail
          refine (ACut_c 0 _ HI9.out.hA (by have h1 := HI9.out.hA.ok.h2; have h2 := HI9.out.hA.ok.h3; omega)).mono ?_
          rintro e w10 ⟨rfl, ht⟩
          have HI10 := Lib.hid (HI9.out.to ht rfl rfl); clear ht HI9
          obtain ⟨D, hD⟩ : ∃ D, D = (((A.make kd q).2.copy A.yng).2.clear).cut 0 := ⟨_, rfl⟩
          have HD1 := Lib.hid (show D.yng = 0 by rw [hD]; rfl)
          have HD2 := Lib.hid (show D.grn - D.nur = 0 by rw [hD]; exact Nat.sub_self _)
          have HD3 := Lib.hid HAG.out.2
          rw [← hD] at HI10 HD3
          clear hD HAG
          go_wp2_with fail
          refine (Used_c _ HI10.out.hA).mono ?_
          rintro e w11 ⟨rfl, hk11⟩
          rw [HD1.out, HD2.out]
          have HI11 := Lib.hid (HI10.out.keep hk11); clear hk11 HI10
          go_wp2_with fail
          refine (Make_c kd q _ HI11.out.hA HF.out).mono ?_
          rintro e w12 ⟨rfl, ht⟩
          rw [HD3.out.1]
          have HI12 := Lib.hid (HI11.out.make ht); clear ht HI11
          go_wp2_with fail
          refine (Load_c (1 + (q : Int)) _ HI12.out.hA).mono ?_
          rintro e w13 ⟨rfl, rfl⟩
          rw [HD3.out.2]
          go_wp2_with fail
          go_ret
          exact ⟨rfl, HI12.out.hK⟩
      · have HE := Lib.hid (Ar.make_no hc)
        rw [HE.out]
        dsimp only
        rw [HE.out] at HI7
        dsimp only at HI7
        cases hfw : fitsW kd f
        · have hcode := (headW_code hfw).2
          clear hc hfw
          go_wp2_with fail
          refine (Fits_c kd f _ HF.out.1 HF.out.2).mono ?_
          rintro e w8 ⟨rfl, rfl⟩
          go_wp2_with fail
          refine (Words_c _ HI7.out.hA).mono ?_
          rintro e w8 ⟨vo, vc, rfl, hs8, hk8, -⟩
          have HI8 := Lib.hid (HI7.out.keep hk8)
          obtain ⟨_, _, e', hr1, -, -⟩ := (HS7.out.keep hk8 (fun _ _ h => h)).rd
          cases e'
          obtain ⟨_, _, e', hr2, -, -⟩ := hs8.rd
          cases e'
          go_wp2_with fail
          refine (SameLongs_yes _ _ _ _ A.ws _ hr1 hr2 (by omega)).mono ?_
          rintro e w9 ⟨rfl, hk9⟩
          go_wp2_with fail
          go_ret
          exact ⟨rfl, HI8.out.hK.trans hk9⟩
        · have hs := fitsW_spec hfw
          obtain ⟨q, rfl⟩ : ∃ q : Nat, f = q := ⟨f.toNat, by omega⟩
          have hq := hs.2.2.2
          have HH := Lib.hid (headW_fits hfw)
          have hnr : ¬ (1 + (q : Int) ≤ (A.nur : Int) - A.yng) := fun h => hc ⟨hfw, h⟩
          have hd : decide (((A.nur - A.yng : Nat) : Int) < (q : Int) + 1) = true := by simp only [decide_eq_true_eq]; omega
          clear hc hfw hs
          go_wp2_with fail
          refine (Fits_c kd q _ HF.out.1 HF.out.2).mono ?_
          rintro e w8 ⟨rfl, rfl⟩
          rw [HH.out]
          dsimp only
          go_wp2_with fail
          refine (Words_c _ HI7.out.hA).mono ?_
          rintro e w8 ⟨vo, vc, rfl, hs8, hk8, -⟩
          have HI8 := Lib.hid (HI7.out.keep hk8)
          obtain ⟨_, _, e', hr1, -, -⟩ := (HS7.out.keep hk8 (fun _ _ h => h)).rd
          cases e'
          obtain ⟨_, _, e', hr2, -, -⟩ := hs8.rd
          cases e'
          go_wp2_with fail
          refine (SameLongs_yes _ _ _ _ A.ws _ hr1 hr2 (by omega)).mono ?_
          rintro e w9 ⟨rfl, hk9⟩
          go_wp2_with fail
          go_ret
          exact ⟨rfl, HI8.out.hK.trans hk9⟩

theorem ArenaFull_walk (n o : Int) (lo : Option Addr) (lc m : Nat) (xs : List Int) (kd f : Int) (w : World) (_ : R64 n) (_ : R64 o) (h0 : Rd w lo (xs.map (Value.int .i64))) (hx : xs.length = m * 4) (_ : m ≤ maxLen) (hb : ∀ x ∈ xs, R64 x) (_ : R64 kd) (hf : R64 f) :
    Calls Try.prog 12 #[.int .i64 n, .int .i64 o, .slice lo m lc, .int .i64 kd, .int .i64 f] w fun e w' => e = .returned (.bool true) ∧ Below w.heap.size w w' :=
  (ArenaFull_raw n o lo lc m xs kd f w hf h0 hx hb).mono fun e w' h => ⟨h.1, h.2.below (fun _ _ h => h)⟩

end Go.Proofs.Ytjifdalflepcoaa
