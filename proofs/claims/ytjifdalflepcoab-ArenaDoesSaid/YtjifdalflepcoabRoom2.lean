/-
  The reference's Room in memory: Make, NewRoom, RoomFault.
-/
import Derived.Test.YtjifdalflepcoabRoom
namespace Go.Proofs.Ytjifdalflepcoab
open Go.RowKit
set_option linter.unusedVariables false
set_option linter.unusedSimpArgs false

section
variable {p g : Nat} {A : Ar}

theorem RoomTo.refl {w w' : World} (h : RoomAt w p g A) (k : Keeps (fun _ => False) w w') : RoomTo w p g w' A := ⟨h.keep k (fun h => h) (fun h => h), k.self⟩

set_option maxHeartbeats 4000000 in
set_option maxRecDepth 100000 in
theorem RMake_c (k f : Int) (w : World) (h : RoomAt w p g A) (hf : R64 f) :
    Calls Try.prog 24 #[.pointer (some ⟨p, 0, none⟩), .int .i64 k, .int .i64 f] w fun e w' => e = .returned (.int .i64 (A.make k f).1) ∧ RoomTo w p g w' (A.make k f).2 := by
  have H := Lib.hid h
  have o1 := h.ok.h1; have o2 := h.ok.h2; have o3 := h.ok.h3; have o4 := h.ok.h4
  have HOK := Lib.hid (h.ok.make k f)
  have HF := Lib.hid hf
  obtain ⟨c0, c1, c2, -⟩ := h.cells
  have pl := h.hp.lt; have gl := h.hg.lt; have p2 := h.hp.free 2
  have hne := h.ne; have hne2 := h.ne.symm
  clear h hf
  cases hfit : fitsW k f
  · have HE := Lib.hid (Ar.make_no (A := A) (k := k) (f := f) (by rw [hfit]; simp))
    have hcode := (headW_code hfit).2
    clear hfit
    go_enter Try.func24, Try.ntmps24
    go_wp2_with fail
    refine (HeadOf_c k f _ HF.out.1 HF.out.2).mono ?_
    rintro e w1 ⟨rfl, rfl⟩
    go_wp2_with fail
    refine wp_region_ro (.free 0 (.free 1 (.free 2 (.free 3 (.free 4 (.free 5 (.free 6 (.free 7 (.free 9 (.free 10 (.free 11 (.pure 8 (.pure 12 (.free 13 (.free 14 (.free 15 (.fin))))))))))))))))) [] (fun _ => True) (by kernel_rfl) (by kernel_rfl) trivial ?_
    first | (refine wpRO_free rfl rfl _ (fun w' => by go_simp; exact Gives.mk _ _) (fun K hK => ?_); go_simp; refine hK _ ?_; clear hK K) | (refine wpRO_skipF rfl rfl (fun K hK => ?_); go_simp; refine hK _ ?_; clear hK K)
    first | (refine wpRO_free rfl rfl _ (fun w' => by go_simp; exact Gives.mk _ _) (fun K hK => ?_); go_simp; refine hK _ ?_; clear hK K) | (refine wpRO_skipF rfl rfl (fun K hK => ?_); go_simp; refine hK _ ?_; clear hK K)
    first | (refine wpRO_free rfl rfl _ (fun w' => by go_simp; exact Gives.mk _ _) (fun K hK => ?_); go_simp; refine hK _ ?_; clear hK K) | (refine wpRO_skipF rfl rfl (fun K hK => ?_); go_simp; refine hK _ ?_; clear hK K)
    first | (refine wpRO_free rfl rfl _ (fun w' => by go_simp; exact Gives.mk _ _) (fun K hK => ?_); go_simp; refine hK _ ?_; clear hK K) | (refine wpRO_skipF rfl rfl (fun K hK => ?_); go_simp; refine hK _ ?_; clear hK K)
    first | (refine wpRO_free rfl rfl _ (fun w' => by go_simp; exact Gives.mk _ _) (fun K hK => ?_); go_simp; refine hK _ ?_; clear hK K) | (refine wpRO_skipF rfl rfl (fun K hK => ?_); go_simp; refine hK _ ?_; clear hK K)
    first | (refine wpRO_free rfl rfl _ (fun w' => by go_simp; exact Gives.mk _ _) (fun K hK => ?_); go_simp; refine hK _ ?_; clear hK K) | (refine wpRO_skipF rfl rfl (fun K hK => ?_); go_simp; refine hK _ ?_; clear hK K)
    first | (refine wpRO_free rfl rfl _ (fun w' => by go_simp; exact Gives.mk _ _) (fun K hK => ?_); go_simp; refine hK _ ?_; clear hK K) | (refine wpRO_skipF rfl rfl (fun K hK => ?_); go_simp; refine hK _ ?_; clear hK K)
    first | (refine wpRO_free rfl rfl _ (fun w' => by go_simp; exact Gives.mk _ _) (fun K hK => ?_); go_simp; refine hK _ ?_; clear hK K) | (refine wpRO_skipF rfl rfl (fun K hK => ?_); go_simp; refine hK _ ?_; clear hK K)
    first | (refine wpRO_free rfl rfl _ (fun w' => by go_simp; exact Gives.mk _ _) (fun K hK => ?_); go_simp; refine hK _ ?_; clear hK K) | (refine wpRO_skipF rfl rfl (fun K hK => ?_); go_simp; refine hK _ ?_; clear hK K)
    first | (refine wpRO_free rfl rfl _ (fun w' => by go_simp; exact Gives.mk _ _) (fun K hK => ?_); go_simp; refine hK _ ?_; clear hK K) | (refine wpRO_skipF rfl rfl (fun K hK => ?_); go_simp; refine hK _ ?_; clear hK K)
    first | (refine wpRO_free rfl rfl _ (fun w' => by go_simp; exact Gives.mk _ _) (fun K hK => ?_); go_simp; refine hK _ ?_; clear hK K) | (refine wpRO_skipF rfl rfl (fun K hK => ?_); go_simp; refine hK _ ?_; clear hK K)
    first | (refine wpRO_pure rfl rfl _ (fun w' hG => by obtain _ := hG; exact gives_agg2 rfl (by decide +kernel) rfl (by assumption) (by assumption)) (fun K hK => ?_); go_simp; refine hK _ ?_; clear hK K) | (refine wpRO_pure rfl rfl _ (fun w' hG => by obtain _ := hG; go_simp; exact Gives.mk _ _) (fun K hK => ?_); go_simp; refine hK _ ?_; clear hK K) | (refine wpRO_skip rfl rfl (fun K hK => ?_); go_simp; refine hK _ ?_; clear hK K)
    first | (refine wpRO_pure rfl rfl _ (fun w' hG => by obtain _ := hG; exact gives_agg2 rfl (by decide +kernel) rfl (by assumption) (by assumption)) (fun K hK => ?_); go_simp; refine hK _ ?_; clear hK K) | (refine wpRO_pure rfl rfl _ (fun w' hG => by obtain _ := hG; go_simp; exact Gives.mk _ _) (fun K hK => ?_); go_simp; refine hK _ ?_; clear hK K) | (refine wpRO_skip rfl rfl (fun K hK => ?_); go_simp; refine hK _ ?_; clear hK K)
    first | (refine wpRO_free rfl rfl _ (fun w' => by go_simp; exact Gives.mk _ _) (fun K hK => ?_); go_simp; refine hK _ ?_; clear hK K) | (refine wpRO_skipF rfl rfl (fun K hK => ?_); go_simp; refine hK _ ?_; clear hK K)
    first | (refine wpRO_free rfl rfl _ (fun w' => by go_simp; exact Gives.mk _ _) (fun K hK => ?_); go_simp; refine hK _ ?_; clear hK K) | (refine wpRO_skipF rfl rfl (fun K hK => ?_); go_simp; refine hK _ ?_; clear hK K)
    first | (refine wpRO_free rfl rfl _ (fun w' => by go_simp; exact Gives.mk _ _) (fun K hK => ?_); go_simp; refine hK _ ?_; clear hK K) | (refine wpRO_skipF rfl rfl (fun K hK => ?_); go_simp; refine hK _ ?_; clear hK K)
    refine wpRO_fin ?_
    go_wp2_with fail
    go_ret
    rw [HE.out]
    exact ⟨rfl, RoomTo.refl H.out ((Keeps.refl _ _).drew)⟩
  · have hs := fitsW_spec hfit
    obtain ⟨n, rfl⟩ : ∃ n : Nat, f = n := ⟨f.toNat, by omega⟩
    have hn : n ≤ 12 := by omega
    have HH := Lib.hid (headW_fits hfit)
    have hw1 : IntKind.i64.wrap ((n : Int) + 1) = (n : Int) + 1 := IntWalk.i64_in _ (by omega)
    have hw2 : IntKind.i64.wrap ((A.nur : Int) - A.yng) = (A.nur : Int) - A.yng := IntWalk.i64_in _ (by omega)
    by_cases hroom : 1 + (n : Int) ≤ (A.nur : Int) - A.yng
    · have HE := Lib.hid (show A.make k n = ((A.yng : Int), { A with yng := A.yng + (1 + (n : Int)).toNat, ws := lay A.ws A.yng (thingW k n) }) from if_pos ⟨hfit, hroom⟩)
      have hk1 := hs.1; have hk2 := hs.2.1
      have hd : decide ((A.nur : Int) - A.yng < (n : Int) + 1) = false := by simp; omega
      have c4 := H.out.word A.yng (by omega)
      have f4 := H.out.hg.free A.yng
      have hlt : (A.yng : Int) < A.ws.length := by omega
      clear hfit hs
      go_enter Try.func24, Try.ntmps24
      go_wp2_with fail
      refine (HeadOf_c k n _ HF.out.1 HF.out.2).mono ?_
      rintro e w1 ⟨rfl, rfl⟩
      rw [HH.out]
      go_wp2_with fail
      refine wp_region_ro (.free 0 (.free 1 (.free 2 (.free 3 (.free 4 (.free 5 (.free 6 (.free 7 (.free 9 (.free 10 (.free 11 (.pure 8 (.pure 12 (.free 13 (.free 14 (.free 15 (.fin))))))))))))))))) [] (fun w' => w'.cell? ⟨p, 1, none⟩ = some (.int .i64 A.nur) ∧ w'.cell? ⟨p, 2, none⟩ = some (.int .i64 A.yng)) (by kernel_rfl) (by kernel_rfl) ⟨c1, c2⟩ ?_
      first | (refine wpRO_free rfl rfl _ (fun w' => by go_simp; exact Gives.mk _ _) (fun K hK => ?_); go_simp; refine hK _ ?_; clear hK K) | (refine wpRO_skipF rfl rfl (fun K hK => ?_); go_simp; refine hK _ ?_; clear hK K)
      first | (refine wpRO_free rfl rfl _ (fun w' => by go_simp; exact Gives.mk _ _) (fun K hK => ?_); go_simp; refine hK _ ?_; clear hK K) | (refine wpRO_skipF rfl rfl (fun K hK => ?_); go_simp; refine hK _ ?_; clear hK K)
      first | (refine wpRO_free rfl rfl _ (fun w' => by go_simp; exact Gives.mk _ _) (fun K hK => ?_); go_simp; refine hK _ ?_; clear hK K) | (refine wpRO_skipF rfl rfl (fun K hK => ?_); go_simp; refine hK _ ?_; clear hK K)
      first | (refine wpRO_free rfl rfl _ (fun w' => by go_simp; exact Gives.mk _ _) (fun K hK => ?_); go_simp; refine hK _ ?_; clear hK K) | (refine wpRO_skipF rfl rfl (fun K hK => ?_); go_simp; refine hK _ ?_; clear hK K)
      first | (refine wpRO_free rfl rfl _ (fun w' => by go_simp; exact Gives.mk _ _) (fun K hK => ?_); go_simp; refine hK _ ?_; clear hK K) | (refine wpRO_skipF rfl rfl (fun K hK => ?_); go_simp; refine hK _ ?_; clear hK K)
      first | (refine wpRO_free rfl rfl _ (fun w' => by go_simp; exact Gives.mk _ _) (fun K hK => ?_); go_simp; refine hK _ ?_; clear hK K) | (refine wpRO_skipF rfl rfl (fun K hK => ?_); go_simp; refine hK _ ?_; clear hK K)
      first | (refine wpRO_free rfl rfl _ (fun w' => by go_simp; exact Gives.mk _ _) (fun K hK => ?_); go_simp; refine hK _ ?_; clear hK K) | (refine wpRO_skipF rfl rfl (fun K hK => ?_); go_simp; refine hK _ ?_; clear hK K)
      first | (refine wpRO_free rfl rfl _ (fun w' => by go_simp; exact Gives.mk _ _) (fun K hK => ?_); go_simp; refine hK _ ?_; clear hK K) | (refine wpRO_skipF rfl rfl (fun K hK => ?_); go_simp; refine hK _ ?_; clear hK K)
      first | (refine wpRO_free rfl rfl _ (fun w' => by go_simp; exact Gives.mk _ _) (fun K hK => ?_); go_simp; refine hK _ ?_; clear hK K) | (refine wpRO_skipF rfl rfl (fun K hK => ?_); go_simp; refine hK _ ?_; clear hK K)
      first | (refine wpRO_free rfl rfl _ (fun w' => by go_simp; exact Gives.mk _ _) (fun K hK => ?_); go_simp; refine hK _ ?_; clear hK K) | (refine wpRO_skipF rfl rfl (fun K hK => ?_); go_simp; refine hK _ ?_; clear hK K)
      first | (refine wpRO_free rfl rfl _ (fun w' => by go_simp; exact Gives.mk _ _) (fun K hK => ?_); go_simp; refine hK _ ?_; clear hK K) | (refine wpRO_skipF rfl rfl (fun K hK => ?_); go_simp; refine hK _ ?_; clear hK K)
      first | (refine wpRO_pure rfl rfl _ (fun w' hG => by obtain ⟨g0, g1⟩ := hG; exact gives_agg2 rfl (by decide +kernel) rfl (by assumption) (by assumption)) (fun K hK => ?_); go_simp; refine hK _ ?_; clear hK K) | (refine wpRO_pure rfl rfl _ (fun w' hG => by obtain ⟨g0, g1⟩ := hG; go_simp; exact Gives.mk _ _) (fun K hK => ?_); go_simp; refine hK _ ?_; clear hK K) | (refine wpRO_skip rfl rfl (fun K hK => ?_); go_simp; refine hK _ ?_; clear hK K)
      first | (refine wpRO_pure rfl rfl _ (fun w' hG => by obtain ⟨g0, g1⟩ := hG; exact gives_agg2 rfl (by decide +kernel) rfl (by assumption) (by assumption)) (fun K hK => ?_); go_simp; refine hK _ ?_; clear hK K) | (refine wpRO_pure rfl rfl _ (fun w' hG => by obtain ⟨g0, g1⟩ := hG; go_simp; exact Gives.mk _ _) (fun K hK => ?_); go_simp; refine hK _ ?_; clear hK K) | (refine wpRO_skip rfl rfl (fun K hK => ?_); go_simp; refine hK _ ?_; clear hK K)
      first | (refine wpRO_free rfl rfl _ (fun w' => by go_simp; exact Gives.mk _ _) (fun K hK => ?_); go_simp; refine hK _ ?_; clear hK K) | (refine wpRO_skipF rfl rfl (fun K hK => ?_); go_simp; refine hK _ ?_; clear hK K)
      first | (refine wpRO_free rfl rfl _ (fun w' => by go_simp; exact Gives.mk _ _) (fun K hK => ?_); go_simp; refine hK _ ?_; clear hK K) | (refine wpRO_skipF rfl rfl (fun K hK => ?_); go_simp; refine hK _ ?_; clear hK K)
      first | (refine wpRO_free rfl rfl _ (fun w' => by go_simp; exact Gives.mk _ _) (fun K hK => ?_); go_simp; refine hK _ ?_; clear hK K) | (refine wpRO_skipF rfl rfl (fun K hK => ?_); go_simp; refine hK _ ?_; clear hK K)
      refine wpRO_fin ?_
      clear hw1 hw2
      have HD := Lib.hid (Keeps.refl (fun _ => False) w).drew
      go_upto_region 7 with fail
      have hb0 := ((H.out.hg.setOther (a := ⟨p, 2, none⟩) hne2 (.int .i64 ((A.yng : Int) + ((n : Int) + 1)))).setSame A.yng (.int .i64 (16 * (n : Int) + k))).drew
      have hp0 := ((H.out.hp.setSame 2 (.int .i64 ((A.yng : Int) + ((n : Int) + 1)))).setOther (a := ⟨g, A.yng, none⟩) hne (.int .i64 (16 * (n : Int) + k))).drew
      have hk0 := (((Keeps.refl (fun b => b = p ∨ b = g) w).setCell (p := ⟨p, 2, none⟩) (.inl (.inl rfl)) (.int .i64 ((A.yng : Int) + ((n : Int) + 1)))).setCell (p := ⟨g, A.yng, none⟩) (.inl (.inr rfl)) (.int .i64 (16 * (n : Int) + k))).drew
      rw [← List.map_set, lay_one (by omega)] at hb0
      simp only [List.set_cons_zero, List.set_cons_succ] at hp0
      generalize (((w.setCell ⟨p, 2, none⟩ (.int .i64 ((A.yng : Int) + ((n : Int) + 1)))).setCell ⟨g, A.yng, none⟩ (.int .i64 (16 * (n : Int) + k))).drew) = w3 at *
      have HB0 := Lib.hid hb0; have HP0 := Lib.hid hp0; have HK0 := Lib.hid hk0
      clear hb0 hp0 hk0 c0 c1 c2 c4 f4 p2 HD
      go_wp2_with fail
      go_loopw [10] (fun i wr => ∃ j : Nat, j ≤ n ∧ i = .int .i64 j ∧ Blk wr g ((lay A.ws A.yng ((16 * (n : Int) + k) :: List.replicate j 2)).map (Value.int .i64)) 2 ∧ Keeps (fun b => b = g) w3 wr) (fun i _ => n - (intOf i).toNat)
      case atStart => exact ⟨0, Nat.zero_le _, rfl, HB0.out, Keeps.refl _ _⟩
      case round =>
        obtain ⟨j, hj, rfl, hb, hk⟩ := hrel
        have HB := Lib.hid hb; have HK := Lib.hid hk
        have hpr := hk.blk HP0.out hne
        have c0 := hpr.cell 0
        have pl := hpr.lt; have gl := hb.lt
        simp only [List.getElem?_cons_zero] at c0
        have HPR := Lib.hid hpr
        by_cases hlt2 : j < n
        · have f4 := hb.free (A.yng + 1 + j)
          have c4 : ∃ v, wr.cell? ⟨g, A.yng + 1 + j, none⟩ = some v := by
            have hl : (lay A.ws A.yng ((16 * (n : Int) + k) :: List.replicate j 2)).length = A.ws.length := lay_length (by simp; omega)
            rw [hb.cell, List.getElem?_map, List.getElem?_eq_getElem (by rw [hl]; omega)]
            exact ⟨_, rfl⟩
          obtain ⟨v4, c4⟩ := c4
          have hix : (A.yng : Int) + 1 + j < A.ws.length := by omega
          have hw3 : ((A.yng : Int) + 1 + j).toNat = A.yng + 1 + j := by omega
          clear hb hk hpr
          go_wp2_with fail
          have hset := lay_set (l := A.ws) (i := A.yng) (j := j) (h := 16 * (n : Int) + k) (by omega)
          have hb2 : Blk (wr.setCell ⟨g, A.yng + 1 + j, none⟩ (.int .i64 2)) g ((lay A.ws A.yng ((16 * (n : Int) + k) :: List.replicate (j + 1) 2)).map (Value.int .i64)) 2 := by
            rw [← hset, List.map_set]; exact HB.out.setSame _ _
          have HB2 := Lib.hid hb2
          have HK2 := Lib.hid (HK.out.setCell (p := ⟨g, A.yng + 1 + j, none⟩) (.inl rfl) (.int .i64 2))
          clear hset hb2 c0 c4 f4
          go_wp2_with fail
          go_roundw
          case rel => exact ⟨j + 1, by omega, by go_num, HB2.out, HK2.out⟩
          case measure => simp [intOf]; omega
        · obtain rfl : j = n := by omega
          clear hb hk hpr
          go_wp2_with fail
          go_ret
          have hok := HOK.out
          rw [HE.out] at hok ⊢
          have hl : (lay A.ws A.yng (thingW k j)).length = A.ws.length := lay_length (by rw [thingW_length (by omega)]; omega)
          refine ⟨rfl, ⟨?_, HB.out, hok⟩, HK0.out.trans (HK.out.mono fun _ _ h => .inr h)⟩
          have := HPR.out
          dsimp only
          rw [hl, show ((A.yng + (1 + (j : Int)).toNat : Nat) : Int) = (A.yng : Int) + ((j : Int) + 1) by omega]; exact this
    · have HE := Lib.hid (Ar.make_no (A := A) (k := k) (f := n) (fun h => hroom h.2))
      have hd : decide ((A.nur : Int) - A.yng < (n : Int) + 1) = true := by simp; omega
      clear hfit hs hroom
      go_enter Try.func24, Try.ntmps24
      go_wp2_with fail
      refine (HeadOf_c k n _ HF.out.1 HF.out.2).mono ?_
      rintro e w1 ⟨rfl, rfl⟩
      rw [HH.out]
      go_wp2_with fail
      refine wp_region_ro (.free 0 (.free 1 (.free 2 (.free 3 (.free 4 (.free 5 (.free 6 (.free 7 (.free 9 (.free 10 (.free 11 (.pure 8 (.pure 12 (.free 13 (.free 14 (.free 15 (.fin))))))))))))))))) [] (fun w' => w'.cell? ⟨p, 1, none⟩ = some (.int .i64 A.nur) ∧ w'.cell? ⟨p, 2, none⟩ = some (.int .i64 A.yng)) (by kernel_rfl) (by kernel_rfl) ⟨c1, c2⟩ ?_
      first | (refine wpRO_free rfl rfl _ (fun w' => by go_simp; exact Gives.mk _ _) (fun K hK => ?_); go_simp; refine hK _ ?_; clear hK K) | (refine wpRO_skipF rfl rfl (fun K hK => ?_); go_simp; refine hK _ ?_; clear hK K)
      first | (refine wpRO_free rfl rfl _ (fun w' => by go_simp; exact Gives.mk _ _) (fun K hK => ?_); go_simp; refine hK _ ?_; clear hK K) | (refine wpRO_skipF rfl rfl (fun K hK => ?_); go_simp; refine hK _ ?_; clear hK K)
      first | (refine wpRO_free rfl rfl _ (fun w' => by go_simp; exact Gives.mk _ _) (fun K hK => ?_); go_simp; refine hK _ ?_; clear hK K) | (refine wpRO_skipF rfl rfl (fun K hK => ?_); go_simp; refine hK _ ?_; clear hK K)
      first | (refine wpRO_free rfl rfl _ (fun w' => by go_simp; exact Gives.mk _ _) (fun K hK => ?_); go_simp; refine hK _ ?_; clear hK K) | (refine wpRO_skipF rfl rfl (fun K hK => ?_); go_simp; refine hK _ ?_; clear hK K)
      first | (refine wpRO_free rfl rfl _ (fun w' => by go_simp; exact Gives.mk _ _) (fun K hK => ?_); go_simp; refine hK _ ?_; clear hK K) | (refine wpRO_skipF rfl rfl (fun K hK => ?_); go_simp; refine hK _ ?_; clear hK K)
      first | (refine wpRO_free rfl rfl _ (fun w' => by go_simp; exact Gives.mk _ _) (fun K hK => ?_); go_simp; refine hK _ ?_; clear hK K) | (refine wpRO_skipF rfl rfl (fun K hK => ?_); go_simp; refine hK _ ?_; clear hK K)
      first | (refine wpRO_free rfl rfl _ (fun w' => by go_simp; exact Gives.mk _ _) (fun K hK => ?_); go_simp; refine hK _ ?_; clear hK K) | (refine wpRO_skipF rfl rfl (fun K hK => ?_); go_simp; refine hK _ ?_; clear hK K)
      first | (refine wpRO_free rfl rfl _ (fun w' => by go_simp; exact Gives.mk _ _) (fun K hK => ?_); go_simp; refine hK _ ?_; clear hK K) | (refine wpRO_skipF rfl rfl (fun K hK => ?_); go_simp; refine hK _ ?_; clear hK K)
      first | (refine wpRO_free rfl rfl _ (fun w' => by go_simp; exact Gives.mk _ _) (fun K hK => ?_); go_simp; refine hK _ ?_; clear hK K) | (refine wpRO_skipF rfl rfl (fun K hK => ?_); go_simp; refine hK _ ?_; clear hK K)
      first | (refine wpRO_free rfl rfl _ (fun w' => by go_simp; exact Gives.mk _ _) (fun K hK => ?_); go_simp; refine hK _ ?_; clear hK K) | (refine wpRO_skipF rfl rfl (fun K hK => ?_); go_simp; refine hK _ ?_; clear hK K)
      first | (refine wpRO_free rfl rfl _ (fun w' => by go_simp; exact Gives.mk _ _) (fun K hK => ?_); go_simp; refine hK _ ?_; clear hK K) | (refine wpRO_skipF rfl rfl (fun K hK => ?_); go_simp; refine hK _ ?_; clear hK K)
      first | (refine wpRO_pure rfl rfl _ (fun w' hG => by obtain ⟨g0, g1⟩ := hG; exact gives_agg2 rfl (by decide +kernel) rfl (by assumption) (by assumption)) (fun K hK => ?_); go_simp; refine hK _ ?_; clear hK K) | (refine wpRO_pure rfl rfl _ (fun w' hG => by obtain ⟨g0, g1⟩ := hG; go_simp; exact Gives.mk _ _) (fun K hK => ?_); go_simp; refine hK _ ?_; clear hK K) | (refine wpRO_skip rfl rfl (fun K hK => ?_); go_simp; refine hK _ ?_; clear hK K)
      first | (refine wpRO_pure rfl rfl _ (fun w' hG => by obtain ⟨g0, g1⟩ := hG; exact gives_agg2 rfl (by decide +kernel) rfl (by assumption) (by assumption)) (fun K hK => ?_); go_simp; refine hK _ ?_; clear hK K) | (refine wpRO_pure rfl rfl _ (fun w' hG => by obtain ⟨g0, g1⟩ := hG; go_simp; exact Gives.mk _ _) (fun K hK => ?_); go_simp; refine hK _ ?_; clear hK K) | (refine wpRO_skip rfl rfl (fun K hK => ?_); go_simp; refine hK _ ?_; clear hK K)
      first | (refine wpRO_free rfl rfl _ (fun w' => by go_simp; exact Gives.mk _ _) (fun K hK => ?_); go_simp; refine hK _ ?_; clear hK K) | (refine wpRO_skipF rfl rfl (fun K hK => ?_); go_simp; refine hK _ ?_; clear hK K)
      first | (refine wpRO_free rfl rfl _ (fun w' => by go_simp; exact Gives.mk _ _) (fun K hK => ?_); go_simp; refine hK _ ?_; clear hK K) | (refine wpRO_skipF rfl rfl (fun K hK => ?_); go_simp; refine hK _ ?_; clear hK K)
      first | (refine wpRO_free rfl rfl _ (fun w' => by go_simp; exact Gives.mk _ _) (fun K hK => ?_); go_simp; refine hK _ ?_; clear hK K) | (refine wpRO_skipF rfl rfl (fun K hK => ?_); go_simp; refine hK _ ?_; clear hK K)
      refine wpRO_fin ?_
      clear hw1 hw2
      go_wp2_with fail
      go_ret
      rw [HE.out]
      exact ⟨rfl, RoomTo.refl H.out ((Keeps.refl _ _).drew)⟩
end

/-- A new Room is returned. -/
def RoomRet (w : World) (n o : Int) (e : Ending) (w' : World) : Prop :=
  ∃ p g, e = .returned (.pointer (some ⟨p, 0, none⟩)) ∧ RoomAt w' p g (Ar.new n o) ∧ Keeps (fun _ => False) w w' ∧ w.heap.size ≤ p ∧ w.heap.size ≤ g

set_option maxHeartbeats 2000000 in
set_option maxRecDepth 100000 in
theorem NewRoom_c (n o : Int) (w : World) (h : Ar.fits n o = true) :
    Calls Try.prog 21 #[.int .i64 n, .int .i64 o] w fun e w' => RoomRet w n o e w' := by
  have HOK := Lib.hid (Ar.new_ok h)
  simp [Ar.fits] at h
  obtain ⟨⟨⟨h1, h2⟩, h3⟩, h4⟩ := h
  obtain ⟨a, rfl⟩ : ∃ a : Nat, n = a := ⟨n.toNat, by omega⟩
  obtain ⟨b, rfl⟩ : ∃ b : Nat, o = b := ⟨o.toNat, by omega⟩
  obtain ⟨i0, hi, hz0, hz1, hz2⟩ := info_parts info_i64
  have hmk := fun (wx : World) => run_make_one (P := Try.prog) wx 22 2 i0 (.int .i64 0) Try.underlying22 hi hz0 rfl hz1 (a + b) (by rw [hz2]; omega) (by omega)
  have hcast : ((a + b : Nat) : Int) = (a : Int) + (b : Int) := by omega
  simp only [hcast] at hmk
  have HNEW := Lib.hid (show Ar.new a b = ⟨List.replicate (a + b) 0, a, 0, a⟩ by unfold Ar.new; congr 1)
  clear hi hz0 hz1 hz2 hcast
  go_enter Try.func21, Try.ntmps21
  go_wp2_with fail
  go_ret
  refine ⟨w.heap.size + 1, w.heap.size, rfl, ?_, ((Keeps.refl _ _).alloc _).alloc _, by omega, by omega⟩
  have hok := HOK.out
  rw [HNEW.out] at hok ⊢
  refine ⟨?_, ?_, hok⟩
  · refine Blk.newAt _ (by simp) ?_
    simp
  · refine (Blk.newAt _ (by simp) ?_).alloc _
    simp

/-- The fault of New. -/
def faultM (n o : Int) : Int × Int := if Ar.fits n o = true then (0, 0) else (1, -1)

set_option maxHeartbeats 2000000 in
set_option maxRecDepth 100000 in
theorem F_c (a b : Int) (w : World) :
    Calls Try.prog 81 #[.int .i64 a, .int .i64 b] w fun e w' => e = .returned (.agg #[.int .i64 a, .int .i64 b]) ∧ Keeps (fun _ => False) w w' := by
  go_enter Try.func81, Try.ntmps81
  go_wp2_with fail
  exact bodyPost_ret (v := .agg #[.int .i64 a, .int .i64 b]) (by simp [results, Try.results81, go_sem]) rfl ⟨rfl, (Keeps.refl _ _).alloc _⟩

set_option maxHeartbeats 2000000 in
set_option maxRecDepth 100000 in
theorem RoomFault_c (n o : Int) (w : World) :
    Calls Try.prog 20 #[.int .i64 n, .int .i64 o] w fun e w' => e = .returned (.agg #[.int .i64 (faultM n o).1, .int .i64 (faultM n o).2]) ∧ Keeps (fun _ => False) w w' := by
  cases hf : Ar.fits n o
  · have HE := Lib.hid (show faultM n o = (1, -1) by unfold faultM; rw [hf]; rfl)
    have hc : n < 16 ∨ 256 < n ∨ o < 0 ∨ 1024 < o := by
      by_cases h1 : 16 ≤ n
      · by_cases h2 : n ≤ 256
        · by_cases h3 : 0 ≤ o
          · by_cases h4 : o ≤ 1024
            · simp [Ar.fits, h1, h2, h3, h4] at hf
            · omega
          · omega
        · omega
      · omega
    clear hf
    by_cases c1 : n < 16
    · have d1 : decide (n < 16) = true := by simpa using c1
      clear hc
      go_enter Try.func20, Try.ntmps20
      go_wp2_with fail
      refine (F_c 1 (-1) _).mono ?_
      rintro e w1 ⟨rfl, hk⟩
      have hka := (Keeps.refl (fun _ => False) w).alloc (.cells #[.int .i64 0, .int .i64 0] 26)
      have hb := hk.blk (show Blk (w.alloc (.cells #[.int .i64 0, .int .i64 0] 26)) w.heap.size [.int .i64 0, .int .i64 0] 26 from Blk.newAt _ rfl rfl) (fun h => h)
      have HKA := Lib.hid (hka.trans hk); have HB := Lib.hid hb
      have l0 := hb.cell 0; have l1 := hb.cell 1; have ll := hb.lt; have f0 := hb.free 0; have f1 := hb.free 1
      simp only [List.getElem?_cons_zero, List.getElem?_cons_succ] at l0 l1
      clear hk hka hb
      go_wp2_with fail
      have hb3 := (HB.out.setSame 0 (.int .i64 1)).setSame 1 (.int .i64 (-1))
      have x0 := hb3.cell 0; have x1 := hb3.cell 1
      simp only [List.set_cons_zero, List.set_cons_succ, List.getElem?_cons_zero, List.getElem?_cons_succ] at x0 x1
      refine bodyPost_ret (v := .agg #[.int .i64 1, .int .i64 (-1)]) (by simp [results, Try.results20, go_sem, x0, x1]) rfl ⟨by rw [HE.out], ?_⟩
      exact (HKA.out.setCell (p := ⟨w.heap.size, 0, none⟩) (.inr (Nat.le_refl _)) _).setCell (p := ⟨w.heap.size, 1, none⟩) (.inr (Nat.le_refl _)) _
    have d1 : decide (n < 16) = false := by simpa using c1
    by_cases c2 : 256 < n
    · have d2 : decide (256 < n) = true := by simpa using c2
      clear hc
      go_enter Try.func20, Try.ntmps20
      go_wp2_with fail
      refine (F_c 1 (-1) _).mono ?_
      rintro e w1 ⟨rfl, hk⟩
      have hka := (Keeps.refl (fun _ => False) w).alloc (.cells #[.int .i64 0, .int .i64 0] 26)
      have hb := hk.blk (show Blk (w.alloc (.cells #[.int .i64 0, .int .i64 0] 26)) w.heap.size [.int .i64 0, .int .i64 0] 26 from Blk.newAt _ rfl rfl) (fun h => h)
      have HKA := Lib.hid (hka.trans hk); have HB := Lib.hid hb
      have l0 := hb.cell 0; have l1 := hb.cell 1; have ll := hb.lt; have f0 := hb.free 0; have f1 := hb.free 1
      simp only [List.getElem?_cons_zero, List.getElem?_cons_succ] at l0 l1
      clear hk hka hb
      go_wp2_with fail
      have hb3 := (HB.out.setSame 0 (.int .i64 1)).setSame 1 (.int .i64 (-1))
      have x0 := hb3.cell 0; have x1 := hb3.cell 1
      simp only [List.set_cons_zero, List.set_cons_succ, List.getElem?_cons_zero, List.getElem?_cons_succ] at x0 x1
      refine bodyPost_ret (v := .agg #[.int .i64 1, .int .i64 (-1)]) (by simp [results, Try.results20, go_sem, x0, x1]) rfl ⟨by rw [HE.out], ?_⟩
      exact (HKA.out.setCell (p := ⟨w.heap.size, 0, none⟩) (.inr (Nat.le_refl _)) _).setCell (p := ⟨w.heap.size, 1, none⟩) (.inr (Nat.le_refl _)) _
    have d2 : decide (256 < n) = false := by simpa using c2
    by_cases c3 : o < 0
    · have d3 : decide (o < 0) = true := by simpa using c3
      clear hc
      go_enter Try.func20, Try.ntmps20
      go_wp2_with fail
      refine (F_c 1 (-1) _).mono ?_
      rintro e w1 ⟨rfl, hk⟩
      have hka := (Keeps.refl (fun _ => False) w).alloc (.cells #[.int .i64 0, .int .i64 0] 26)
      have hb := hk.blk (show Blk (w.alloc (.cells #[.int .i64 0, .int .i64 0] 26)) w.heap.size [.int .i64 0, .int .i64 0] 26 from Blk.newAt _ rfl rfl) (fun h => h)
      have HKA := Lib.hid (hka.trans hk); have HB := Lib.hid hb
      have l0 := hb.cell 0; have l1 := hb.cell 1; have ll := hb.lt; have f0 := hb.free 0; have f1 := hb.free 1
      simp only [List.getElem?_cons_zero, List.getElem?_cons_succ] at l0 l1
      clear hk hka hb
      go_wp2_with fail
      have hb3 := (HB.out.setSame 0 (.int .i64 1)).setSame 1 (.int .i64 (-1))
      have x0 := hb3.cell 0; have x1 := hb3.cell 1
      simp only [List.set_cons_zero, List.set_cons_succ, List.getElem?_cons_zero, List.getElem?_cons_succ] at x0 x1
      refine bodyPost_ret (v := .agg #[.int .i64 1, .int .i64 (-1)]) (by simp [results, Try.results20, go_sem, x0, x1]) rfl ⟨by rw [HE.out], ?_⟩
      exact (HKA.out.setCell (p := ⟨w.heap.size, 0, none⟩) (.inr (Nat.le_refl _)) _).setCell (p := ⟨w.heap.size, 1, none⟩) (.inr (Nat.le_refl _)) _
    have d3 : decide (o < 0) = false := by simpa using c3
    have d4 : decide (1024 < o) = true := by simp; omega
    clear hc
    go_enter Try.func20, Try.ntmps20
    go_wp2_with fail
    refine (F_c 1 (-1) _).mono ?_
    rintro e w1 ⟨rfl, hk⟩
    have hka := (Keeps.refl (fun _ => False) w).alloc (.cells #[.int .i64 0, .int .i64 0] 26)
    have hb := hk.blk (show Blk (w.alloc (.cells #[.int .i64 0, .int .i64 0] 26)) w.heap.size [.int .i64 0, .int .i64 0] 26 from Blk.newAt _ rfl rfl) (fun h => h)
    have HKA := Lib.hid (hka.trans hk); have HB := Lib.hid hb
    have l0 := hb.cell 0; have l1 := hb.cell 1; have ll := hb.lt; have f0 := hb.free 0; have f1 := hb.free 1
    simp only [List.getElem?_cons_zero, List.getElem?_cons_succ] at l0 l1
    clear hk hka hb
    go_wp2_with fail
    have hb3 := (HB.out.setSame 0 (.int .i64 1)).setSame 1 (.int .i64 (-1))
    have x0 := hb3.cell 0; have x1 := hb3.cell 1
    simp only [List.set_cons_zero, List.set_cons_succ, List.getElem?_cons_zero, List.getElem?_cons_succ] at x0 x1
    refine bodyPost_ret (v := .agg #[.int .i64 1, .int .i64 (-1)]) (by simp [results, Try.results20, go_sem, x0, x1]) rfl ⟨by rw [HE.out], ?_⟩
    exact (HKA.out.setCell (p := ⟨w.heap.size, 0, none⟩) (.inr (Nat.le_refl _)) _).setCell (p := ⟨w.heap.size, 1, none⟩) (.inr (Nat.le_refl _)) _
  · have HE := Lib.hid (show faultM n o = (0, 0) by unfold faultM; rw [hf]; rfl)
    simp [Ar.fits] at hf
    have d1 : decide (n < 16) = false := by simp; omega
    have d2 : decide (256 < n) = false := by simp; omega
    have d3 : decide (o < 0) = false := by simp; omega
    have d4 : decide (1024 < o) = false := by simp; omega
    clear hf
    go_enter Try.func20, Try.ntmps20
    go_wp2_with fail
    refine bodyPost_ret (v := .agg #[.int .i64 0, .int .i64 0]) (by simp [results, Try.results20, go_sem]) rfl ⟨?_, (Keeps.refl _ _).alloc _⟩
    rw [HE.out]

end Go.Proofs.Ytjifdalflepcoab
