/-
  SideOnce (law04.go): nothing comes twice, and nothing is made up.
-/
import Derived.Test.YtjifdalflepcoaaSideOnceM
namespace Go.Proofs.Ytjifdalflepcoaa
open Go.RowKit
set_option linter.unusedVariables false
set_option linter.unusedSimpArgs false

set_option maxHeartbeats 4000000 in
set_option maxRecDepth 100000 in
theorem SideOnce_raw (ro : Option Addr) (cr : Nat) (regs : List (Int × Int)) (ao : Option Addr) (ca : Nat) (wait : List (Int × Int)) (bo : Option Addr) (cb : Nat) (alive : List Int) (co : Option Addr) (cc : Nat) (leads : List (Int × Int)) (w : World)
    (h0 : Rd w ro (entV regs)) (l0 : regs.length ≤ maxLen) (h1 : Rd w ao (entV wait)) (l1 : wait.length ≤ maxLen) (h2 : Rd w bo (alive.map (Value.int .i64))) (l2 : alive.length ≤ maxLen) (h3 : Rd w co (pairV leads)) (l3 : leads.length ≤ maxLen) :
    Calls Try.prog 6 #[.slice ro regs.length cr, .slice ao wait.length ca, .slice bo alive.length cb, .slice co leads.length cc] w fun e w' => e = .returned (.bool true) ∧ Keeps (fun _ => False) w w' := by
  have H0 := Lib.hid h0; have H1 := Lib.hid h1; have H2 := Lib.hid h2; have H3 := Lib.hid h3; have L0 := Lib.hid l0; have L1 := Lib.hid l1; have L2 := Lib.hid l2; have L3 := Lib.hid l3
  clear h0 h1 h2 h3 l0 l1 l2 l3
  go_enter Try.func6, Try.ntmps6
  go_wp2_with fail
  refine (sideBegun_c _).mono ?_
  rintro e w1 ⟨rfl, hk1⟩
  have HK1 := Lib.hid hk1; clear hk1
  go_wp2_with fail
  refine (great_c ro ao bo co _ _ _ _ cr ca cb cc _ L0.out L1.out L2.out L3.out).mono ?_
  rintro e w2 ⟨rfl, rfl⟩
  cases hg : greatB regs.length wait.length alive.length leads.length
  · obtain ⟨n0, n1, n2, n3⟩ := greatB_no hg
    clear hg
    go_wp2_with fail
    refine (small_c ro ao bo co cr ca cb cc _ _ regs wait _ (H0.out.keep HK1.out (fun _ _ _ h => h)) (H1.out.keep HK1.out (fun _ _ _ h => h)) (by omega) (by omega)).mono ?_
    rintro e w2 ⟨rfl, rfl⟩
    cases hs : (regs.all smallB && wait.all smallB)
    · go_wp2_with fail
      go_ret
      exact ⟨rfl, HK1.out⟩
    · have HS := Lib.hid hs; clear hs
      obtain ⟨ie, hie, hez0, hez1, hez2⟩ := info_parts info_entry
      have Hi := Lib.hid hie; have Hz0 := Lib.hid hez0; have Hz1 := Lib.hid hez1; have Hz2 := Lib.hid hez2; clear hie hez0 hez1 hez2
      obtain ⟨ii, hi, hz0, hz1, hz2⟩ := info_parts info_int64'
      have Ii := Lib.hid hi; have Iz0 := Lib.hid hz0; have Iz1 := Lib.hid hz1; have Iz2 := Lib.hid hz2; clear hi hz0 hz1 hz2
      obtain ⟨ip, hi, hz0, hz1, hz2⟩ := info_parts info_pair
      have Pi := Lib.hid hi; have Pz0 := Lib.hid hz0; have Pz1 := Lib.hid hz1; have Pz2 := Lib.hid hz2; clear hi hz0 hz1 hz2
      go_wp2_with fail
      have hp := Blk.newAt (w := w1) (b := w1.heap.size) (T := 37) #[nilS, nilS] rfl rfl
      have hka := (Keeps.refl (fun _ => False) w1).alloc (.cells #[nilS, nilS] 37)
      have hpw : w.heap.size ≤ w1.heap.size := HK1.out.size
      have hz : (w1.alloc (.cells #[nilS, nilS] 37)).heap.size = w1.heap.size + 1 := by simp
      generalize hw2 : w1.alloc (.cells #[nilS, nilS] 37) = w2 at *
      clear hw2
      have HK2 := Lib.hid (HK1.out.trans hka); have HP := Lib.hid hp; have HZ := Lib.hid hz
      clear hka hp hz HK1
      generalize w1.heap.size = p at *
      have g0 := HP.out.cell 0; have g1 := HP.out.cell 1
      simp only [List.getElem?_cons_zero, List.getElem?_cons_succ] at g0 g1
      refine wp_region_ro (.free 0 (.free 1 (.free 2 (.free 3 (.free 4 (.free 6 (.free 8 (.free 9 (.free 10 (.free 12 (.pure 5 (.pure 11 (.run 7 (.run 13 (.swi [16, 17, 18, 19] (.free 14 (.free 15 (.run 16 (.swi [19] (.free 17 (.free 18 (.run 19 (.swi [] (.fin)))))))))))))))))))))))) [13, 14, 15, 16, 17, 18, 19] (fun w' => w'.cell? ⟨p, 0, none⟩ = some nilS ∧ w'.cell? ⟨p, 1, none⟩ = some nilS) (by kernel_rfl) (by kernel_rfl) ⟨g0, g1⟩ ?_
      first | (refine wpRO_free rfl rfl _ (fun w' => by go_simp; exact Gives.mk _ _) (fun K hK => ?_); go_simp; refine hK _ ?_; clear hK K) | (refine wpRO_skipF rfl rfl (fun K hK => ?_); go_simp; refine hK _ ?_; clear hK K)
      first | (refine wpRO_free rfl rfl _ (fun w' => by go_simp; exact Gives.mk _ _) (fun K hK => ?_); go_simp; refine hK _ ?_; clear hK K) | (refine wpRO_skipF rfl rfl (fun K hK => ?_); go_simp; refine hK _ ?_; clear hK K)
      first | (refine wpRO_free rfl rfl _ (fun w' => by go_simp; exact Gives.mk _ _) (fun K hK => ?_); go_simp; refine hK _ ?_; clear hK K) | (refine wpRO_skipF rfl rfl (fun K hK => ?_); go_simp; refine hK _ ?_; clear hK K)
      first | (refine wpRO_free rfl rfl _ (fun w' => by go_simp; exact Gives.mk _ _) (fun K hK => ?_); go_simp; refine hK _ ?_; clear hK K) | (refine wpRO_skipF rfl rfl (fun K hK => ?_); go_simp; refine hK _ ?_; clear hK K)
      first | (refine wpRO_free rfl rfl _ (fun w' => by go_simp; exact Gives.mk _ _) (fun K hK => ?_); go_simp; refine hK _ ?_; clear hK K) | (refine wpRO_skipF rfl rfl (fun K hK => ?_); go_simp; refine hK _ ?_; clear hK K)
      first | (refine wpRO_free rfl rfl _ (fun w' => by go_simp; exact Gives.mk _ _) (fun K hK => ?_); go_simp; refine hK _ ?_; clear hK K) | (refine wpRO_skipF rfl rfl (fun K hK => ?_); go_simp; refine hK _ ?_; clear hK K)
      first | (refine wpRO_free rfl rfl _ (fun w' => by go_simp; exact Gives.mk _ _) (fun K hK => ?_); go_simp; refine hK _ ?_; clear hK K) | (refine wpRO_skipF rfl rfl (fun K hK => ?_); go_simp; refine hK _ ?_; clear hK K)
      first | (refine wpRO_free rfl rfl _ (fun w' => by go_simp; exact Gives.mk _ _) (fun K hK => ?_); go_simp; refine hK _ ?_; clear hK K) | (refine wpRO_skipF rfl rfl (fun K hK => ?_); go_simp; refine hK _ ?_; clear hK K)
      first | (refine wpRO_free rfl rfl _ (fun w' => by go_simp; exact Gives.mk _ _) (fun K hK => ?_); go_simp; refine hK _ ?_; clear hK K) | (refine wpRO_skipF rfl rfl (fun K hK => ?_); go_simp; refine hK _ ?_; clear hK K)
      first | (refine wpRO_free rfl rfl _ (fun w' => by go_simp; exact Gives.mk _ _) (fun K hK => ?_); go_simp; refine hK _ ?_; clear hK K) | (refine wpRO_skipF rfl rfl (fun K hK => ?_); go_simp; refine hK _ ?_; clear hK K)
      first | (refine wpRO_pure rfl rfl _ (fun w' hG => by obtain ⟨g0, g1⟩ := hG; exact gives_agg2 rfl (by decide +kernel) rfl (by assumption) (by assumption)) (fun K hK => ?_); go_simp; refine hK _ ?_; clear hK K) | (refine wpRO_pure rfl rfl _ (fun w' hG => by obtain ⟨g0, g1⟩ := hG; go_simp; exact Gives.mk _ _) (fun K hK => ?_); go_simp; refine hK _ ?_; clear hK K) | (refine wpRO_skip rfl rfl (fun K hK => ?_); go_simp; refine hK _ ?_; clear hK K)
      first | (refine wpRO_pure rfl rfl _ (fun w' hG => by obtain ⟨g0, g1⟩ := hG; exact gives_agg2 rfl (by decide +kernel) rfl (by assumption) (by assumption)) (fun K hK => ?_); go_simp; refine hK _ ?_; clear hK K) | (refine wpRO_pure rfl rfl _ (fun w' hG => by obtain ⟨g0, g1⟩ := hG; go_simp; exact Gives.mk _ _) (fun K hK => ?_); go_simp; refine hK _ ?_; clear hK K) | (refine wpRO_skip rfl rfl (fun K hK => ?_); go_simp; refine hK _ ?_; clear hK K)
      refine wpRO_run rfl rfl (fun K hK => ?_)
      refine gRun_appR (.tmp 40) (.tmp 41) 31 rfl 40 ie (.agg #[.int .i64 0, .int .i64 0]) 2 16 Try.underlying31 Hi.out Hz0.out Hz1.out Hz2.out rfl (by decide) _ 0 [] rfl (Sl.nil _ _ _) ro regs.length cr (entV regs) rfl (entV_length regs) (H0.out.keep (HK2.out.drew) (fun _ _ _ h => h)) (entV_one regs) (by unfold maxLen; omega) (by omega) ?_
      intro v3 w3 hs3 hk3 ho3
      rw [Nat.zero_add] at hs3
      have k3 := hk3.mono (T := fun _ => False) fun k _ h => own_nil h
      refine hK _ _ (fun _ => ⟨(k3.blk HP.out (fun h => h)).cell 0, (k3.blk HP.out (fun h => h)).cell 1⟩) ?_
      clear hK K
      have HK3 := Lib.hid (HK2.out.drew.trans k3)
      have HS3 := Lib.hid hs3
      have HO3 : Hid (∀ k, ownB v3 k → p + 1 ≤ k) := fun k hk => by
        rcases ho3 k hk with h | h
        · exact (own_nil h).elim
        · rw [← HZ.out]; exact h
      have HP3 := Lib.hid (k3.blk HP.out (fun h => h))
      clear k3 hs3 hk3 ho3
      refine wpRO_chg rfl rfl rfl (fun K hK => ?_)
      refine gRun_appR (.tmp 46) (.tmp 47) 31 rfl 40 ie (.agg #[.int .i64 0, .int .i64 0]) 2 16 Try.underlying31 Hi.out Hz0.out Hz1.out Hz2.out rfl (by decide) _ 0 [] rfl (Sl.nil _ _ _) ao wait.length ca (entV wait) rfl (entV_length wait) (H1.out.keep HK3.out (fun _ _ _ h => h)) (entV_one wait) (by unfold maxLen; omega) (by omega) ?_
      intro v4 w4 hs4 hk4 ho4
      rw [Nat.zero_add] at hs4
      have k4 := hk4.mono (T := fun _ => False) fun k _ h => own_nil h
      refine hK _ _ ?_
      clear hK K
      have HK4 := Lib.hid (HK3.out.trans k4)
      have HS4 := Lib.hid hs4
      have HS34 := Lib.hid (HS3.out.keep k4 (fun _ _ h => h))
      have HP4 := Lib.hid (k4.blk HP3.out (fun h => h))
      have HO4 : Hid (∀ k, ownB v4 k → p + 1 ≤ k ∧ ¬ ownB v3 k) := fun k hk => by
        rcases ho4 k hk with h | h
        · exact (own_nil h).elim
        · refine ⟨?_, fun h6 => ?_⟩
          · have := HP3.out.lt; omega
          · have := (HS3.out.own h6).1; omega
      clear k4 hs4 hk4 ho4
      obtain ⟨vo3, vc3, rfl, -, -, -⟩ := HS3.out.rd
      obtain ⟨vo4, vc4, rfl, -, -, -⟩ := HS4.out.rd
      have x0 := HP4.out.cell 0; have x1 := HP4.out.cell 1; have f0 := HP4.out.free 0; have f1 := HP4.out.free 1; have xl := HP4.out.lt
      simp only [List.getElem?_cons_zero, List.getElem?_cons_succ] at x0 x1
      refine wpRO_swi (fun _ => True) trivial ?_
      first | (refine wpRO_free rfl rfl _ (fun w' => by go_simp; exact Gives.mk _ _) (fun K hK => ?_); go_simp; refine hK _ ?_; clear hK K) | (refine wpRO_skipF rfl rfl (fun K hK => ?_); go_simp; refine hK _ ?_; clear hK K)
      first | (refine wpRO_free rfl rfl _ (fun w' => by go_simp; exact Gives.mk _ _) (fun K hK => ?_); go_simp; refine hK _ ?_; clear hK K) | (refine wpRO_skipF rfl rfl (fun K hK => ?_); go_simp; refine hK _ ?_; clear hK K)
      refine wpRO_chg rfl rfl rfl (fun K hK => ?_); unfold gRun; go_simp
      refine hK _ _ ?_
      clear hK K
      refine wpRO_swi (fun _ => True) trivial ?_
      first | (refine wpRO_free rfl rfl _ (fun w' => by go_simp; exact Gives.mk _ _) (fun K hK => ?_); go_simp; refine hK _ ?_; clear hK K) | (refine wpRO_skipF rfl rfl (fun K hK => ?_); go_simp; refine hK _ ?_; clear hK K)
      first | (refine wpRO_free rfl rfl _ (fun w' => by go_simp; exact Gives.mk _ _) (fun K hK => ?_); go_simp; refine hK _ ?_; clear hK K) | (refine wpRO_skipF rfl rfl (fun K hK => ?_); go_simp; refine hK _ ?_; clear hK K)
      refine wpRO_chg rfl rfl rfl (fun K hK => ?_); unfold gRun; go_simp
      refine hK _ _ ?_
      clear hK K
      refine wpRO_swi (fun _ => True) trivial (wpRO_fin ?_)
      have kst := ((Keeps.refl (· = p) w4).setCell (p := ⟨p, 0, none⟩) (.inl rfl) (.slice vo3 regs.length vc3)).setCell (p := ⟨p, 1, none⟩) (.inl rfl) (.slice vo4 wait.length vc4)
      have hps := (HP4.out.setSame 0 (.slice vo3 regs.length vc3)).setSame 1 (.slice vo4 wait.length vc4)
      simp only [List.set_cons_zero, List.set_cons_succ] at hps
      generalize hw5 : (w4.setCell ⟨p, 0, none⟩ (.slice vo3 regs.length vc3)).setCell ⟨p, 1, none⟩ (.slice vo4 wait.length vc4) = w5 at *
      clear hw5
      have o3 : ∀ k, ownB (.slice vo3 regs.length vc3) k → p + 1 ≤ k ∧ k < w4.heap.size := fun k hk => ⟨HO3.out k hk, (HS34.out.own hk).1⟩
      have o4 : ∀ k, ownB (.slice vo4 wait.length vc4) k → p + 1 ≤ k ∧ k < w4.heap.size := fun k hk => ⟨(HO4.out k hk).1, (HS4.out.own hk).1⟩
      have hS5 : SideAt w5 p (.slice vo3 regs.length vc3) (.slice vo4 wait.length vc4) regs wait := ⟨hps, HS34.out.keep kst (fun k hk => by have := (o3 k hk).1; omega), HS4.out.keep kst (fun k hk => by have := (o4 k hk).1; omega), fun k hk => (HO4.out k hk.2).2 hk.1⟩
      have HS5 := Lib.hid hS5
      have HK5 := Lib.hid (HK4.out.then kst (fun k hk => .inr (by omega)))
      have HFS : Hid (∀ k, SideFp p (.slice vo3 regs.length vc3) (.slice vo4 wait.length vc4) k → w.heap.size ≤ k ∧ k < w5.heap.size) := fun k hk => by
        refine ⟨?_, hS5.fp_lt hk⟩
        rcases hk with rfl | hk | hk
        · exact hpw
        · have := (o3 k hk).1; omega
        · have := (o4 k hk).1; omega
      clear kst hps o3 o4 hS5 x0 x1 f0 f1 xl g0 g1 HK2 HP HZ HK3 HS3 HO3 HP3 HK4 HS4 HS34 HP4 HO4
      go_wp2_with fail
      generalize hq : w5.heap.size = q at *
      have HQ := Lib.hid hq; clear hq
      generalize hw6 : ((w5.alloc (.cells #[nilS, nilS] 44)).alloc (.cells #[.pointer (some ⟨q, 0, none⟩)] 42)) = w6
      have k6 : Keeps (fun _ => False) w5 w6 := by rw [← hw6]; exact ((Keeps.refl _ _).alloc _).alloc _
      have b1 : Blk w6 q [nilS, nilS] 44 := by rw [← hw6]; exact (Blk.newAt _ (by simp [HQ.out]) rfl).alloc _
      have b3 : Blk w6 (q + 1) [.pointer (some ⟨q, 0, none⟩)] 42 := by rw [← hw6]; exact Blk.newAt _ (by simp [HQ.out]) rfl
      have z6 : w6.heap.size = q + 2 := by rw [← hw6]; simp [HQ.out]
      have HS6 := Lib.hid (HS5.out.keep k6 (fun _ _ h => h))
      have HK6 := Lib.hid (HK5.out.trans k6)
      have hqw : w.heap.size ≤ q := by rw [← HQ.out]; exact HK5.out.size
      have B1 := Lib.hid b1; have B3 := Lib.hid b3; have Z6 := Lib.hid z6
      clear hw6 k6 b1 b3 z6 HS5 HK5
      have g0 := B3.out.cell 0; have g1 := B1.out.cell 0; have g2 := B1.out.cell 1
      simp only [List.getElem?_cons_zero, List.getElem?_cons_succ] at g0 g1 g2
      refine wp_region_rob (.free 6 (.free 12 (.pure 0 (.base 1 (.pure 2 (.free 3 (.free 4 (.pure 5 (.pure 8 (.free 9 (.free 10 (.pure 11 (.run 7 (.run 13 (.free 14 (.free 15 (.run 16 (.swi [19] (.free 17 (.free 18 (.run 19 (.swi [] (.fin))))))))))))))))))))))) [16, 17, 18, 19] (fun w' => w'.cell? ⟨q + 1, 0, none⟩ = some (.pointer (some ⟨q, 0, none⟩))) (fun w' => w'.cell? ⟨q + 1, 0, none⟩ = some (.pointer (some ⟨q, 0, none⟩)) ∧ w'.cell? ⟨q, 0, none⟩ = some nilS ∧ w'.cell? ⟨q, 1, none⟩ = some nilS) (by kernel_rfl) (by kernel_rfl) g0 ⟨g0, g1, g2⟩ ?_
      first | (refine wpRO_free rfl rfl _ (fun w' => by go_simp; exact Gives.mk _ _) (fun K hK => ?_); go_simp; refine hK _ ?_; clear hK K) | (refine wpRO_skipF rfl rfl (fun K hK => ?_); go_simp; refine hK _ ?_; clear hK K)
      first | (refine wpRO_free rfl rfl _ (fun w' => by go_simp; exact Gives.mk _ _) (fun K hK => ?_); go_simp; refine hK _ ?_; clear hK K) | (refine wpRO_skipF rfl rfl (fun K hK => ?_); go_simp; refine hK _ ?_; clear hK K)
      first | (refine wpRO_pure rfl rfl _ (fun w' hG => by obtain ⟨g0, g1, g2⟩ := hG; exact gives_agg2 rfl (by decide +kernel) rfl (by assumption) (by assumption)) (fun K hK => ?_); go_simp; refine hK _ ?_; clear hK K) | (refine wpRO_pure rfl rfl _ (fun w' hG => by obtain ⟨g0, g1, g2⟩ := hG; go_simp; exact Gives.mk _ _) (fun K hK => ?_); go_simp; refine hK _ ?_; clear hK K) | (refine wpRO_skip rfl rfl (fun K hK => ?_); go_simp; refine hK _ ?_; clear hK K)
      first | (refine wpRO_base rfl rfl _ (fun w' hG => by obtain b0 := hG; go_simp; exact Gives.mk _ _) (fun K hK => ?_); go_simp; refine hK _ ?_; clear hK K) | (refine wpRO_skipB rfl rfl (fun K hK => ?_); go_simp; refine hK _ ?_; clear hK K)
      first | (refine wpRO_pure rfl rfl _ (fun w' hG => by obtain ⟨g0, g1, g2⟩ := hG; exact gives_agg2 rfl (by decide +kernel) rfl (by assumption) (by assumption)) (fun K hK => ?_); go_simp; refine hK _ ?_; clear hK K) | (refine wpRO_pure rfl rfl _ (fun w' hG => by obtain ⟨g0, g1, g2⟩ := hG; go_simp; exact Gives.mk _ _) (fun K hK => ?_); go_simp; refine hK _ ?_; clear hK K) | (refine wpRO_skip rfl rfl (fun K hK => ?_); go_simp; refine hK _ ?_; clear hK K)
      first | (refine wpRO_free rfl rfl _ (fun w' => by go_simp; exact Gives.mk _ _) (fun K hK => ?_); go_simp; refine hK _ ?_; clear hK K) | (refine wpRO_skipF rfl rfl (fun K hK => ?_); go_simp; refine hK _ ?_; clear hK K)
      first | (refine wpRO_free rfl rfl _ (fun w' => by go_simp; exact Gives.mk _ _) (fun K hK => ?_); go_simp; refine hK _ ?_; clear hK K) | (refine wpRO_skipF rfl rfl (fun K hK => ?_); go_simp; refine hK _ ?_; clear hK K)
      first | (refine wpRO_pure rfl rfl _ (fun w' hG => by obtain ⟨g0, g1, g2⟩ := hG; exact gives_agg2 rfl (by decide +kernel) rfl (by assumption) (by assumption)) (fun K hK => ?_); go_simp; refine hK _ ?_; clear hK K) | (refine wpRO_pure rfl rfl _ (fun w' hG => by obtain ⟨g0, g1, g2⟩ := hG; go_simp; exact Gives.mk _ _) (fun K hK => ?_); go_simp; refine hK _ ?_; clear hK K) | (refine wpRO_skip rfl rfl (fun K hK => ?_); go_simp; refine hK _ ?_; clear hK K)
      first | (refine wpRO_pure rfl rfl _ (fun w' hG => by obtain ⟨g0, g1, g2⟩ := hG; exact gives_agg2 rfl (by decide +kernel) rfl (by assumption) (by assumption)) (fun K hK => ?_); go_simp; refine hK _ ?_; clear hK K) | (refine wpRO_pure rfl rfl _ (fun w' hG => by obtain ⟨g0, g1, g2⟩ := hG; go_simp; exact Gives.mk _ _) (fun K hK => ?_); go_simp; refine hK _ ?_; clear hK K) | (refine wpRO_skip rfl rfl (fun K hK => ?_); go_simp; refine hK _ ?_; clear hK K)
      first | (refine wpRO_free rfl rfl _ (fun w' => by go_simp; exact Gives.mk _ _) (fun K hK => ?_); go_simp; refine hK _ ?_; clear hK K) | (refine wpRO_skipF rfl rfl (fun K hK => ?_); go_simp; refine hK _ ?_; clear hK K)
      first | (refine wpRO_free rfl rfl _ (fun w' => by go_simp; exact Gives.mk _ _) (fun K hK => ?_); go_simp; refine hK _ ?_; clear hK K) | (refine wpRO_skipF rfl rfl (fun K hK => ?_); go_simp; refine hK _ ?_; clear hK K)
      first | (refine wpRO_pure rfl rfl _ (fun w' hG => by obtain ⟨g0, g1, g2⟩ := hG; exact gives_agg2 rfl (by decide +kernel) rfl (by assumption) (by assumption)) (fun K hK => ?_); go_simp; refine hK _ ?_; clear hK K) | (refine wpRO_pure rfl rfl _ (fun w' hG => by obtain ⟨g0, g1, g2⟩ := hG; go_simp; exact Gives.mk _ _) (fun K hK => ?_); go_simp; refine hK _ ?_; clear hK K) | (refine wpRO_skip rfl rfl (fun K hK => ?_); go_simp; refine hK _ ?_; clear hK K)
      refine wpRO_runB rfl rfl (fun K hK => ?_)
      refine gRun_appR (.tmp 60) (.tmp 61) 32 rfl 2 ii (.int .i64 0) 1 8 Try.underlying32 Ii.out Iz0.out Iz1.out Iz2.out rfl (by decide) _ 0 [] rfl (Sl.nil _ _ _) bo alive.length cb (alive.map (Value.int .i64)) rfl (by simp) (H2.out.keep (HK6.out.drew) (fun _ _ _ h => h)) (ints_one alive) (by unfold maxLen; omega) (by omega) ?_
      intro v7 w7 hs7 hk7 ho7
      rw [Nat.zero_add] at hs7
      have k7 := hk7.mono (T := fun _ => False) fun k _ h => own_nil h
      refine hK _ _ (fun _ => (k7.blk B3.out (fun h => h)).cell 0) (fun _ => ⟨(k7.blk B3.out (fun h => h)).cell 0, (k7.blk B1.out (fun h => h)).cell 0, (k7.blk B1.out (fun h => h)).cell 1⟩) ?_
      clear hK K
      have HK7 := Lib.hid k7; have HS7 := Lib.hid hs7
      have HO7 : Hid (∀ k, ownB v7 k → q + 2 ≤ k) := fun k hk => by
        rcases ho7 k hk with h | h
        · exact (own_nil h).elim
        · rw [← Z6.out]; exact h
      clear k7 hs7 hk7 ho7
      skip
      refine wpRO_runB rfl rfl (fun K hK => ?_)
      refine gRun_appR (.tmp 66) (.tmp 67) 33 rfl 103 ip (.agg #[.int .i64 0, .int .i64 0]) 2 16 Try.underlying33 Pi.out Pz0.out Pz1.out Pz2.out rfl (by decide) _ 0 [] rfl (Sl.nil _ _ _) co leads.length cc (entV leads) rfl (entV_length leads) (H3.out.keep (HK6.out.drew.trans HK7.out) (fun _ _ _ h => h)) (entV_one leads) (by unfold maxLen; omega) (by omega) ?_
      intro v8 w8 hs8 hk8 ho8
      rw [Nat.zero_add] at hs8
      have k8 := hk8.mono (T := fun _ => False) fun k _ h => own_nil h
      have hk78 := HK7.out.trans k8
      refine hK _ _ (fun _ => (hk78.blk B3.out (fun h => h)).cell 0) (fun _ => ⟨(hk78.blk B3.out (fun h => h)).cell 0, (hk78.blk B1.out (fun h => h)).cell 0, (hk78.blk B1.out (fun h => h)).cell 1⟩) ?_
      clear hK K
      have HK8 := Lib.hid hk78; have HS8 := Lib.hid hs8
      have HS78 := Lib.hid (HS7.out.keep k8 (fun _ _ h => h))
      have HO8 : Hid (∀ k, ownB v8 k → q + 2 ≤ k) := fun k hk => by
        rcases ho8 k hk with h | h
        · exact (own_nil h).elim
        · have := HK7.out.size; rw [← Z6.out]; exact Nat.le_trans this h
      have hb1 := hk78.blk B1.out (fun h => h)
      have x0 := hb1.cell 0; have x1 := hb1.cell 1; have f0 := hb1.free 0; have f1 := hb1.free 1; have xl := hb1.lt
      have HB1 := Lib.hid hb1; have HB3 := Lib.hid (hk78.blk B3.out (fun h => h))
      simp only [List.getElem?_cons_zero, List.getElem?_cons_succ] at x0 x1
      clear k8 hs8 hk8 ho8 hk78 hb1
      obtain ⟨vo7, vc7, rfl, -, -, -⟩ := HS7.out.rd
      obtain ⟨vo8, vc8, rfl, -, -, -⟩ := HS8.out.rd
      first | (refine wpRO_free rfl rfl _ (fun w' => by go_simp; exact Gives.mk _ _) (fun K hK => ?_); go_simp; refine hK _ ?_; clear hK K) | (refine wpRO_skipF rfl rfl (fun K hK => ?_); go_simp; refine hK _ ?_; clear hK K)
      first | (refine wpRO_free rfl rfl _ (fun w' => by go_simp; exact Gives.mk _ _) (fun K hK => ?_); go_simp; refine hK _ ?_; clear hK K) | (refine wpRO_skipF rfl rfl (fun K hK => ?_); go_simp; refine hK _ ?_; clear hK K)
      refine wpRO_chgB rfl rfl rfl (fun K hK => ?_); unfold gRun; go_simp
      have hn3 : q + 1 ≠ q := by omega
      refine hK _ _ (fun _ => (HB3.out.setOther (a := ⟨q, 0, none⟩) hn3 _).cell 0) ?_
      clear hK K
      refine wpRO_swi (fun _ => True) trivial ?_
      first | (refine wpRO_free rfl rfl _ (fun w' => by go_simp; exact Gives.mk _ _) (fun K hK => ?_); go_simp; refine hK _ ?_; clear hK K) | (refine wpRO_skipF rfl rfl (fun K hK => ?_); go_simp; refine hK _ ?_; clear hK K)
      first | (refine wpRO_free rfl rfl _ (fun w' => by go_simp; exact Gives.mk _ _) (fun K hK => ?_); go_simp; refine hK _ ?_; clear hK K) | (refine wpRO_skipF rfl rfl (fun K hK => ?_); go_simp; refine hK _ ?_; clear hK K)
      refine wpRO_chgB rfl rfl rfl (fun K hK => ?_); unfold gRun; go_simp
      refine hK _ _ (fun _ => ((HB3.out.setOther (a := ⟨q, 0, none⟩) hn3 _).setOther (a := ⟨q, 1, none⟩) hn3 _).cell 0) ?_
      clear hK K
      refine wpRO_swi (fun _ => True) trivial (wpRO_fin ?_)
      have kst := ((Keeps.refl (· = q) w8).setCell (p := ⟨q, 0, none⟩) (.inl rfl) (.slice vo7 alive.length vc7)).setCell (p := ⟨q, 1, none⟩) (.inl rfl) (.slice vo8 leads.length vc8)
      have hqs := (HB1.out.setSame 0 (.slice vo7 alive.length vc7)).setSame 1 (.slice vo8 leads.length vc8)
      simp only [List.set_cons_zero, List.set_cons_succ] at hqs
      generalize hw9 : (w8.setCell ⟨q, 0, none⟩ (.slice vo7 alive.length vc7)).setCell ⟨q, 1, none⟩ (.slice vo8 leads.length vc8) = w9 at *
      clear hw9
      have k69 : Keeps (· = q) w6 w9 := ((Keeps.refl _ w6).drew.trans (HK8.out.mono fun _ _ h => h.elim)).trans kst
      have o7 := HO7.out; have o8 := HO8.out
      have hM : SW w w9 p q (q + 1) (.slice vo3 regs.length vc3) (.slice vo4 wait.length vc4) (.slice vo7 alive.length vc7) (.slice vo8 leads.length vc8) alive regs wait leads := by
        have hfs := HFS.out
        refine ⟨HS6.out.keep k69 (fun k hk h => by have := (hfs k hk).2; omega), ⟨hqs, HS78.out.keep kst (fun k hk h => by have := o7 k hk; omega), HS8.out.keep kst (fun k hk h => by have := o8 k hk; omega)⟩, k69.blk B3.out hn3, ?_, HK6.out.then k69 (fun k hk => .inr (by omega)), ?_, fun k hk => (hfs k hk).1⟩
        · rintro k ((rfl | h1 | h1) | rfl) h2
          · have := (hfs _ h2).2; omega
          · have := (hfs _ h2).2; have := o7 _ h1; omega
          · have := (hfs _ h2).2; have := o8 _ h1; omega
          · have := (hfs _ h2).2; omega
        · rintro k ((rfl | h1 | h1) | rfl)
          · omega
          · have := o7 _ h1; omega
          · have := o8 _ h1; omega
          · omega
      obtain ⟨T, hT⟩ : ∃ T, T = regs.map (·.1) ++ (regs.map (·.2) ++ (wait.map (·.1) ++ (wait.map (·.2) ++ leads.map (·.2)))) := ⟨_, rfl⟩
      have hTl : ∀ e ∈ leads, e.2 ∈ T := fun e he => by rw [hT]; simp only [List.mem_append, List.mem_map]; exact .inr (.inr (.inr (.inr ⟨e, he, rfl⟩)))
      have hTr : ∀ e ∈ regs, (e.1 ∈ T ∧ smallW e.1) ∧ e.2 ∈ T ∧ smallW e.2 := fun e he => by
        have hs := HS.out
        rw [Bool.and_eq_true] at hs
        have h := smallB_iff.1 (List.all_eq_true.1 hs.1 e he)
        rw [hT]; simp only [List.mem_append, List.mem_map]; exact ⟨⟨.inl ⟨e, he, rfl⟩, h.1⟩, .inr (.inl ⟨e, he, rfl⟩), h.2⟩
      have hTw : ∀ e ∈ wait, (e.1 ∈ T ∧ smallW e.1) ∧ e.2 ∈ T ∧ smallW e.2 := fun e he => by
        have hs := HS.out
        rw [Bool.and_eq_true] at hs
        have h := smallB_iff.1 (List.all_eq_true.1 hs.2 e he)
        rw [hT]; simp only [List.mem_append, List.mem_map]; exact ⟨⟨.inr (.inr (.inl ⟨e, he, rfl⟩)), h.1⟩, .inr (.inr (.inr (.inl ⟨e, he, rfl⟩))), h.2⟩
      have hTn : alive.length + unT T alive ≤ 1000 := by
        have h1 : unT T alive ≤ T.length := List.length_filter_le _ _
        have h2 : T.length = regs.length + (regs.length + (wait.length + (wait.length + leads.length))) := by rw [hT]; simp
        omega
      have HTL := Lib.hid hTl; have HTR := Lib.hid hTr; have HTW := Lib.hid hTw; have HTN := Lib.hid hTn; have HM := Lib.hid hM
      clear hT hTl hTr hTw hTn hM kst hqs k69 o7 o8 x0 x1 f0 f1 xl g0 g1 g2 HK7 HS7 HO7 HK8 HS8 HS78 HO8 HB1 HB3 B1 B3 Z6 HS6 HK6 HFS HQ hqw hn3 hpw
      have g0 := HM.out.hb.cell 0; have gl := HM.out.hb.lt
      simp only [List.getElem?_cons_zero] at g0
      go_wp2_with fail
      refine (Settle_c p (onceL p q (q + 1) leads T HTL.out (by omega)) alive (fun k => WFp q (.slice vo7 alive.length vc7) (.slice vo8 leads.length vc8) k ∨ k = q + 1) _ _ regs wait _ (HM.out.J HTN.out) HM.out.hS (fun k h => HM.out.ap k h.1 h.2) (by omega) (by omega) (fun e he => ⟨.inl (HTR.out e he).1, (HTR.out e he).2⟩) (fun e he => ⟨.inl (HTW.out e he).1, .inl (HTW.out e he).2⟩)).mono ?_
      rintro e w10 hs
      have he := hs.1
      subst he
      obtain ⟨rv, sv, a', l', hm, hbd⟩ := HM.out.settled rfl hs
      clear hs
      obtain ⟨r, hr⟩ : ∃ r, passM liveR (keepI leads 1000) alive regs wait = r := ⟨_, rfl⟩
      have e1 : passM (onceL p q (q + 1) leads T HTL.out (by omega)).alive (onceL p q (q + 1) leads T HTL.out (by omega)).keep alive regs wait = r := hr
      rw [e1] at hm hbd
      obtain ⟨rg, hrg⟩ : ∃ rg, rg = newRegs liveR (fun _ x => x) r.1 r.2.2 := ⟨_, rfl⟩
      obtain ⟨wt, hwt⟩ : ∃ wt, wt = newWait liveR (fun _ x => x) r.1 r.2.1 := ⟨_, rfl⟩
      have e2 : newRegs (onceL p q (q + 1) leads T HTL.out (by omega)).alive (onceL p q (q + 1) leads T HTL.out (by omega)).now r.1 r.2.2 = rg := hrg.symm
      have e3 : newWait (onceL p q (q + 1) leads T HTL.out (by omega)).alive (onceL p q (q + 1) leads T HTL.out (by omega)).now r.1 r.2.1 = wt := hwt.symm
      rw [e2, e3] at hm
      have hlaw := once_law (N := 1000) HTL.out regs wait alive (by have := HTN.out; omega) (fun e he => (HTR.out e he).2.1) r hr rg wt hrg hwt
      have HL := Lib.hid hlaw; have GM := Lib.hid hm; have GB := Lib.hid hbd
      clear hlaw hm hbd hr e1 hrg hwt e2 e3 g0 gl
      have hln := HL.out.2.2
      generalize r.1 = t at *
      have ea := onceA
      obtain ⟨rvo, rvc, rfl, -, -, -⟩ := GM.out.hS.hr.rd
      obtain ⟨svo, svc, rfl, -, -, -⟩ := GM.out.hS.hw.rd
      go_wp2_with fail
      go_loopw [14] (fun i wr => ∃ k : Nat, k ≤ rg.length ∧ i = .int .i64 k ∧ Keeps (fun _ => False) w10 wr) (fun i _ => rg.length - (intOf i).toNat)
      case atStart => exact ⟨0, Nat.zero_le _, rfl, Keeps.refl _ _⟩
      case round =>
        obtain ⟨k, hk, rfl, hkk⟩ := hrel
        have hm := GM.out.keep hkk
        have HKK := Lib.hid hkk; clear hkk
        have c0 := hm.hS.hp.cell 0
        have pl := hm.hS.hp.lt
        simp only [List.getElem?_cons_zero, List.getElem?_cons_succ] at c0
        have JM := Lib.hid hm
        by_cases hlt : k < rg.length
        · obtain ⟨_, _, e', hrd, -, -⟩ := hm.hS.hr.rd
          cases e'
          obtain ⟨g, o, rfl, hgl, d0, d1⟩ := hrd.ent k hlt
          have hv := HL.out.1 (rg.getD k (0, 0)) (by simp [List.getD, hlt])
          generalize rg.getD k (0, 0) = v at *
          have HV := Lib.hid hv
          clear hm hrd hv
          go_wp2_with fail
          have ka := (Keeps.refl (fun _ => False) wr).alloc (.cells #[.int .i64 v.1, .int .i64 v.2] 40)
          have hb := Blk.newAt (w := wr) (b := wr.heap.size) (T := 40) #[.int .i64 v.1, .int .i64 v.2] rfl rfl
          generalize hw11 : wr.alloc (.cells #[.int .i64 v.1, .int .i64 v.2] 40) = w11 at *
          clear hw11
          have HM1 := Lib.hid (JM.out.keep ka); have HB := Lib.hid hb; have HKA := Lib.hid (HKK.out.trans ka)
          generalize wr.heap.size = be at *
          clear ka hb c0 d0 d1 pl hgl
          have c0 := HM1.out.hS.hp.cell 0; have b0 := HB.out.cell 0; have b1 := HB.out.cell 1
          simp only [List.getElem?_cons_zero, List.getElem?_cons_succ] at c0 b0 b1
          refine wp_region_ro (.free 0 (.free 1 (.free 2 (.free 3 (.free 7 (.free 8 (.pure 4 (.pure 5 (.pure 9 (.run 6 (.run 10 (.swi [16, 17, 18, 19, 20, 21, 22, 23, 24, 25] (.free 11 (.free 12 (.free 14 (.pure 13 (.pure 15 (.run 16 (.swi [23, 24, 25] (.free 17 (.free 18 (.free 19 (.free 21 (.pure 20 (.pure 22 (.run 23 (.swi [] (.free 24 (.free 25 (.fin)))))))))))))))))))))))))))))) [10, 11, 12, 13, 14, 15, 16, 17, 18, 19, 20, 21, 22, 23, 24, 25] (fun w' => w'.cell? ⟨p, 0, none⟩ = some (.slice (some ⟨g, o, none⟩) rg.length rvc) ∧ w'.cell? ⟨be, 0, none⟩ = some (.int .i64 v.1) ∧ w'.cell? ⟨be, 1, none⟩ = some (.int .i64 v.2)) (by kernel_rfl) (by kernel_rfl) ⟨c0, b0, b1⟩ ?_
          obtain ⟨A, hA⟩ : ∃ A, A = cntE rg (v.1, v.2) := ⟨_, rfl⟩
          obtain ⟨A', hA'⟩ : ∃ A, A = cntE regs (v.1, v.2) := ⟨_, rfl⟩
          have hle : A ≤ A' := by rw [hA, hA']; exact HV.out.1
          have hA1 : A ≤ rg.length := by rw [hA]; exact List.length_filter_le _ _
          have hA2 : A' ≤ regs.length := by rw [hA']; exact List.length_filter_le _ _
          have HA := Lib.hid hA; have HA' := Lib.hid hA'
          clear hA hA'
          first | (refine wpRO_free rfl rfl _ (fun w' => by go_simp; exact Gives.mk _ _) (fun K hK => ?_); go_simp; refine hK _ ?_; clear hK K) | (refine wpRO_skipF rfl rfl (fun K hK => ?_); go_simp; refine hK _ ?_; clear hK K)
          first | (refine wpRO_free rfl rfl _ (fun w' => by go_simp; exact Gives.mk _ _) (fun K hK => ?_); go_simp; refine hK _ ?_; clear hK K) | (refine wpRO_skipF rfl rfl (fun K hK => ?_); go_simp; refine hK _ ?_; clear hK K)
          first | (refine wpRO_free rfl rfl _ (fun w' => by go_simp; exact Gives.mk _ _) (fun K hK => ?_); go_simp; refine hK _ ?_; clear hK K) | (refine wpRO_skipF rfl rfl (fun K hK => ?_); go_simp; refine hK _ ?_; clear hK K)
          first | (refine wpRO_free rfl rfl _ (fun w' => by go_simp; exact Gives.mk _ _) (fun K hK => ?_); go_simp; refine hK _ ?_; clear hK K) | (refine wpRO_skipF rfl rfl (fun K hK => ?_); go_simp; refine hK _ ?_; clear hK K)
          first | (refine wpRO_free rfl rfl _ (fun w' => by go_simp; exact Gives.mk _ _) (fun K hK => ?_); go_simp; refine hK _ ?_; clear hK K) | (refine wpRO_skipF rfl rfl (fun K hK => ?_); go_simp; refine hK _ ?_; clear hK K)
          first | (refine wpRO_free rfl rfl _ (fun w' => by go_simp; exact Gives.mk _ _) (fun K hK => ?_); go_simp; refine hK _ ?_; clear hK K) | (refine wpRO_skipF rfl rfl (fun K hK => ?_); go_simp; refine hK _ ?_; clear hK K)
          first | (refine wpRO_pure rfl rfl _ (fun w' hG => by obtain ⟨g0, g1, g2⟩ := hG; exact gives_agg2 rfl (by decide +kernel) rfl (by assumption) (by assumption)) (fun K hK => ?_); go_simp; refine hK _ ?_; clear hK K) | (refine wpRO_pure rfl rfl _ (fun w' hG => by obtain ⟨g0, g1, g2⟩ := hG; go_simp; exact Gives.mk _ _) (fun K hK => ?_); go_simp; refine hK _ ?_; clear hK K) | (refine wpRO_skip rfl rfl (fun K hK => ?_); go_simp; refine hK _ ?_; clear hK K)
          first | (refine wpRO_pure rfl rfl _ (fun w' hG => by obtain ⟨g0, g1, g2⟩ := hG; exact gives_agg2 rfl (by decide +kernel) rfl (by assumption) (by assumption)) (fun K hK => ?_); go_simp; refine hK _ ?_; clear hK K) | (refine wpRO_pure rfl rfl _ (fun w' hG => by obtain ⟨g0, g1, g2⟩ := hG; go_simp; exact Gives.mk _ _) (fun K hK => ?_); go_simp; refine hK _ ?_; clear hK K) | (refine wpRO_skip rfl rfl (fun K hK => ?_); go_simp; refine hK _ ?_; clear hK K)
          first | (refine wpRO_pure rfl rfl _ (fun w' hG => by obtain ⟨g0, g1, g2⟩ := hG; exact gives_agg2 rfl (by decide +kernel) rfl (by assumption) (by assumption)) (fun K hK => ?_); go_simp; refine hK _ ?_; clear hK K) | (refine wpRO_pure rfl rfl _ (fun w' hG => by obtain ⟨g0, g1, g2⟩ := hG; go_simp; exact Gives.mk _ _) (fun K hK => ?_); go_simp; refine hK _ ?_; clear hK K) | (refine wpRO_skip rfl rfl (fun K hK => ?_); go_simp; refine hK _ ?_; clear hK K)
          refine wpRO_run rfl rfl (fun K hK => ?_); unfold gRun; go_simp
          obtain ⟨_, _, e', hrd, -, -⟩ := HM1.out.hS.hr.rd
          cases e'
          refine (CountE_c (some ⟨g, o, none⟩) rvc rg v.1 v.2 _ (hrd.keep ((Keeps.refl (fun _ => False) _).drew) (fun _ _ _ h => h)) (by omega)).mono ?_
          rintro e w12 ⟨he, k12⟩
          rw [← HA.out] at he
          subst he
          refine hK _ _ (fun _ => ⟨(k12.blk HM1.out.hS.hp (fun h => h)).cell 0, (k12.blk HB.out (fun h => h)).cell 0, (k12.blk HB.out (fun h => h)).cell 1⟩) ?_
          clear hK K hrd
          have HK12 := Lib.hid ((Keeps.refl (fun _ => False) w11).drew.trans k12)
          clear k12
          skip
          refine wpRO_chg rfl rfl rfl (fun K hK => ?_); unfold gRun; go_simp
          refine (CountE_c ro cr regs v.1 v.2 _ (H0.out.keep ((GM.out.hK.trans HKA.out).trans HK12.out) (fun _ _ _ h => h)) (by omega)).mono ?_
          rintro e w13 ⟨he, k13⟩
          rw [← HA'.out] at he
          subst he
          refine hK _ _ ?_
          clear hK K
          have HM3 := Lib.hid ((HM1.out.keep HK12.out).keep k13); have HB3 := Lib.hid ((HK12.out.trans k13).blk HB.out (fun h => h)); have HK13 := Lib.hid ((HKA.out.trans HK12.out).trans k13)
          clear k13
          have hd : decide (A' < A) = false := by simp only [decide_eq_false_iff_not]; omega
          have m0 := HM3.out.hb.cell 0
          have x0 := HB3.out.cell 0; have x1 := HB3.out.cell 1
          simp only [List.getElem?_cons_zero, List.getElem?_cons_succ] at m0 x0 x1
          refine wpRO_swi (fun w' => w'.cell? ⟨q + 1, 0, none⟩ = some (.pointer (some ⟨q, 0, none⟩)) ∧ w'.cell? ⟨be, 0, none⟩ = some (.int .i64 v.1)) ⟨m0, x0⟩ ?_
          first | (refine wpRO_free rfl rfl _ (fun w' => by go_simp; exact Gives.mk _ _) (fun K hK => ?_); go_simp; refine hK _ ?_; clear hK K) | (refine wpRO_skipF rfl rfl (fun K hK => ?_); go_simp; refine hK _ ?_; clear hK K)
          first | (refine wpRO_free rfl rfl _ (fun w' => by go_simp; exact Gives.mk _ _) (fun K hK => ?_); go_simp; refine hK _ ?_; clear hK K) | (refine wpRO_skipF rfl rfl (fun K hK => ?_); go_simp; refine hK _ ?_; clear hK K)
          first | (refine wpRO_free rfl rfl _ (fun w' => by go_simp; exact Gives.mk _ _) (fun K hK => ?_); go_simp; refine hK _ ?_; clear hK K) | (refine wpRO_skipF rfl rfl (fun K hK => ?_); go_simp; refine hK _ ?_; clear hK K)
          first | (refine wpRO_pure rfl rfl _ (fun w' hG => by obtain ⟨g0, g1⟩ := hG; exact gives_agg2 rfl (by decide +kernel) rfl (by assumption) (by assumption)) (fun K hK => ?_); go_simp; refine hK _ ?_; clear hK K) | (refine wpRO_pure rfl rfl _ (fun w' hG => by obtain ⟨g0, g1⟩ := hG; go_simp; exact Gives.mk _ _) (fun K hK => ?_); go_simp; refine hK _ ?_; clear hK K) | (refine wpRO_skip rfl rfl (fun K hK => ?_); go_simp; refine hK _ ?_; clear hK K)
          first | (refine wpRO_pure rfl rfl _ (fun w' hG => by obtain ⟨g0, g1⟩ := hG; exact gives_agg2 rfl (by decide +kernel) rfl (by assumption) (by assumption)) (fun K hK => ?_); go_simp; refine hK _ ?_; clear hK K) | (refine wpRO_pure rfl rfl _ (fun w' hG => by obtain ⟨g0, g1⟩ := hG; go_simp; exact Gives.mk _ _) (fun K hK => ?_); go_simp; refine hK _ ?_; clear hK K) | (refine wpRO_skip rfl rfl (fun K hK => ?_); go_simp; refine hK _ ?_; clear hK K)
          refine wpRO_chg rfl rfl rfl (fun K hK => ?_); unfold gRun; go_simp
          refine (is_c q a' l' t leads v.1 _ HM3.out.h1 (by have := GB.out; omega)).mono ?_
          rintro e w14 ⟨rfl, rfl⟩
          rw [HV.out.2.1]
          refine hK _ _ ?_
          clear hK K
          refine wpRO_swi (fun w' => w'.cell? ⟨q + 1, 0, none⟩ = some (.pointer (some ⟨q, 0, none⟩)) ∧ w'.cell? ⟨be, 1, none⟩ = some (.int .i64 v.2)) ⟨m0, x1⟩ ?_
          first | (refine wpRO_free rfl rfl _ (fun w' => by go_simp; exact Gives.mk _ _) (fun K hK => ?_); go_simp; refine hK _ ?_; clear hK K) | (refine wpRO_skipF rfl rfl (fun K hK => ?_); go_simp; refine hK _ ?_; clear hK K)
          first | (refine wpRO_free rfl rfl _ (fun w' => by go_simp; exact Gives.mk _ _) (fun K hK => ?_); go_simp; refine hK _ ?_; clear hK K) | (refine wpRO_skipF rfl rfl (fun K hK => ?_); go_simp; refine hK _ ?_; clear hK K)
          first | (refine wpRO_free rfl rfl _ (fun w' => by go_simp; exact Gives.mk _ _) (fun K hK => ?_); go_simp; refine hK _ ?_; clear hK K) | (refine wpRO_skipF rfl rfl (fun K hK => ?_); go_simp; refine hK _ ?_; clear hK K)
          first | (refine wpRO_free rfl rfl _ (fun w' => by go_simp; exact Gives.mk _ _) (fun K hK => ?_); go_simp; refine hK _ ?_; clear hK K) | (refine wpRO_skipF rfl rfl (fun K hK => ?_); go_simp; refine hK _ ?_; clear hK K)
          first | (refine wpRO_pure rfl rfl _ (fun w' hG => by obtain ⟨g0, g1⟩ := hG; exact gives_agg2 rfl (by decide +kernel) rfl (by assumption) (by assumption)) (fun K hK => ?_); go_simp; refine hK _ ?_; clear hK K) | (refine wpRO_pure rfl rfl _ (fun w' hG => by obtain ⟨g0, g1⟩ := hG; go_simp; exact Gives.mk _ _) (fun K hK => ?_); go_simp; refine hK _ ?_; clear hK K) | (refine wpRO_skip rfl rfl (fun K hK => ?_); go_simp; refine hK _ ?_; clear hK K)
          first | (refine wpRO_pure rfl rfl _ (fun w' hG => by obtain ⟨g0, g1⟩ := hG; exact gives_agg2 rfl (by decide +kernel) rfl (by assumption) (by assumption)) (fun K hK => ?_); go_simp; refine hK _ ?_; clear hK K) | (refine wpRO_pure rfl rfl _ (fun w' hG => by obtain ⟨g0, g1⟩ := hG; go_simp; exact Gives.mk _ _) (fun K hK => ?_); go_simp; refine hK _ ?_; clear hK K) | (refine wpRO_skip rfl rfl (fun K hK => ?_); go_simp; refine hK _ ?_; clear hK K)
          refine wpRO_chg rfl rfl rfl (fun K hK => ?_); unfold gRun; go_simp
          refine (is_c q a' l' t leads v.2 _ HM3.out.h1 (by have := GB.out; omega)).mono ?_
          rintro e w14 ⟨rfl, rfl⟩
          rw [HV.out.2.2]
          refine hK _ _ ?_
          clear hK K
          refine wpRO_swi (fun _ => True) trivial ?_
          first | (refine wpRO_free rfl rfl _ (fun w' => by go_simp; exact Gives.mk _ _) (fun K hK => ?_); go_simp; refine hK _ ?_; clear hK K) | (refine wpRO_skipF rfl rfl (fun K hK => ?_); go_simp; refine hK _ ?_; clear hK K)
          first | (refine wpRO_free rfl rfl _ (fun w' => by go_simp; exact Gives.mk _ _) (fun K hK => ?_); go_simp; refine hK _ ?_; clear hK K) | (refine wpRO_skipF rfl rfl (fun K hK => ?_); go_simp; refine hK _ ?_; clear hK K)
          refine wpRO_fin ?_
          clear hd m0 x0 x1 c0 b0 b1
          go_wp2_with fail
          go_roundw
          case rel => exact ⟨k + 1, by omega, by go_num, HK13.out⟩
          case measure => simp [intOf]; omega
        · obtain rfl : k = rg.length := by omega
          clear hm
          go_wp2_with fail
          have HM2 := Lib.hid (GM.out.keep HKK.out)
          clear c0 pl JM
          go_loopw [16] (fun i wx => ∃ k : Nat, k ≤ wt.length ∧ i = .int .i64 k ∧ Keeps (fun _ => False) wr wx) (fun i _ => wt.length - (intOf i).toNat)
          case atStart => exact ⟨0, Nat.zero_le _, rfl, Keeps.refl _ _⟩
          case round =>
            obtain ⟨k, hk, rfl, hkk⟩ := hrel
            have hm := HM2.out.keep hkk
            have HKX := Lib.hid hkk; clear hkk
            have c1 := hm.hS.hp.cell 1
            have pl := hm.hS.hp.lt
            simp only [List.getElem?_cons_zero, List.getElem?_cons_succ] at c1
            have JM := Lib.hid hm
            by_cases hlt : k < wt.length
            · obtain ⟨_, _, e', hrd, -, -⟩ := hm.hS.hw.rd
              cases e'
              obtain ⟨g, o, rfl, hgl, d0, d1⟩ := hrd.ent k hlt
              have hv := HL.out.2.1 (wt.getD k (0, 0)) (by simp [List.getD, hlt])
              generalize wt.getD k (0, 0) = v at *
              have HV := Lib.hid hv
              clear hm hrd hv
              go_wp2_with fail
              have ka := (Keeps.refl (fun _ => False) wr).alloc (.cells #[.int .i64 v.1, .int .i64 v.2] 40)
              have hb := Blk.newAt (w := wr) (b := wr.heap.size) (T := 40) #[.int .i64 v.1, .int .i64 v.2] rfl rfl
              generalize hw11 : wr.alloc (.cells #[.int .i64 v.1, .int .i64 v.2] 40) = w11 at *
              clear hw11
              have HM1 := Lib.hid (JM.out.keep ka); have HB := Lib.hid hb; have HKA := Lib.hid (HKX.out.trans ka)
              generalize wr.heap.size = be at *
              clear ka hb c1 d0 d1 pl hgl
              have c0 := HM1.out.hS.hp.cell 0; have c1 := HM1.out.hS.hp.cell 1; have b0 := HB.out.cell 0; have b1 := HB.out.cell 1
              simp only [List.getElem?_cons_zero, List.getElem?_cons_succ] at c0 c1 b0 b1
              obtain ⟨A, hA⟩ : ∃ A, A = cntE wt (v.1, v.2) := ⟨_, rfl⟩
              obtain ⟨B, hB⟩ : ∃ A, A = cntE rg (v.1, v.2) := ⟨_, rfl⟩
              obtain ⟨C, hC⟩ : ∃ A, A = cntE regs (v.1, v.2) := ⟨_, rfl⟩
              obtain ⟨D, hD⟩ : ∃ A, A = cntE wait (v.1, v.2) := ⟨_, rfl⟩
              have hle : A + B ≤ C + D := by rw [hA, hB, hC, hD]; exact HV.out.1
              have hA1 : A ≤ wt.length := by rw [hA]; exact List.length_filter_le _ _
              have hB1 : B ≤ rg.length := by rw [hB]; exact List.length_filter_le _ _
              have hC1 : C ≤ regs.length := by rw [hC]; exact List.length_filter_le _ _
              have hD1 : D ≤ wait.length := by rw [hD]; exact List.length_filter_le _ _
              have HA := Lib.hid hA; have HB' := Lib.hid hB; have HC := Lib.hid hC; have HD := Lib.hid hD
              clear hA hB hC hD
              have hs1 : IntKind.i64.wrap ((A : Int) + (B : Int)) = (A : Int) + (B : Int) := IntWalk.i64_in _ (by omega)
              have hs2 : IntKind.i64.wrap ((C : Int) + (D : Int)) = (C : Int) + (D : Int) := IntWalk.i64_in _ (by omega)
              have hd : ¬ ((C : Int) + (D : Int) < (A : Int) + (B : Int)) := by omega
              have hd1 : (A : Int) + (B : Int) ≤ (C : Int) + (D : Int) := by omega
              have HS1 := Lib.hid hs1; have HS2 := Lib.hid hs2; have HD1 := Lib.hid hd; have HD2 := Lib.hid hd1
              clear hs1 hs2 hd hd1
              refine wp_region_ro (.free 0 (.free 1 (.free 2 (.free 3 (.free 7 (.free 8 (.free 9 (.free 10 (.free 15 (.free 16 (.free 19 (.free 20 (.pure 4 (.pure 5 (.pure 11 (.pure 12 (.pure 17 (.pure 21 (.run 6 (.run 13 (.free 14 (.run 18 (.run 22 (.swi [29, 30, 31] (.free 23 (.free 24 (.free 25 (.free 27 (.pure 26 (.pure 28 (.run 29 (.swi [] (.free 30 (.free 31 (.fin))))))))))))))))))))))))))))))))))) [22, 23, 24, 25, 26, 27, 28, 29, 30, 31] (fun w' => w'.cell? ⟨p, 0, none⟩ = some (.slice rvo rg.length rvc) ∧ w'.cell? ⟨p, 1, none⟩ = some (.slice (some ⟨g, o, none⟩) wt.length svc) ∧ w'.cell? ⟨be, 0, none⟩ = some (.int .i64 v.1) ∧ w'.cell? ⟨be, 1, none⟩ = some (.int .i64 v.2)) (by kernel_rfl) (by kernel_rfl) ⟨c0, c1, b0, b1⟩ ?_
              first | (refine wpRO_free rfl rfl _ (fun w' => by go_simp; exact Gives.mk _ _) (fun K hK => ?_); go_simp; refine hK _ ?_; clear hK K) | (refine wpRO_skipF rfl rfl (fun K hK => ?_); go_simp; refine hK _ ?_; clear hK K)
              first | (refine wpRO_free rfl rfl _ (fun w' => by go_simp; exact Gives.mk _ _) (fun K hK => ?_); go_simp; refine hK _ ?_; clear hK K) | (refine wpRO_skipF rfl rfl (fun K hK => ?_); go_simp; refine hK _ ?_; clear hK K)
              first | (refine wpRO_free rfl rfl _ (fun w' => by go_simp; exact Gives.mk _ _) (fun K hK => ?_); go_simp; refine hK _ ?_; clear hK K) | (refine wpRO_skipF rfl rfl (fun K hK => ?_); go_simp; refine hK _ ?_; clear hK K)
              first | (refine wpRO_free rfl rfl _ (fun w' => by go_simp; exact Gives.mk _ _) (fun K hK => ?_); go_simp; refine hK _ ?_; clear hK K) | (refine wpRO_skipF rfl rfl (fun K hK => ?_); go_simp; refine hK _ ?_; clear hK K)
              first | (refine wpRO_free rfl rfl _ (fun w' => by go_simp; exact Gives.mk _ _) (fun K hK => ?_); go_simp; refine hK _ ?_; clear hK K) | (refine wpRO_skipF rfl rfl (fun K hK => ?_); go_simp; refine hK _ ?_; clear hK K)
              first | (refine wpRO_free rfl rfl _ (fun w' => by go_simp; exact Gives.mk _ _) (fun K hK => ?_); go_simp; refine hK _ ?_; clear hK K) | (refine wpRO_skipF rfl rfl (fun K hK => ?_); go_simp; refine hK _ ?_; clear hK K)
              first | (refine wpRO_free rfl rfl _ (fun w' => by go_simp; exact Gives.mk _ _) (fun K hK => ?_); go_simp; refine hK _ ?_; clear hK K) | (refine wpRO_skipF rfl rfl (fun K hK => ?_); go_simp; refine hK _ ?_; clear hK K)
              first | (refine wpRO_free rfl rfl _ (fun w' => by go_simp; exact Gives.mk _ _) (fun K hK => ?_); go_simp; refine hK _ ?_; clear hK K) | (refine wpRO_skipF rfl rfl (fun K hK => ?_); go_simp; refine hK _ ?_; clear hK K)
              first | (refine wpRO_free rfl rfl _ (fun w' => by go_simp; exact Gives.mk _ _) (fun K hK => ?_); go_simp; refine hK _ ?_; clear hK K) | (refine wpRO_skipF rfl rfl (fun K hK => ?_); go_simp; refine hK _ ?_; clear hK K)
              first | (refine wpRO_free rfl rfl _ (fun w' => by go_simp; exact Gives.mk _ _) (fun K hK => ?_); go_simp; refine hK _ ?_; clear hK K) | (refine wpRO_skipF rfl rfl (fun K hK => ?_); go_simp; refine hK _ ?_; clear hK K)
              first | (refine wpRO_free rfl rfl _ (fun w' => by go_simp; exact Gives.mk _ _) (fun K hK => ?_); go_simp; refine hK _ ?_; clear hK K) | (refine wpRO_skipF rfl rfl (fun K hK => ?_); go_simp; refine hK _ ?_; clear hK K)
              first | (refine wpRO_free rfl rfl _ (fun w' => by go_simp; exact Gives.mk _ _) (fun K hK => ?_); go_simp; refine hK _ ?_; clear hK K) | (refine wpRO_skipF rfl rfl (fun K hK => ?_); go_simp; refine hK _ ?_; clear hK K)
              first | (refine wpRO_pure rfl rfl _ (fun w' hG => by obtain ⟨g0, g1, g2, g3⟩ := hG; exact gives_agg2 rfl (by decide +kernel) rfl (by assumption) (by assumption)) (fun K hK => ?_); go_simp; refine hK _ ?_; clear hK K) | (refine wpRO_pure rfl rfl _ (fun w' hG => by obtain ⟨g0, g1, g2, g3⟩ := hG; go_simp; exact Gives.mk _ _) (fun K hK => ?_); go_simp; refine hK _ ?_; clear hK K) | (refine wpRO_skip rfl rfl (fun K hK => ?_); go_simp; refine hK _ ?_; clear hK K)
              first | (refine wpRO_pure rfl rfl _ (fun w' hG => by obtain ⟨g0, g1, g2, g3⟩ := hG; exact gives_agg2 rfl (by decide +kernel) rfl (by assumption) (by assumption)) (fun K hK => ?_); go_simp; refine hK _ ?_; clear hK K) | (refine wpRO_pure rfl rfl _ (fun w' hG => by obtain ⟨g0, g1, g2, g3⟩ := hG; go_simp; exact Gives.mk _ _) (fun K hK => ?_); go_simp; refine hK _ ?_; clear hK K) | (refine wpRO_skip rfl rfl (fun K hK => ?_); go_simp; refine hK _ ?_; clear hK K)
              first | (refine wpRO_pure rfl rfl _ (fun w' hG => by obtain ⟨g0, g1, g2, g3⟩ := hG; exact gives_agg2 rfl (by decide +kernel) rfl (by assumption) (by assumption)) (fun K hK => ?_); go_simp; refine hK _ ?_; clear hK K) | (refine wpRO_pure rfl rfl _ (fun w' hG => by obtain ⟨g0, g1, g2, g3⟩ := hG; go_simp; exact Gives.mk _ _) (fun K hK => ?_); go_simp; refine hK _ ?_; clear hK K) | (refine wpRO_skip rfl rfl (fun K hK => ?_); go_simp; refine hK _ ?_; clear hK K)
              first | (refine wpRO_pure rfl rfl _ (fun w' hG => by obtain ⟨g0, g1, g2, g3⟩ := hG; exact gives_agg2 rfl (by decide +kernel) rfl (by assumption) (by assumption)) (fun K hK => ?_); go_simp; refine hK _ ?_; clear hK K) | (refine wpRO_pure rfl rfl _ (fun w' hG => by obtain ⟨g0, g1, g2, g3⟩ := hG; go_simp; exact Gives.mk _ _) (fun K hK => ?_); go_simp; refine hK _ ?_; clear hK K) | (refine wpRO_skip rfl rfl (fun K hK => ?_); go_simp; refine hK _ ?_; clear hK K)
              first | (refine wpRO_pure rfl rfl _ (fun w' hG => by obtain ⟨g0, g1, g2, g3⟩ := hG; exact gives_agg2 rfl (by decide +kernel) rfl (by assumption) (by assumption)) (fun K hK => ?_); go_simp; refine hK _ ?_; clear hK K) | (refine wpRO_pure rfl rfl _ (fun w' hG => by obtain ⟨g0, g1, g2, g3⟩ := hG; go_simp; exact Gives.mk _ _) (fun K hK => ?_); go_simp; refine hK _ ?_; clear hK K) | (refine wpRO_skip rfl rfl (fun K hK => ?_); go_simp; refine hK _ ?_; clear hK K)
              first | (refine wpRO_pure rfl rfl _ (fun w' hG => by obtain ⟨g0, g1, g2, g3⟩ := hG; exact gives_agg2 rfl (by decide +kernel) rfl (by assumption) (by assumption)) (fun K hK => ?_); go_simp; refine hK _ ?_; clear hK K) | (refine wpRO_pure rfl rfl _ (fun w' hG => by obtain ⟨g0, g1, g2, g3⟩ := hG; go_simp; exact Gives.mk _ _) (fun K hK => ?_); go_simp; refine hK _ ?_; clear hK K) | (refine wpRO_skip rfl rfl (fun K hK => ?_); go_simp; refine hK _ ?_; clear hK K)
              refine wpRO_run rfl rfl (fun K hK => ?_); unfold gRun; go_simp
              obtain ⟨_, _, e', hrw, -, -⟩ := HM1.out.hS.hw.rd
              cases e'
              obtain ⟨_, _, e', hrr, -, -⟩ := HM1.out.hS.hr.rd
              cases e'
              have HRW := Lib.hid hrw; have HRR := Lib.hid hrr
              clear hrw hrr
              refine (CountE_c (some ⟨g, o, none⟩) svc wt v.1 v.2 _ (HRW.out.keep ((Keeps.refl (fun _ => False) _).drew) (fun _ _ _ h => h)) (by omega)).mono ?_
              rintro e w12 ⟨he, k12⟩
              rw [← HA.out] at he
              subst he
              refine hK _ _ (fun _ => ⟨(k12.blk HM1.out.hS.hp (fun h => h)).cell 0, (k12.blk HM1.out.hS.hp (fun h => h)).cell 1, (k12.blk HB.out (fun h => h)).cell 0, (k12.blk HB.out (fun h => h)).cell 1⟩) ?_
              clear hK K
              have HK12 := Lib.hid ((Keeps.refl (fun _ => False) w11).drew.trans k12)
              clear k12
              skip
              refine wpRO_run rfl rfl (fun K hK => ?_); unfold gRun; go_simp
              refine (CountE_c rvo rvc rg v.1 v.2 _ (HRR.out.keep HK12.out (fun _ _ _ h => h)) (by omega)).mono ?_
              rintro e w13 ⟨he, k13⟩
              rw [← HB'.out] at he
              subst he
              have k13' := HK12.out.trans k13
              have hs1 := HS1.out
              refine hK _ _ (fun _ => ⟨(k13'.blk HM1.out.hS.hp (fun h => h)).cell 0, (k13'.blk HM1.out.hS.hp (fun h => h)).cell 1, (k13'.blk HB.out (fun h => h)).cell 0, (k13'.blk HB.out (fun h => h)).cell 1⟩) ?_
              clear hK K
              have HK13 := Lib.hid k13'
              clear k13 k13'
              first | (refine wpRO_free rfl rfl _ (fun w' => by go_simp; exact Gives.mk _ _) (fun K hK => ?_); go_simp; refine hK _ ?_; clear hK K) | (refine wpRO_skipF rfl rfl (fun K hK => ?_); go_simp; refine hK _ ?_; clear hK K)
              refine wpRO_run rfl rfl (fun K hK => ?_); unfold gRun; go_simp
              refine (CountE_c ro cr regs v.1 v.2 _ (H0.out.keep ((HM2.out.hK.trans HKA.out).trans HK13.out) (fun _ _ _ h => h)) (by omega)).mono ?_
              rintro e w14 ⟨he, k14⟩
              rw [← HC.out] at he
              subst he
              have k14' := HK13.out.trans k14
              refine hK _ _ (fun _ => ⟨(k14'.blk HM1.out.hS.hp (fun h => h)).cell 0, (k14'.blk HM1.out.hS.hp (fun h => h)).cell 1, (k14'.blk HB.out (fun h => h)).cell 0, (k14'.blk HB.out (fun h => h)).cell 1⟩) ?_
              clear hK K
              have HK14 := Lib.hid k14'
              clear k14 k14'
              skip
              refine wpRO_chg rfl rfl rfl (fun K hK => ?_); unfold gRun; go_simp
              refine (CountE_c ao ca wait v.1 v.2 _ (H1.out.keep ((HM2.out.hK.trans HKA.out).trans HK14.out) (fun _ _ _ h => h)) (by omega)).mono ?_
              rintro e w15 ⟨he, k15⟩
              rw [← HD.out] at he
              subst he
              refine hK _ _ ?_
              clear hK K
              have k15' := HK14.out.trans k15
              have HM3 := Lib.hid (HM1.out.keep k15'); have HB3 := Lib.hid (k15'.blk HB.out (fun h => h)); have HK15 := Lib.hid (HKA.out.trans k15')
              clear k15 k15'
              have m0 := HM3.out.hb.cell 0
              have x0 := HB3.out.cell 0
              simp only [List.getElem?_cons_zero, List.getElem?_cons_succ] at m0 x0
              refine wpRO_swi (fun w' => w'.cell? ⟨q + 1, 0, none⟩ = some (.pointer (some ⟨q, 0, none⟩)) ∧ w'.cell? ⟨be, 0, none⟩ = some (.int .i64 v.1)) ⟨m0, x0⟩ ?_
              have hs2 := HS2.out; have hd1 := HD1.out; have hd2 : decide ((C : Int) + (D : Int) < (A : Int) + (B : Int)) = false := decide_eq_false HD1.out
              first | (refine wpRO_free rfl rfl _ (fun w' => by go_simp; exact Gives.mk _ _) (fun K hK => ?_); go_simp; refine hK _ ?_; clear hK K) | (refine wpRO_skipF rfl rfl (fun K hK => ?_); go_simp; refine hK _ ?_; clear hK K)
              first | (refine wpRO_free rfl rfl _ (fun w' => by go_simp; exact Gives.mk _ _) (fun K hK => ?_); go_simp; refine hK _ ?_; clear hK K) | (refine wpRO_skipF rfl rfl (fun K hK => ?_); go_simp; refine hK _ ?_; clear hK K)
              first | (refine wpRO_free rfl rfl _ (fun w' => by go_simp; exact Gives.mk _ _) (fun K hK => ?_); go_simp; refine hK _ ?_; clear hK K) | (refine wpRO_skipF rfl rfl (fun K hK => ?_); go_simp; refine hK _ ?_; clear hK K)
              first | (refine wpRO_free rfl rfl _ (fun w' => by go_simp; exact Gives.mk _ _) (fun K hK => ?_); go_simp; refine hK _ ?_; clear hK K) | (refine wpRO_skipF rfl rfl (fun K hK => ?_); go_simp; refine hK _ ?_; clear hK K)
              first | (refine wpRO_pure rfl rfl _ (fun w' hG => by obtain ⟨g0, g1⟩ := hG; exact gives_agg2 rfl (by decide +kernel) rfl (by assumption) (by assumption)) (fun K hK => ?_); go_simp; refine hK _ ?_; clear hK K) | (refine wpRO_pure rfl rfl _ (fun w' hG => by obtain ⟨g0, g1⟩ := hG; go_simp; exact Gives.mk _ _) (fun K hK => ?_); go_simp; refine hK _ ?_; clear hK K) | (refine wpRO_skip rfl rfl (fun K hK => ?_); go_simp; refine hK _ ?_; clear hK K)
              first | (refine wpRO_pure rfl rfl _ (fun w' hG => by obtain ⟨g0, g1⟩ := hG; exact gives_agg2 rfl (by decide +kernel) rfl (by assumption) (by assumption)) (fun K hK => ?_); go_simp; refine hK _ ?_; clear hK K) | (refine wpRO_pure rfl rfl _ (fun w' hG => by obtain ⟨g0, g1⟩ := hG; go_simp; exact Gives.mk _ _) (fun K hK => ?_); go_simp; refine hK _ ?_; clear hK K) | (refine wpRO_skip rfl rfl (fun K hK => ?_); go_simp; refine hK _ ?_; clear hK K)
              refine wpRO_chg rfl rfl rfl (fun K hK => ?_); unfold gRun; go_simp
              refine (is_c q a' l' t leads v.1 _ HM3.out.h1 (by have := GB.out; omega)).mono ?_
              rintro e w16 ⟨rfl, rfl⟩
              rw [HV.out.2]
              refine hK _ _ ?_
              clear hK K
              refine wpRO_swi (fun _ => True) trivial ?_
              first | (refine wpRO_free rfl rfl _ (fun w' => by go_simp; exact Gives.mk _ _) (fun K hK => ?_); go_simp; refine hK _ ?_; clear hK K) | (refine wpRO_skipF rfl rfl (fun K hK => ?_); go_simp; refine hK _ ?_; clear hK K)
              first | (refine wpRO_free rfl rfl _ (fun w' => by go_simp; exact Gives.mk _ _) (fun K hK => ?_); go_simp; refine hK _ ?_; clear hK K) | (refine wpRO_skipF rfl rfl (fun K hK => ?_); go_simp; refine hK _ ?_; clear hK K)
              refine wpRO_fin ?_
              clear hs1 hs2 hd1 hd2 m0 x0 c0 c1 b0 b1
              go_wp2_with fail
              go_roundw
              case rel => exact ⟨k + 1, by omega, by go_num, HK15.out⟩
              case measure => simp [intOf]; omega
            · obtain rfl : k = wt.length := by omega
              have c0 := hm.hS.hp.cell 0
              simp only [List.getElem?_cons_zero, List.getElem?_cons_succ] at c0
              clear hm
              go_wp2_with fail
              have hs1 : IntKind.i64.wrap ((rg.length : Int) + (wt.length : Int)) = (rg.length : Int) + (wt.length : Int) := IntWalk.i64_in _ (by omega)
              have hs2 : IntKind.i64.wrap ((regs.length : Int) + (wait.length : Int)) = (regs.length : Int) + (wait.length : Int) := IntWalk.i64_in _ (by omega)
              have hd : (rg.length : Int) + (wt.length : Int) ≤ (regs.length : Int) + (wait.length : Int) := by omega
              refine wp_region_ro (.free 0 (.free 1 (.free 2 (.free 5 (.free 6 (.free 7 (.free 11 (.free 12 (.free 13 (.free 14 (.free 15 (.pure 3 (.free 4 (.pure 8 (.free 9 (.free 10 (.free 16 (.free 17 (.fin))))))))))))))))))) [] (fun w' => w'.cell? ⟨p, 0, none⟩ = some (.slice rvo rg.length rvc) ∧ w'.cell? ⟨p, 1, none⟩ = some (.slice svo wt.length svc)) (by kernel_rfl) (by kernel_rfl) ⟨c0, c1⟩ ?_
              first | (refine wpRO_free rfl rfl _ (fun w' => by go_simp; exact Gives.mk _ _) (fun K hK => ?_); go_simp; refine hK _ ?_; clear hK K) | (refine wpRO_skipF rfl rfl (fun K hK => ?_); go_simp; refine hK _ ?_; clear hK K)
              first | (refine wpRO_free rfl rfl _ (fun w' => by go_simp; exact Gives.mk _ _) (fun K hK => ?_); go_simp; refine hK _ ?_; clear hK K) | (refine wpRO_skipF rfl rfl (fun K hK => ?_); go_simp; refine hK _ ?_; clear hK K)
              first | (refine wpRO_free rfl rfl _ (fun w' => by go_simp; exact Gives.mk _ _) (fun K hK => ?_); go_simp; refine hK _ ?_; clear hK K) | (refine wpRO_skipF rfl rfl (fun K hK => ?_); go_simp; refine hK _ ?_; clear hK K)
              first | (refine wpRO_free rfl rfl _ (fun w' => by go_simp; exact Gives.mk _ _) (fun K hK => ?_); go_simp; refine hK _ ?_; clear hK K) | (refine wpRO_skipF rfl rfl (fun K hK => ?_); go_simp; refine hK _ ?_; clear hK K)
              first | (refine wpRO_free rfl rfl _ (fun w' => by go_simp; exact Gives.mk _ _) (fun K hK => ?_); go_simp; refine hK _ ?_; clear hK K) | (refine wpRO_skipF rfl rfl (fun K hK => ?_); go_simp; refine hK _ ?_; clear hK K)
              first | (refine wpRO_free rfl rfl _ (fun w' => by go_simp; exact Gives.mk _ _) (fun K hK => ?_); go_simp; refine hK _ ?_; clear hK K) | (refine wpRO_skipF rfl rfl (fun K hK => ?_); go_simp; refine hK _ ?_; clear hK K)
              first | (refine wpRO_free rfl rfl _ (fun w' => by go_simp; exact Gives.mk _ _) (fun K hK => ?_); go_simp; refine hK _ ?_; clear hK K) | (refine wpRO_skipF rfl rfl (fun K hK => ?_); go_simp; refine hK _ ?_; clear hK K)
              first | (refine wpRO_free rfl rfl _ (fun w' => by go_simp; exact Gives.mk _ _) (fun K hK => ?_); go_simp; refine hK _ ?_; clear hK K) | (refine wpRO_skipF rfl rfl (fun K hK => ?_); go_simp; refine hK _ ?_; clear hK K)
              first | (refine wpRO_free rfl rfl _ (fun w' => by go_simp; exact Gives.mk _ _) (fun K hK => ?_); go_simp; refine hK _ ?_; clear hK K) | (refine wpRO_skipF rfl rfl (fun K hK => ?_); go_simp; refine hK _ ?_; clear hK K)
              first | (refine wpRO_free rfl rfl _ (fun w' => by go_simp; exact Gives.mk _ _) (fun K hK => ?_); go_simp; refine hK _ ?_; clear hK K) | (refine wpRO_skipF rfl rfl (fun K hK => ?_); go_simp; refine hK _ ?_; clear hK K)
              first | (refine wpRO_free rfl rfl _ (fun w' => by go_simp; exact Gives.mk _ _) (fun K hK => ?_); go_simp; refine hK _ ?_; clear hK K) | (refine wpRO_skipF rfl rfl (fun K hK => ?_); go_simp; refine hK _ ?_; clear hK K)
              first | (refine wpRO_pure rfl rfl _ (fun w' hG => by obtain ⟨g0, g1⟩ := hG; exact gives_agg2 rfl (by decide +kernel) rfl (by assumption) (by assumption)) (fun K hK => ?_); go_simp; refine hK _ ?_; clear hK K) | (refine wpRO_pure rfl rfl _ (fun w' hG => by obtain ⟨g0, g1⟩ := hG; go_simp; exact Gives.mk _ _) (fun K hK => ?_); go_simp; refine hK _ ?_; clear hK K) | (refine wpRO_skip rfl rfl (fun K hK => ?_); go_simp; refine hK _ ?_; clear hK K)
              first | (refine wpRO_free rfl rfl _ (fun w' => by go_simp; exact Gives.mk _ _) (fun K hK => ?_); go_simp; refine hK _ ?_; clear hK K) | (refine wpRO_skipF rfl rfl (fun K hK => ?_); go_simp; refine hK _ ?_; clear hK K)
              first | (refine wpRO_pure rfl rfl _ (fun w' hG => by obtain ⟨g0, g1⟩ := hG; exact gives_agg2 rfl (by decide +kernel) rfl (by assumption) (by assumption)) (fun K hK => ?_); go_simp; refine hK _ ?_; clear hK K) | (refine wpRO_pure rfl rfl _ (fun w' hG => by obtain ⟨g0, g1⟩ := hG; go_simp; exact Gives.mk _ _) (fun K hK => ?_); go_simp; refine hK _ ?_; clear hK K) | (refine wpRO_skip rfl rfl (fun K hK => ?_); go_simp; refine hK _ ?_; clear hK K)
              first | (refine wpRO_free rfl rfl _ (fun w' => by go_simp; exact Gives.mk _ _) (fun K hK => ?_); go_simp; refine hK _ ?_; clear hK K) | (refine wpRO_skipF rfl rfl (fun K hK => ?_); go_simp; refine hK _ ?_; clear hK K)
              first | (refine wpRO_free rfl rfl _ (fun w' => by go_simp; exact Gives.mk _ _) (fun K hK => ?_); go_simp; refine hK _ ?_; clear hK K) | (refine wpRO_skipF rfl rfl (fun K hK => ?_); go_simp; refine hK _ ?_; clear hK K)
              first | (refine wpRO_free rfl rfl _ (fun w' => by go_simp; exact Gives.mk _ _) (fun K hK => ?_); go_simp; refine hK _ ?_; clear hK K) | (refine wpRO_skipF rfl rfl (fun K hK => ?_); go_simp; refine hK _ ?_; clear hK K)
              first | (refine wpRO_free rfl rfl _ (fun w' => by go_simp; exact Gives.mk _ _) (fun K hK => ?_); go_simp; refine hK _ ?_; clear hK K) | (refine wpRO_skipF rfl rfl (fun K hK => ?_); go_simp; refine hK _ ?_; clear hK K)
              refine wpRO_fin ?_
              go_wp2_with fail
              go_ret
              exact ⟨ret_bool (by first | rfl | simpa using hd | (simp only [decide_eq_true_eq]; omega)), (HM2.out.hK.trans HKX.out).drew⟩
  · go_wp2_with fail
    go_ret
    exact ⟨rfl, HK1.out⟩

theorem SideOnce_walk (ro : Option Addr) (cr : Nat) (regs : List (Int × Int)) (ao : Option Addr) (ca : Nat) (wait : List (Int × Int)) (bo : Option Addr) (cb : Nat) (alive : List Int) (co : Option Addr) (cc : Nat) (leads : List (Int × Int)) (w : World)
    (h0 : Rd w ro (entV regs)) (l0 : regs.length ≤ maxLen) (_ : ∀ e ∈ regs, (-9223372036854775808 ≤ e.1 ∧ e.1 ≤ 9223372036854775807) ∧ -9223372036854775808 ≤ e.2 ∧ e.2 ≤ 9223372036854775807)
    (h1 : Rd w ao (entV wait)) (l1 : wait.length ≤ maxLen) (_ : ∀ e ∈ wait, (-9223372036854775808 ≤ e.1 ∧ e.1 ≤ 9223372036854775807) ∧ -9223372036854775808 ≤ e.2 ∧ e.2 ≤ 9223372036854775807)
    (h2 : Rd w bo (alive.map (Value.int .i64))) (l2 : alive.length ≤ maxLen) (_ : ∀ x ∈ alive, -9223372036854775808 ≤ x ∧ x ≤ 9223372036854775807)
    (h3 : Rd w co (entV leads)) (l3 : leads.length ≤ maxLen) (_ : ∀ e ∈ leads, (-9223372036854775808 ≤ e.1 ∧ e.1 ≤ 9223372036854775807) ∧ -9223372036854775808 ≤ e.2 ∧ e.2 ≤ 9223372036854775807) :
    Calls Try.prog 6 #[.slice ro regs.length cr, .slice ao wait.length ca, .slice bo alive.length cb, .slice co leads.length cc] w fun e w' => e = .returned (.bool true) ∧ Below w.heap.size w w' :=
  (SideOnce_raw ro cr regs ao ca wait bo cb alive co cc leads w h0 l0 h1 l1 h2 l2 h3 l3).mono fun e w' h => ⟨h.1, h.2.below (fun _ _ h => h)⟩

end Go.Proofs.Ytjifdalflepcoaa
