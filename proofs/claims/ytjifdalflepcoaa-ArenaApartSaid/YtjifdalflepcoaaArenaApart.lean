/-
  ArenaApart (law02.go): things are apart.
-/
import Derived.Test.YtjifdalflepcoaaArenaFull
import Derived.Deep.CutBlock
namespace Go.Proofs.Ytjifdalflepcoaa
open Go.RowKit
set_option linter.unusedVariables false
set_option linter.unusedSimpArgs false

set_option maxHeartbeats 16000000 in
set_option maxRecDepth 100000 in
theorem ArenaApart_raw (n o : Int) (lo : Option Addr) (lc m : Nat) (xs : List Int) (w : World) (h0 : Rd w lo (xs.map (Value.int .i64))) (hx : xs.length = m * 4) (hb : ∀ x ∈ xs, R64 x) :
    Calls Try.prog 13 #[.int .i64 n, .int .i64 o, .slice lo m lc] w fun e w' => e = .returned (.bool true) ∧ Keeps (fun _ => False) w w' := by
  have H0 := Lib.hid h0; have HX := Lib.hid hx; have HBD := Lib.hid hb
  clear h0 hx hb
  go_enter Try.func13, Try.ntmps13
  go_wp2_with fail
  refine (arenaBegun_c _).mono ?_
  rintro e w1 ⟨rfl, hk1⟩
  have HK1 := Lib.hid hk1; clear hk1
  by_cases hm : 150 < m
  · go_wp2_with fail
    go_ret
    exact ⟨rfl, HK1.out⟩
  cases hfit : Ar.fits n o
  · go_wp2_with fail
    refine (ANew_no n o _ hfit).mono ?_
    rintro e w2 ⟨rfl, hk2⟩
    go_wp2_with fail
    go_ret
    exact ⟨rfl, (HK1.out.trans hk2).alloc _⟩
  have HN := Lib.hid (show ∃ a b : Nat, (Ar.new n o).nur = a ∧ (Ar.new n o).ws.length = a + b ∧ 16 ≤ a by
    simp [Ar.fits] at hfit
    exact ⟨n.toNat, o.toNat, rfl, by simp [Ar.new]; omega, by omega⟩)
  go_wp2_with fail
  refine (ANew_yes n o _ hfit).mono ?_
  rintro e w2 ⟨p, g, rfl, hA, hk2, hp, hg⟩
  obtain ⟨a, b, hna, hlb, ha16⟩ := HN.out
  have hka := (Keeps.refl (fun _ => False) w2).alloc (.cells #[.int .i64 0, .int .i64 0] 85)
  have HI := Lib.hid (show ArIn w (w2.alloc (.cells #[.int .i64 0, .int .i64 0] 85)) p g (Ar.new n o) a b from
    ⟨hA.keep hka (fun h => h) (fun h => h), hna, hlb, (HK1.out.trans hk2).trans hka, Nat.le_trans HK1.out.size hp, Nat.le_trans HK1.out.size hg⟩)
  clear hA hk2 hp hg hka hna hlb HN HK1 hfit
  go_wp2_with fail
  generalize w2.alloc (.cells #[.int .i64 0, .int .i64 0] 85) = w3 at *
  go_loopw [9, 10] (fun en i wr => ∃ (k : Nat) (A : Ar), k ≤ m ∧ i = .int .i64 k ∧ en = .int .i64 A.yng ∧ ArIn w wr p g A a b) (fun _ i _ => m - (intOf i).toNat)
  case atStart => exact ⟨0, _, Nat.zero_le _, rfl, rfl, HI.out⟩
  case round =>
    clear HI
    obtain ⟨k, A, hk, rfl, rfl, hI⟩ := hrel
    have GI := Lib.hid hI; clear hI
    by_cases hlt : k < m
    · have hrd := H0.out.keep GI.out.hK (fun _ _ _ h => h)
      obtain ⟨gs, os, rfl, hgl, d0⟩ := hrd.num (k * 4) (by rw [HX.out]; omega)
      obtain ⟨_, _, e', _, d1⟩ := hrd.num (k * 4 + 1) (by rw [HX.out]; omega)
      cases e'
      obtain ⟨_, _, e', _, d2⟩ := hrd.num (k * 4 + 2) (by rw [HX.out]; omega)
      cases e'
      obtain ⟨_, _, e', _, d3⟩ := hrd.num (k * 4 + 3) (by rw [HX.out]; omega)
      cases e'
      rw [← Nat.add_assoc] at d1 d2 d3
      have hy : ∀ j, j < 4 → R64 (xs.getD (k * 4 + j) 0) := fun j hj => HBD.out _ (by rw [List.getD_eq_getElem?_getD, List.getElem?_eq_getElem (by rw [HX.out]; omega)]; exact List.getElem_mem _)
      have HY1 := Lib.hid (hy 1 (by decide)); have HY2 := Lib.hid (hy 2 (by decide)); have HY3 := Lib.hid (hy 3 (by decide))
      generalize xs.getD (k * 4) 0 = d at *
      generalize xs.getD (k * 4 + 1) 0 = x at *
      generalize xs.getD (k * 4 + 2) 0 = y at *
      generalize xs.getD (k * 4 + 3) 0 = z at *
      clear hrd hy
      have hok := GI.out.hA.ok
      have o1 := hok.h1; have o2 := hok.h2; have o3 := hok.h3; have o4 := hok.h4
      have HOK := Lib.hid hok; clear hok
      go_upto_block 2 with (refine wpList_agg rfl 89 (.tmp 51) rfl [.int .i64 d, .int .i64 x, .int .i64 y, .int .i64 z] (by kernel_rfl) gs (os + k * 4) rfl (rangeAt_cons d0 (rangeAt_cons d1 (rangeAt_cons d2 (rangeAt_cons d3 rangeAt_nil)))) ?_)
      clear d0 d1 d2 d3 hgl
      have hbk := Blk.newAt (w := wr) (b := wr.heap.size) (T := 89) #[.int .i64 d, .int .i64 x, .int .i64 y, .int .i64 z] rfl rfl
      have hka := (Keeps.refl (fun _ => False) wr).alloc (.cells #[.int .i64 d, .int .i64 x, .int .i64 y, .int .i64 z] 89)
      have hIb := GI.out.keep hka
      generalize wr.alloc (.cells #[.int .i64 d, .int .i64 x, .int .i64 y, .int .i64 z] 89) = wb at *
      generalize wr.heap.size = be at *
      have HB := Lib.hid hbk; have HI := Lib.hid hIb
      have NB : Hid (∀ (wx : World), Blk wx be [.int .i64 d, .int .i64 x, .int .i64 y, .int .i64 z] 89 → ∀ (B : Ar), ArenaAt wx p g B → ¬ (be = p ∨ be = g)) := fun wx hb B hA h => by
        rcases h with h | h
        · exact hb.ne hA.hp (by decide) h
        · exact hb.ne hA.hg (by decide) h
      clear hbk hka hIb GI
      have b1 := HB.out.cell 1; have b2 := HB.out.cell 2; have b3 := HB.out.cell 3; have bl := HB.out.lt
      simp only [List.getElem?_cons_zero, List.getElem?_cons_succ] at b1 b2 b3
      by_cases hd0 : d = 0
      · as_aux_lemma =>
        subst hd0
        clear b3
        by_cases hc : fitsW x y = true ∧ 1 + y ≤ (A.nur : Int) - A.yng
        · obtain ⟨q, rfl⟩ : ∃ q : Nat, y = q := ⟨y.toNat, by have := fitsW_spec hc.1; omega⟩
          have hq := (fitsW_spec hc.1).2.2.2
          have HMD := Lib.hid (Ar.made HOK.out hc)
          have e1 := Lib.hid (show (A.make x q).1 = (A.yng : Int) by rw [Ar.make_yes hc])
          have hyn := Lib.hid (show (A.make x q).2.yng = A.yng + (1 + (q : Int)).toNat by rw [Ar.make_yes hc])
          have hr1 := hc.2
          clear hc
          go_wp2_with fail
          refine (Make_c x q _ HI.out.hA HY2.out).mono ?_
          rintro e w4 ⟨rfl, ht⟩
          rw [e1.out]
          have HI4 := Lib.hid (HI.out.make ht)
          have HB4 := Lib.hid (ht.k.blk HB.out (NB.out _ HB.out _ HI.out.hA))
          clear ht b1 b2 bl
          have b1 := HB4.out.cell 1; have b2 := HB4.out.cell 2; have bl := HB4.out.lt
          simp only [List.getElem?_cons_zero, List.getElem?_cons_succ] at b1 b2
          go_wp2_with fail
          refine (Thing_c A.yng _ HI4.out.hA).mono ?_
          rintro e w5 ⟨rfl, rfl⟩
          rw [HMD.out.1]
          dsimp only
          go_wp2_with fail
          go_loopw [16] (fun i wx => ∃ j : Nat, j ≤ q ∧ i = .int .i64 j ∧ wx = w4) (fun i _ => q - (intOf i).toNat)
          case atStart => exact ⟨0, Nat.zero_le _, rfl, rfl⟩
          case round =>
            obtain ⟨j, hj, rfl, rfl⟩ := hrel
            by_cases hlt2 : j < q
            · have HLD := Lib.hid (show (A.make x q).2.load ((A.yng : Int) + 1 + j) = 2 by
                have := HMD.out.2 (j + 1) (by omega) (by omega)
                rw [← this]; congr 1; omega)
              go_wp2_with fail
              refine (Load_c ((A.yng : Int) + 1 + j) _ HI4.out.hA).mono ?_
              rintro e w5 ⟨rfl, rfl⟩
              rw [HLD.out]
              go_wp2_with fail
              go_roundw
              case rel => exact ⟨j + 1, by omega, by go_num, by first | rfl | trivial⟩
              case measure => simp [intOf]; omega
            · obtain rfl : j = q := by omega
              go_wp2_with fail
              go_roundw
              case rel => exact ⟨k + 1, (A.make x j).2, by omega, by go_num, int_eq (by rw [hyn.out]; omega), HI4.out⟩
              case measure => simp [intOf]; omega
        · have HE := Lib.hid (Ar.make_no hc)
          go_wp2_with fail
          refine (Make_c x y _ HI.out.hA HY2.out).mono ?_
          rintro e w4 ⟨rfl, ht⟩
          have HI4 := Lib.hid (HI.out.make ht)
          rw [HE.out] at HI4 ⊢
          dsimp only at HI4 ⊢
          clear ht b1 b2 bl hc
          go_wp2_with fail
          go_roundw
          case rel => exact ⟨k + 1, A, by omega, by go_num, rfl, HI4.out⟩
          case measure => simp [intOf]; omega
      by_cases hd1 : d = 1
      · as_aux_lemma =>
        subst hd1
        clear b2 b3 hd0
        by_cases hc : (A.copy x).1 < 0
        · have HI4f := fun w' (t : ArenaTo wb p g w' (A.copy x).2) => HI.out.copy t
          rcases A.copy_cases x with he | ⟨_, _, _, he⟩
          · have HE := Lib.hid he; clear he hc HI4f
            go_wp2_with fail
            refine (ACopy_c x _ HI.out.hA).mono ?_
            rintro e w4 ⟨rfl, ht⟩
            have HI4 := Lib.hid (HI.out.copy ht)
            rw [HE.out] at HI4 ⊢
            dsimp only at HI4 ⊢
            clear ht b1 bl
            go_wp2_with fail
            go_roundw
            case rel => exact ⟨k + 1, A, by omega, by go_num, rfl, HI4.out⟩
            case measure => simp [intOf]; omega
          · rw [he] at hc; simp at hc; omega
        · have hcp := Ar.copied HOK.out hc
          have hfl := A.thing_fields x
          have hx2 : 0 ≤ x ∧ x < 1280 := by
            rcases A.copy_cases x with he | ⟨h1, _, _, he⟩
            · rw [he] at hc; simp at hc
            · have := HOK.out.use_lt (A.thing_use h1); omega
          have HCP := Lib.hid hcp
          have HYN := Lib.hid (A.copy_yng x)
          obtain ⟨⟨kk, q, cc⟩, hT⟩ : ∃ t, A.thing x = t := ⟨_, rfl⟩
          rw [hT] at HCP hfl
          dsimp only at HCP hfl
          obtain ⟨q, rfl⟩ : ∃ r : Nat, q = r := ⟨q.toNat, by omega⟩
          have hq := hfl.2
          clear hcp hc hT hfl
          go_wp2_with fail
          refine (ACopy_c x _ HI.out.hA).mono ?_
          rintro e w4 ⟨rfl, ht⟩
          rw [HCP.out.1]
          have HI4 := Lib.hid (HI.out.copy ht)
          have HB4 := Lib.hid (ht.k.blk HB.out (NB.out _ HB.out _ HI.out.hA))
          clear ht b1 bl
          have hneg : ¬ ((A.grn : Int) < 0) := by omega
          go_wp2_with fail
          refine (Thing_c A.grn _ HI4.out.hA).mono ?_
          rintro e w5 ⟨rfl, rfl⟩
          rw [HCP.out.2.1]
          dsimp only
          go_wp2_with fail
          go_loopw [21] (fun i wx => ∃ j : Nat, j ≤ q + 1 ∧ i = .int .i64 j ∧ Keeps (fun _ => False) w4 wx) (fun i _ => q + 1 - (intOf i).toNat)
          case atStart => exact ⟨0, Nat.zero_le _, rfl, Keeps.refl _ _⟩
          case round =>
            obtain ⟨j, hj, rfl, hkx⟩ := hrel
            have HI5 := Lib.hid (HI4.out.keep hkx); have HB5 := Lib.hid (hkx.blk HB4.out (fun h => h)); have HKX := Lib.hid hkx
            clear hkx
            by_cases hlt2 : j < q + 1
            · have HLD := Lib.hid (HCP.out.2.2 j (by omega))
              have b1 := HB5.out.cell 1; have bl := HB5.out.lt
              simp only [List.getElem?_cons_zero, List.getElem?_cons_succ] at b1
              have hle : (j : Int) ≤ (q : Int) := by omega
              have hw1 : IntKind.i64.wrap ((A.grn : Int) + j) = (A.grn : Int) + j := IntWalk.i64_in _ (by omega)
              have hw2 : IntKind.i64.wrap (x + j) = x + j := IntWalk.i64_in _ (by omega)
              go_wp2_with fail
              refine wp_region_ro (.free 0 (.free 1 (.free 2 (.free 3 (.free 5 (.free 6 (.free 8 (.pure 7 (.free 9 (.run 4 (.run 10 (.swi [] (.free 11 (.fin)))))))))))))) [10, 11] (fun w' => w'.cell? ⟨be, 1, none⟩ = some (.int .i64 x)) (by kernel_rfl) (by kernel_rfl) b1 ?_
              first | (refine wpRO_free rfl rfl _ (fun w' => by go_simp; exact Gives.mk _ _) (fun K hK => ?_); go_simp; refine hK _ ?_; clear hK K) | (refine wpRO_skipF rfl rfl (fun K hK => ?_); go_simp; refine hK _ ?_; clear hK K)
              first | (refine wpRO_free rfl rfl _ (fun w' => by go_simp; exact Gives.mk _ _) (fun K hK => ?_); go_simp; refine hK _ ?_; clear hK K) | (refine wpRO_skipF rfl rfl (fun K hK => ?_); go_simp; refine hK _ ?_; clear hK K)
              first | (refine wpRO_free rfl rfl _ (fun w' => by go_simp; exact Gives.mk _ _) (fun K hK => ?_); go_simp; refine hK _ ?_; clear hK K) | (refine wpRO_skipF rfl rfl (fun K hK => ?_); go_simp; refine hK _ ?_; clear hK K)
              first | (refine wpRO_free rfl rfl _ (fun w' => by go_simp; exact Gives.mk _ _) (fun K hK => ?_); go_simp; refine hK _ ?_; clear hK K) | (refine wpRO_skipF rfl rfl (fun K hK => ?_); go_simp; refine hK _ ?_; clear hK K)
              first | (refine wpRO_free rfl rfl _ (fun w' => by go_simp; exact Gives.mk _ _) (fun K hK => ?_); go_simp; refine hK _ ?_; clear hK K) | (refine wpRO_skipF rfl rfl (fun K hK => ?_); go_simp; refine hK _ ?_; clear hK K)
              first | (refine wpRO_free rfl rfl _ (fun w' => by go_simp; exact Gives.mk _ _) (fun K hK => ?_); go_simp; refine hK _ ?_; clear hK K) | (refine wpRO_skipF rfl rfl (fun K hK => ?_); go_simp; refine hK _ ?_; clear hK K)
              first | (refine wpRO_free rfl rfl _ (fun w' => by go_simp; exact Gives.mk _ _) (fun K hK => ?_); go_simp; refine hK _ ?_; clear hK K) | (refine wpRO_skipF rfl rfl (fun K hK => ?_); go_simp; refine hK _ ?_; clear hK K)
              first | (refine wpRO_pure rfl rfl _ (fun w' hG => by obtain g0 := hG; exact gives_agg2 rfl (by decide +kernel) rfl (by assumption) (by assumption)) (fun K hK => ?_); go_simp; refine hK _ ?_; clear hK K) | (refine wpRO_pure rfl rfl _ (fun w' hG => by obtain g0 := hG; go_simp; exact Gives.mk _ _) (fun K hK => ?_); go_simp; refine hK _ ?_; clear hK K) | (refine wpRO_skip rfl rfl (fun K hK => ?_); go_simp; refine hK _ ?_; clear hK K)
              first | (refine wpRO_free rfl rfl _ (fun w' => by go_simp; exact Gives.mk _ _) (fun K hK => ?_); go_simp; refine hK _ ?_; clear hK K) | (refine wpRO_skipF rfl rfl (fun K hK => ?_); go_simp; refine hK _ ?_; clear hK K)
              refine wpRO_run rfl rfl (fun K hK => ?_); unfold gRun; go_simp
              refine (Load_c ((A.grn : Int) + j) _ (HI5.out.keep (Keeps.refl _ wr).drew).hA).mono ?_
              rintro e w6 ⟨rfl, rfl⟩
              rw [HLD.out]
              refine hK _ _ (fun _ => b1) ?_
              clear hK K
              skip
              refine wpRO_chg rfl rfl rfl (fun K hK => ?_); unfold gRun; go_simp
              refine (Load_c (x + j) _ (HI5.out.keep (Keeps.refl _ wr).drew).hA).mono ?_
              rintro e w6 ⟨rfl, rfl⟩
              refine hK _ _ ?_
              clear hK K
              refine wpRO_swi (fun _ => True) trivial ?_
              first | (refine wpRO_free rfl rfl _ (fun w' => by go_simp; exact Gives.mk _ _) (fun K hK => ?_); go_simp; refine hK _ ?_; clear hK K) | (refine wpRO_skipF rfl rfl (fun K hK => ?_); go_simp; refine hK _ ?_; clear hK K)
              refine wpRO_fin ?_
              clear hw1 hw2 b1
              go_wp2_with fail
              go_roundw
              case rel => exact ⟨j + 1, by omega, by go_num, HKX.out.drew⟩
              case measure => simp [intOf]; omega
            · obtain rfl : j = q + 1 := by omega
              have hle : ¬ (((q + 1 : Nat) : Int) ≤ (q : Int)) := by omega
              go_wp2_with fail
              go_roundw
              case rel => exact ⟨k + 1, _, by omega, by go_num, by rw [HYN.out], HI5.out⟩
              case measure => simp [intOf]; omega
      by_cases hd2 : d = 2
      · as_aux_lemma =>
        subst hd2
        clear b2 hd0 hd1
        go_wp2_with fail
        refine (Words_c _ HI.out.hA).mono ?_
        rintro e w4 ⟨uo, uc, rfl, hs4, hk4, ho4⟩
        have HI4 := Lib.hid (HI.out.keep hk4); have HB4 := Lib.hid (hk4.blk HB.out (fun h => h)); have HS4 := Lib.hid hs4
        have HO4 : Hid (∀ k, ownB (.slice uo A.ws.length uc) k → ¬ (k = p ∨ k = g)) := fun k hk h => by
          have h1 := ho4 k hk; have h2 := HI.out.hA.hp.lt; have h3 := HI.out.hA.hg.lt; omega
        clear hk4 hs4 ho4 b1 b3 bl
        have b1 := HB4.out.cell 1; have b3 := HB4.out.cell 3; have bl := HB4.out.lt
        simp only [List.getElem?_cons_zero, List.getElem?_cons_succ] at b1 b3
        go_wp2_with fail
        refine (Store_c x z _ HI4.out.hA HY3.out).mono ?_
        rintro e w5 ⟨rfl, ht⟩
        have HI5 := Lib.hid (HI4.out.store ht); have HB5 := Lib.hid (ht.k.blk HB4.out (NB.out _ HB4.out _ HI4.out.hA)); have HS5 := Lib.hid (HS4.out.keep ht.k (fun k hk h => HO4.out k hk h))
        clear ht b1 b3 bl HI4 HB4 HS4 HO4
        have hl : (A.store x z).ws.length = A.ws.length := by unfold Ar.store; split <;> simp
        have hy : (A.store x z).yng = A.yng := by unfold Ar.store; split <;> rfl
        have HL := Lib.hid hl; have HYN := Lib.hid hy
        have HGET : Hid (∀ j : Nat, j < A.ws.length → (A.store x z).ws.getD j 0 = if A.inUse x = true ∧ x = j then z else A.ws.getD j 0) := fun j hj => by
          unfold Ar.store
          by_cases hu : A.inUse x = true
          · rw [if_pos hu]
            have hx := HOK.out.use_lt hu
            simp only [List.getD_eq_getElem?_getD, List.getElem?_set]
            by_cases hxj : x = j
            · subst hxj; simp [hu, hj]
            · rw [if_neg (by omega), if_neg (fun h => hxj h.2)]
          · rw [if_neg hu, if_neg (fun h => hu h.1)]
        have HUX : Hid (A.inUse x = true → 0 ≤ x) := fun hu => (HOK.out.use_lt hu).1
        clear hl hy
        obtain ⟨U, hU⟩ : ∃ U, A.inUse x = U := ⟨_, rfl⟩
        rw [hU] at HGET HUX ⊢
        clear hU
        generalize A.store x z = A5 at *
        go_wp2_with fail
        refine (Words_c _ HI5.out.hA).mono ?_
        rintro e w6 ⟨vo, vc, rfl, hs6, hk6, -⟩
        rw [HL.out] at hs6 ⊢
        have HI6 := Lib.hid (HI5.out.keep hk6); have HB6 := Lib.hid (hk6.blk HB5.out (fun h => h)); have HS6 := Lib.hid (HS5.out.keep hk6 (fun _ _ h => h)); have HV6 := Lib.hid hs6
        clear hk6 hs6 HI5 HB5 HS5
        go_wp2_with fail
        go_loopw [25] (fun i wx => ∃ j : Nat, j ≤ A.ws.length ∧ i = .int .i64 j ∧ Keeps (fun _ => False) w6 wx) (fun i _ => A.ws.length - (intOf i).toNat)
        case atStart => exact ⟨0, Nat.zero_le _, rfl, Keeps.refl _ _⟩
        case round =>
          obtain ⟨j, hj, rfl, hkx⟩ := hrel
          have HKX := Lib.hid hkx; clear hkx
          by_cases hlt2 : j < A.ws.length
          · obtain ⟨_, _, e', hr1, -, -⟩ := (HS6.out.keep HKX.out (fun _ _ h => h)).rd
            cases e'
            obtain ⟨ug, uo, rfl, _, u0⟩ := hr1.num j hlt2
            obtain ⟨_, _, e', hr2, -, -⟩ := (HV6.out.keep HKX.out (fun _ _ h => h)).rd
            cases e'
            have hl5 : j < A5.ws.length := by rw [HL.out]; exact hlt2
            obtain ⟨vg, vo, rfl, _, v0⟩ := hr2.num j hl5
            rw [HGET.out j hlt2] at v0
            have hb := HKX.out.blk HB6.out (fun h => h)
            have b1 := hb.cell 1; have b3 := hb.cell 3; have bl := hb.lt
            simp only [List.getElem?_cons_zero, List.getElem?_cons_succ] at b1 b3
            generalize A.ws.getD j 0 = v at *
            clear hr1 hr2 hb hl5
            by_cases hjx : x = j
            · have ej : ((j : Int) == x) = true := by simp [hjx]
              have ej2 : ((j : Int) != x) = false := by simp [hjx]
              cases U
              · simp only [Bool.false_eq_true, false_and, if_false] at v0
                clear hjx
                have evv : (v != v) = false := by simp
                go_wp2_with fail
                refine wp_region_ro (.free 0 (.free 1 (.free 2 (.free 4 (.free 5 (.free 6 (.pure 3 (.pure 7 (.free 8 (.free 9 (.free 10 (.free 11 (.pure 12 (.free 13 (.free 14 (.free 15 (.free 16 (.free 17 (.free 18 (.free 19 (.free 20 (.free 21 (.pure 22 (.free 23 (.free 24 (.free 25 (.free 26 (.free 27 (.free 28 (.free 29 (.free 30 (.free 32 (.pure 31 (.pure 33 (.free 34 (.free 35 (.free 36 (.fin)))))))))))))))))))))))))))))))))))))) [] (fun w' => w'.cell? ⟨ug, uo + j, none⟩ = some (.int .i64 v) ∧ w'.cell? ⟨vg, vo + j, none⟩ = some (.int .i64 v) ∧ w'.cell? ⟨be, 1, none⟩ = some (.int .i64 x) ∧ w'.cell? ⟨be, 3, none⟩ = some (.int .i64 z)) (by kernel_rfl) (by kernel_rfl) ⟨u0, v0, b1, b3⟩ ?_
                first | (refine wpRO_free rfl rfl _ (fun w' => by go_simp; exact Gives.mk _ _) (fun K hK => ?_); go_simp; refine hK _ ?_; clear hK K) | (refine wpRO_skipF rfl rfl (fun K hK => ?_); go_simp; refine hK _ ?_; clear hK K)
                first | (refine wpRO_free rfl rfl _ (fun w' => by go_simp; exact Gives.mk _ _) (fun K hK => ?_); go_simp; refine hK _ ?_; clear hK K) | (refine wpRO_skipF rfl rfl (fun K hK => ?_); go_simp; refine hK _ ?_; clear hK K)
                first | (refine wpRO_free rfl rfl _ (fun w' => by go_simp; exact Gives.mk _ _) (fun K hK => ?_); go_simp; refine hK _ ?_; clear hK K) | (refine wpRO_skipF rfl rfl (fun K hK => ?_); go_simp; refine hK _ ?_; clear hK K)
                first | (refine wpRO_free rfl rfl _ (fun w' => by go_simp; exact Gives.mk _ _) (fun K hK => ?_); go_simp; refine hK _ ?_; clear hK K) | (refine wpRO_skipF rfl rfl (fun K hK => ?_); go_simp; refine hK _ ?_; clear hK K)
                first | (refine wpRO_free rfl rfl _ (fun w' => by go_simp; exact Gives.mk _ _) (fun K hK => ?_); go_simp; refine hK _ ?_; clear hK K) | (refine wpRO_skipF rfl rfl (fun K hK => ?_); go_simp; refine hK _ ?_; clear hK K)
                first | (refine wpRO_free rfl rfl _ (fun w' => by go_simp; exact Gives.mk _ _) (fun K hK => ?_); go_simp; refine hK _ ?_; clear hK K) | (refine wpRO_skipF rfl rfl (fun K hK => ?_); go_simp; refine hK _ ?_; clear hK K)
                first | (refine wpRO_pure rfl rfl _ (fun w' hG => by obtain ⟨g0, g1, g2, g3⟩ := hG; exact gives_agg2 rfl (by decide +kernel) rfl (by assumption) (by assumption)) (fun K hK => ?_); go_simp; refine hK _ ?_; clear hK K) | (refine wpRO_pure rfl rfl _ (fun w' hG => by obtain ⟨g0, g1, g2, g3⟩ := hG; go_simp; exact Gives.mk _ _) (fun K hK => ?_); go_simp; refine hK _ ?_; clear hK K) | (refine wpRO_skip rfl rfl (fun K hK => ?_); go_simp; refine hK _ ?_; clear hK K)
                first | (refine wpRO_pure rfl rfl _ (fun w' hG => by obtain ⟨g0, g1, g2, g3⟩ := hG; exact gives_agg2 rfl (by decide +kernel) rfl (by assumption) (by assumption)) (fun K hK => ?_); go_simp; refine hK _ ?_; clear hK K) | (refine wpRO_pure rfl rfl _ (fun w' hG => by obtain ⟨g0, g1, g2, g3⟩ := hG; go_simp; exact Gives.mk _ _) (fun K hK => ?_); go_simp; refine hK _ ?_; clear hK K) | (refine wpRO_skip rfl rfl (fun K hK => ?_); go_simp; refine hK _ ?_; clear hK K)
                first | (refine wpRO_free rfl rfl _ (fun w' => by go_simp; exact Gives.mk _ _) (fun K hK => ?_); go_simp; refine hK _ ?_; clear hK K) | (refine wpRO_skipF rfl rfl (fun K hK => ?_); go_simp; refine hK _ ?_; clear hK K)
                first | (refine wpRO_free rfl rfl _ (fun w' => by go_simp; exact Gives.mk _ _) (fun K hK => ?_); go_simp; refine hK _ ?_; clear hK K) | (refine wpRO_skipF rfl rfl (fun K hK => ?_); go_simp; refine hK _ ?_; clear hK K)
                first | (refine wpRO_free rfl rfl _ (fun w' => by go_simp; exact Gives.mk _ _) (fun K hK => ?_); go_simp; refine hK _ ?_; clear hK K) | (refine wpRO_skipF rfl rfl (fun K hK => ?_); go_simp; refine hK _ ?_; clear hK K)
                first | (refine wpRO_free rfl rfl _ (fun w' => by go_simp; exact Gives.mk _ _) (fun K hK => ?_); go_simp; refine hK _ ?_; clear hK K) | (refine wpRO_skipF rfl rfl (fun K hK => ?_); go_simp; refine hK _ ?_; clear hK K)
                first | (refine wpRO_pure rfl rfl _ (fun w' hG => by obtain ⟨g0, g1, g2, g3⟩ := hG; exact gives_agg2 rfl (by decide +kernel) rfl (by assumption) (by assumption)) (fun K hK => ?_); go_simp; refine hK _ ?_; clear hK K) | (refine wpRO_pure rfl rfl _ (fun w' hG => by obtain ⟨g0, g1, g2, g3⟩ := hG; go_simp; exact Gives.mk _ _) (fun K hK => ?_); go_simp; refine hK _ ?_; clear hK K) | (refine wpRO_skip rfl rfl (fun K hK => ?_); go_simp; refine hK _ ?_; clear hK K)
                first | (refine wpRO_free rfl rfl _ (fun w' => by go_simp; exact Gives.mk _ _) (fun K hK => ?_); go_simp; refine hK _ ?_; clear hK K) | (refine wpRO_skipF rfl rfl (fun K hK => ?_); go_simp; refine hK _ ?_; clear hK K)
                first | (refine wpRO_free rfl rfl _ (fun w' => by go_simp; exact Gives.mk _ _) (fun K hK => ?_); go_simp; refine hK _ ?_; clear hK K) | (refine wpRO_skipF rfl rfl (fun K hK => ?_); go_simp; refine hK _ ?_; clear hK K)
                first | (refine wpRO_free rfl rfl _ (fun w' => by go_simp; exact Gives.mk _ _) (fun K hK => ?_); go_simp; refine hK _ ?_; clear hK K) | (refine wpRO_skipF rfl rfl (fun K hK => ?_); go_simp; refine hK _ ?_; clear hK K)
                first | (refine wpRO_free rfl rfl _ (fun w' => by go_simp; exact Gives.mk _ _) (fun K hK => ?_); go_simp; refine hK _ ?_; clear hK K) | (refine wpRO_skipF rfl rfl (fun K hK => ?_); go_simp; refine hK _ ?_; clear hK K)
                first | (refine wpRO_free rfl rfl _ (fun w' => by go_simp; exact Gives.mk _ _) (fun K hK => ?_); go_simp; refine hK _ ?_; clear hK K) | (refine wpRO_skipF rfl rfl (fun K hK => ?_); go_simp; refine hK _ ?_; clear hK K)
                first | (refine wpRO_free rfl rfl _ (fun w' => by go_simp; exact Gives.mk _ _) (fun K hK => ?_); go_simp; refine hK _ ?_; clear hK K) | (refine wpRO_skipF rfl rfl (fun K hK => ?_); go_simp; refine hK _ ?_; clear hK K)
                first | (refine wpRO_free rfl rfl _ (fun w' => by go_simp; exact Gives.mk _ _) (fun K hK => ?_); go_simp; refine hK _ ?_; clear hK K) | (refine wpRO_skipF rfl rfl (fun K hK => ?_); go_simp; refine hK _ ?_; clear hK K)
                first | (refine wpRO_free rfl rfl _ (fun w' => by go_simp; exact Gives.mk _ _) (fun K hK => ?_); go_simp; refine hK _ ?_; clear hK K) | (refine wpRO_skipF rfl rfl (fun K hK => ?_); go_simp; refine hK _ ?_; clear hK K)
                first | (refine wpRO_free rfl rfl _ (fun w' => by go_simp; exact Gives.mk _ _) (fun K hK => ?_); go_simp; refine hK _ ?_; clear hK K) | (refine wpRO_skipF rfl rfl (fun K hK => ?_); go_simp; refine hK _ ?_; clear hK K)
                first | (refine wpRO_pure rfl rfl _ (fun w' hG => by obtain ⟨g0, g1, g2, g3⟩ := hG; exact gives_agg2 rfl (by decide +kernel) rfl (by assumption) (by assumption)) (fun K hK => ?_); go_simp; refine hK _ ?_; clear hK K) | (refine wpRO_pure rfl rfl _ (fun w' hG => by obtain ⟨g0, g1, g2, g3⟩ := hG; go_simp; exact Gives.mk _ _) (fun K hK => ?_); go_simp; refine hK _ ?_; clear hK K) | (refine wpRO_skip rfl rfl (fun K hK => ?_); go_simp; refine hK _ ?_; clear hK K)
                first | (refine wpRO_free rfl rfl _ (fun w' => by go_simp; exact Gives.mk _ _) (fun K hK => ?_); go_simp; refine hK _ ?_; clear hK K) | (refine wpRO_skipF rfl rfl (fun K hK => ?_); go_simp; refine hK _ ?_; clear hK K)
                first | (refine wpRO_free rfl rfl _ (fun w' => by go_simp; exact Gives.mk _ _) (fun K hK => ?_); go_simp; refine hK _ ?_; clear hK K) | (refine wpRO_skipF rfl rfl (fun K hK => ?_); go_simp; refine hK _ ?_; clear hK K)
                first | (refine wpRO_free rfl rfl _ (fun w' => by go_simp; exact Gives.mk _ _) (fun K hK => ?_); go_simp; refine hK _ ?_; clear hK K) | (refine wpRO_skipF rfl rfl (fun K hK => ?_); go_simp; refine hK _ ?_; clear hK K)
                first | (refine wpRO_free rfl rfl _ (fun w' => by go_simp; exact Gives.mk _ _) (fun K hK => ?_); go_simp; refine hK _ ?_; clear hK K) | (refine wpRO_skipF rfl rfl (fun K hK => ?_); go_simp; refine hK _ ?_; clear hK K)
                first | (refine wpRO_free rfl rfl _ (fun w' => by go_simp; exact Gives.mk _ _) (fun K hK => ?_); go_simp; refine hK _ ?_; clear hK K) | (refine wpRO_skipF rfl rfl (fun K hK => ?_); go_simp; refine hK _ ?_; clear hK K)
                first | (refine wpRO_free rfl rfl _ (fun w' => by go_simp; exact Gives.mk _ _) (fun K hK => ?_); go_simp; refine hK _ ?_; clear hK K) | (refine wpRO_skipF rfl rfl (fun K hK => ?_); go_simp; refine hK _ ?_; clear hK K)
                first | (refine wpRO_free rfl rfl _ (fun w' => by go_simp; exact Gives.mk _ _) (fun K hK => ?_); go_simp; refine hK _ ?_; clear hK K) | (refine wpRO_skipF rfl rfl (fun K hK => ?_); go_simp; refine hK _ ?_; clear hK K)
                first | (refine wpRO_free rfl rfl _ (fun w' => by go_simp; exact Gives.mk _ _) (fun K hK => ?_); go_simp; refine hK _ ?_; clear hK K) | (refine wpRO_skipF rfl rfl (fun K hK => ?_); go_simp; refine hK _ ?_; clear hK K)
                first | (refine wpRO_free rfl rfl _ (fun w' => by go_simp; exact Gives.mk _ _) (fun K hK => ?_); go_simp; refine hK _ ?_; clear hK K) | (refine wpRO_skipF rfl rfl (fun K hK => ?_); go_simp; refine hK _ ?_; clear hK K)
                first | (refine wpRO_pure rfl rfl _ (fun w' hG => by obtain ⟨g0, g1, g2, g3⟩ := hG; exact gives_agg2 rfl (by decide +kernel) rfl (by assumption) (by assumption)) (fun K hK => ?_); go_simp; refine hK _ ?_; clear hK K) | (refine wpRO_pure rfl rfl _ (fun w' hG => by obtain ⟨g0, g1, g2, g3⟩ := hG; go_simp; exact Gives.mk _ _) (fun K hK => ?_); go_simp; refine hK _ ?_; clear hK K) | (refine wpRO_skip rfl rfl (fun K hK => ?_); go_simp; refine hK _ ?_; clear hK K)
                first | (refine wpRO_pure rfl rfl _ (fun w' hG => by obtain ⟨g0, g1, g2, g3⟩ := hG; exact gives_agg2 rfl (by decide +kernel) rfl (by assumption) (by assumption)) (fun K hK => ?_); go_simp; refine hK _ ?_; clear hK K) | (refine wpRO_pure rfl rfl _ (fun w' hG => by obtain ⟨g0, g1, g2, g3⟩ := hG; go_simp; exact Gives.mk _ _) (fun K hK => ?_); go_simp; refine hK _ ?_; clear hK K) | (refine wpRO_skip rfl rfl (fun K hK => ?_); go_simp; refine hK _ ?_; clear hK K)
                first | (refine wpRO_free rfl rfl _ (fun w' => by go_simp; exact Gives.mk _ _) (fun K hK => ?_); go_simp; refine hK _ ?_; clear hK K) | (refine wpRO_skipF rfl rfl (fun K hK => ?_); go_simp; refine hK _ ?_; clear hK K)
                first | (refine wpRO_free rfl rfl _ (fun w' => by go_simp; exact Gives.mk _ _) (fun K hK => ?_); go_simp; refine hK _ ?_; clear hK K) | (refine wpRO_skipF rfl rfl (fun K hK => ?_); go_simp; refine hK _ ?_; clear hK K)
                first | (refine wpRO_free rfl rfl _ (fun w' => by go_simp; exact Gives.mk _ _) (fun K hK => ?_); go_simp; refine hK _ ?_; clear hK K) | (refine wpRO_skipF rfl rfl (fun K hK => ?_); go_simp; refine hK _ ?_; clear hK K)
                refine wpRO_fin ?_
                clear u0 v0 b1 b3 ej ej2 evv
                go_wp2_with fail
                go_roundw
                case rel => exact ⟨j + 1, by omega, by go_num, HKX.out.drew⟩
                case measure => simp [intOf]; omega
              · simp only [hjx, and_self, if_true] at v0
                clear hjx
                cases evv : (z != v)
                · go_wp2_with fail
                  refine wp_region_ro (.free 0 (.free 1 (.free 2 (.free 4 (.free 5 (.free 6 (.pure 3 (.pure 7 (.free 8 (.free 9 (.free 10 (.free 11 (.pure 12 (.free 13 (.free 14 (.free 15 (.free 16 (.free 17 (.free 18 (.free 19 (.free 20 (.free 21 (.pure 22 (.free 23 (.free 24 (.free 25 (.free 26 (.free 27 (.free 28 (.free 29 (.free 30 (.free 32 (.pure 31 (.pure 33 (.free 34 (.free 35 (.free 36 (.fin)))))))))))))))))))))))))))))))))))))) [] (fun w' => w'.cell? ⟨ug, uo + j, none⟩ = some (.int .i64 v) ∧ w'.cell? ⟨vg, vo + j, none⟩ = some (.int .i64 z) ∧ w'.cell? ⟨be, 1, none⟩ = some (.int .i64 x) ∧ w'.cell? ⟨be, 3, none⟩ = some (.int .i64 z)) (by kernel_rfl) (by kernel_rfl) ⟨u0, v0, b1, b3⟩ ?_
                  first | (refine wpRO_free rfl rfl _ (fun w' => by go_simp; exact Gives.mk _ _) (fun K hK => ?_); go_simp; refine hK _ ?_; clear hK K) | (refine wpRO_skipF rfl rfl (fun K hK => ?_); go_simp; refine hK _ ?_; clear hK K)
                  first | (refine wpRO_free rfl rfl _ (fun w' => by go_simp; exact Gives.mk _ _) (fun K hK => ?_); go_simp; refine hK _ ?_; clear hK K) | (refine wpRO_skipF rfl rfl (fun K hK => ?_); go_simp; refine hK _ ?_; clear hK K)
                  first | (refine wpRO_free rfl rfl _ (fun w' => by go_simp; exact Gives.mk _ _) (fun K hK => ?_); go_simp; refine hK _ ?_; clear hK K) | (refine wpRO_skipF rfl rfl (fun K hK => ?_); go_simp; refine hK _ ?_; clear hK K)
                  first | (refine wpRO_free rfl rfl _ (fun w' => by go_simp; exact Gives.mk _ _) (fun K hK => ?_); go_simp; refine hK _ ?_; clear hK K) | (refine wpRO_skipF rfl rfl (fun K hK => ?_); go_simp; refine hK _ ?_; clear hK K)
                  first | (refine wpRO_free rfl rfl _ (fun w' => by go_simp; exact Gives.mk _ _) (fun K hK => ?_); go_simp; refine hK _ ?_; clear hK K) | (refine wpRO_skipF rfl rfl (fun K hK => ?_); go_simp; refine hK _ ?_; clear hK K)
                  first | (refine wpRO_free rfl rfl _ (fun w' => by go_simp; exact Gives.mk _ _) (fun K hK => ?_); go_simp; refine hK _ ?_; clear hK K) | (refine wpRO_skipF rfl rfl (fun K hK => ?_); go_simp; refine hK _ ?_; clear hK K)
                  first | (refine wpRO_pure rfl rfl _ (fun w' hG => by obtain ⟨g0, g1, g2, g3⟩ := hG; exact gives_agg2 rfl (by decide +kernel) rfl (by assumption) (by assumption)) (fun K hK => ?_); go_simp; refine hK _ ?_; clear hK K) | (refine wpRO_pure rfl rfl _ (fun w' hG => by obtain ⟨g0, g1, g2, g3⟩ := hG; go_simp; exact Gives.mk _ _) (fun K hK => ?_); go_simp; refine hK _ ?_; clear hK K) | (refine wpRO_skip rfl rfl (fun K hK => ?_); go_simp; refine hK _ ?_; clear hK K)
                  first | (refine wpRO_pure rfl rfl _ (fun w' hG => by obtain ⟨g0, g1, g2, g3⟩ := hG; exact gives_agg2 rfl (by decide +kernel) rfl (by assumption) (by assumption)) (fun K hK => ?_); go_simp; refine hK _ ?_; clear hK K) | (refine wpRO_pure rfl rfl _ (fun w' hG => by obtain ⟨g0, g1, g2, g3⟩ := hG; go_simp; exact Gives.mk _ _) (fun K hK => ?_); go_simp; refine hK _ ?_; clear hK K) | (refine wpRO_skip rfl rfl (fun K hK => ?_); go_simp; refine hK _ ?_; clear hK K)
                  first | (refine wpRO_free rfl rfl _ (fun w' => by go_simp; exact Gives.mk _ _) (fun K hK => ?_); go_simp; refine hK _ ?_; clear hK K) | (refine wpRO_skipF rfl rfl (fun K hK => ?_); go_simp; refine hK _ ?_; clear hK K)
                  first | (refine wpRO_free rfl rfl _ (fun w' => by go_simp; exact Gives.mk _ _) (fun K hK => ?_); go_simp; refine hK _ ?_; clear hK K) | (refine wpRO_skipF rfl rfl (fun K hK => ?_); go_simp; refine hK _ ?_; clear hK K)
                  first | (refine wpRO_free rfl rfl _ (fun w' => by go_simp; exact Gives.mk _ _) (fun K hK => ?_); go_simp; refine hK _ ?_; clear hK K) | (refine wpRO_skipF rfl rfl (fun K hK => ?_); go_simp; refine hK _ ?_; clear hK K)
                  first | (refine wpRO_free rfl rfl _ (fun w' => by go_simp; exact Gives.mk _ _) (fun K hK => ?_); go_simp; refine hK _ ?_; clear hK K) | (refine wpRO_skipF rfl rfl (fun K hK => ?_); go_simp; refine hK _ ?_; clear hK K)
                  first | (refine wpRO_pure rfl rfl _ (fun w' hG => by obtain ⟨g0, g1, g2, g3⟩ := hG; exact gives_agg2 rfl (by decide +kernel) rfl (by assumption) (by assumption)) (fun K hK => ?_); go_simp; refine hK _ ?_; clear hK K) | (refine wpRO_pure rfl rfl _ (fun w' hG => by obtain ⟨g0, g1, g2, g3⟩ := hG; go_simp; exact Gives.mk _ _) (fun K hK => ?_); go_simp; refine hK _ ?_; clear hK K) | (refine wpRO_skip rfl rfl (fun K hK => ?_); go_simp; refine hK _ ?_; clear hK K)
                  first | (refine wpRO_free rfl rfl _ (fun w' => by go_simp; exact Gives.mk _ _) (fun K hK => ?_); go_simp; refine hK _ ?_; clear hK K) | (refine wpRO_skipF rfl rfl (fun K hK => ?_); go_simp; refine hK _ ?_; clear hK K)
                  first | (refine wpRO_free rfl rfl _ (fun w' => by go_simp; exact Gives.mk _ _) (fun K hK => ?_); go_simp; refine hK _ ?_; clear hK K) | (refine wpRO_skipF rfl rfl (fun K hK => ?_); go_simp; refine hK _ ?_; clear hK K)
                  first | (refine wpRO_free rfl rfl _ (fun w' => by go_simp; exact Gives.mk _ _) (fun K hK => ?_); go_simp; refine hK _ ?_; clear hK K) | (refine wpRO_skipF rfl rfl (fun K hK => ?_); go_simp; refine hK _ ?_; clear hK K)
                  first | (refine wpRO_free rfl rfl _ (fun w' => by go_simp; exact Gives.mk _ _) (fun K hK => ?_); go_simp; refine hK _ ?_; clear hK K) | (refine wpRO_skipF rfl rfl (fun K hK => ?_); go_simp; refine hK _ ?_; clear hK K)
                  first | (refine wpRO_free rfl rfl _ (fun w' => by go_simp; exact Gives.mk _ _) (fun K hK => ?_); go_simp; refine hK _ ?_; clear hK K) | (refine wpRO_skipF rfl rfl (fun K hK => ?_); go_simp; refine hK _ ?_; clear hK K)
                  first | (refine wpRO_free rfl rfl _ (fun w' => by go_simp; exact Gives.mk _ _) (fun K hK => ?_); go_simp; refine hK _ ?_; clear hK K) | (refine wpRO_skipF rfl rfl (fun K hK => ?_); go_simp; refine hK _ ?_; clear hK K)
                  first | (refine wpRO_free rfl rfl _ (fun w' => by go_simp; exact Gives.mk _ _) (fun K hK => ?_); go_simp; refine hK _ ?_; clear hK K) | (refine wpRO_skipF rfl rfl (fun K hK => ?_); go_simp; refine hK _ ?_; clear hK K)
                  first | (refine wpRO_free rfl rfl _ (fun w' => by go_simp; exact Gives.mk _ _) (fun K hK => ?_); go_simp; refine hK _ ?_; clear hK K) | (refine wpRO_skipF rfl rfl (fun K hK => ?_); go_simp; refine hK _ ?_; clear hK K)
                  first | (refine wpRO_free rfl rfl _ (fun w' => by go_simp; exact Gives.mk _ _) (fun K hK => ?_); go_simp; refine hK _ ?_; clear hK K) | (refine wpRO_skipF rfl rfl (fun K hK => ?_); go_simp; refine hK _ ?_; clear hK K)
                  first | (refine wpRO_pure rfl rfl _ (fun w' hG => by obtain ⟨g0, g1, g2, g3⟩ := hG; exact gives_agg2 rfl (by decide +kernel) rfl (by assumption) (by assumption)) (fun K hK => ?_); go_simp; refine hK _ ?_; clear hK K) | (refine wpRO_pure rfl rfl _ (fun w' hG => by obtain ⟨g0, g1, g2, g3⟩ := hG; go_simp; exact Gives.mk _ _) (fun K hK => ?_); go_simp; refine hK _ ?_; clear hK K) | (refine wpRO_skip rfl rfl (fun K hK => ?_); go_simp; refine hK _ ?_; clear hK K)
                  first | (refine wpRO_free rfl rfl _ (fun w' => by go_simp; exact Gives.mk _ _) (fun K hK => ?_); go_simp; refine hK _ ?_; clear hK K) | (refine wpRO_skipF rfl rfl (fun K hK => ?_); go_simp; refine hK _ ?_; clear hK K)
                  first | (refine wpRO_free rfl rfl _ (fun w' => by go_simp; exact Gives.mk _ _) (fun K hK => ?_); go_simp; refine hK _ ?_; clear hK K) | (refine wpRO_skipF rfl rfl (fun K hK => ?_); go_simp; refine hK _ ?_; clear hK K)
                  first | (refine wpRO_free rfl rfl _ (fun w' => by go_simp; exact Gives.mk _ _) (fun K hK => ?_); go_simp; refine hK _ ?_; clear hK K) | (refine wpRO_skipF rfl rfl (fun K hK => ?_); go_simp; refine hK _ ?_; clear hK K)
                  first | (refine wpRO_free rfl rfl _ (fun w' => by go_simp; exact Gives.mk _ _) (fun K hK => ?_); go_simp; refine hK _ ?_; clear hK K) | (refine wpRO_skipF rfl rfl (fun K hK => ?_); go_simp; refine hK _ ?_; clear hK K)
                  first | (refine wpRO_free rfl rfl _ (fun w' => by go_simp; exact Gives.mk _ _) (fun K hK => ?_); go_simp; refine hK _ ?_; clear hK K) | (refine wpRO_skipF rfl rfl (fun K hK => ?_); go_simp; refine hK _ ?_; clear hK K)
                  first | (refine wpRO_free rfl rfl _ (fun w' => by go_simp; exact Gives.mk _ _) (fun K hK => ?_); go_simp; refine hK _ ?_; clear hK K) | (refine wpRO_skipF rfl rfl (fun K hK => ?_); go_simp; refine hK _ ?_; clear hK K)
                  first | (refine wpRO_free rfl rfl _ (fun w' => by go_simp; exact Gives.mk _ _) (fun K hK => ?_); go_simp; refine hK _ ?_; clear hK K) | (refine wpRO_skipF rfl rfl (fun K hK => ?_); go_simp; refine hK _ ?_; clear hK K)
                  first | (refine wpRO_free rfl rfl _ (fun w' => by go_simp; exact Gives.mk _ _) (fun K hK => ?_); go_simp; refine hK _ ?_; clear hK K) | (refine wpRO_skipF rfl rfl (fun K hK => ?_); go_simp; refine hK _ ?_; clear hK K)
                  first | (refine wpRO_free rfl rfl _ (fun w' => by go_simp; exact Gives.mk _ _) (fun K hK => ?_); go_simp; refine hK _ ?_; clear hK K) | (refine wpRO_skipF rfl rfl (fun K hK => ?_); go_simp; refine hK _ ?_; clear hK K)
                  first | (refine wpRO_pure rfl rfl _ (fun w' hG => by obtain ⟨g0, g1, g2, g3⟩ := hG; exact gives_agg2 rfl (by decide +kernel) rfl (by assumption) (by assumption)) (fun K hK => ?_); go_simp; refine hK _ ?_; clear hK K) | (refine wpRO_pure rfl rfl _ (fun w' hG => by obtain ⟨g0, g1, g2, g3⟩ := hG; go_simp; exact Gives.mk _ _) (fun K hK => ?_); go_simp; refine hK _ ?_; clear hK K) | (refine wpRO_skip rfl rfl (fun K hK => ?_); go_simp; refine hK _ ?_; clear hK K)
                  first | (refine wpRO_pure rfl rfl _ (fun w' hG => by obtain ⟨g0, g1, g2, g3⟩ := hG; exact gives_agg2 rfl (by decide +kernel) rfl (by assumption) (by assumption)) (fun K hK => ?_); go_simp; refine hK _ ?_; clear hK K) | (refine wpRO_pure rfl rfl _ (fun w' hG => by obtain ⟨g0, g1, g2, g3⟩ := hG; go_simp; exact Gives.mk _ _) (fun K hK => ?_); go_simp; refine hK _ ?_; clear hK K) | (refine wpRO_skip rfl rfl (fun K hK => ?_); go_simp; refine hK _ ?_; clear hK K)
                  first | (refine wpRO_free rfl rfl _ (fun w' => by go_simp; exact Gives.mk _ _) (fun K hK => ?_); go_simp; refine hK _ ?_; clear hK K) | (refine wpRO_skipF rfl rfl (fun K hK => ?_); go_simp; refine hK _ ?_; clear hK K)
                  first | (refine wpRO_free rfl rfl _ (fun w' => by go_simp; exact Gives.mk _ _) (fun K hK => ?_); go_simp; refine hK _ ?_; clear hK K) | (refine wpRO_skipF rfl rfl (fun K hK => ?_); go_simp; refine hK _ ?_; clear hK K)
                  first | (refine wpRO_free rfl rfl _ (fun w' => by go_simp; exact Gives.mk _ _) (fun K hK => ?_); go_simp; refine hK _ ?_; clear hK K) | (refine wpRO_skipF rfl rfl (fun K hK => ?_); go_simp; refine hK _ ?_; clear hK K)
                  refine wpRO_fin ?_
                  clear u0 v0 b1 b3 ej ej2 evv
                  go_wp2_with fail
                  go_roundw
                  case rel => exact ⟨j + 1, by omega, by go_num, HKX.out.drew⟩
                  case measure => simp [intOf]; omega
                · go_wp2_with fail
                  refine wp_region_ro (.free 0 (.free 1 (.free 2 (.free 4 (.free 5 (.free 6 (.pure 3 (.pure 7 (.free 8 (.free 9 (.free 10 (.free 11 (.pure 12 (.free 13 (.free 14 (.free 15 (.free 16 (.free 17 (.free 18 (.free 19 (.free 20 (.free 21 (.pure 22 (.free 23 (.free 24 (.free 25 (.free 26 (.free 27 (.free 28 (.free 29 (.free 30 (.free 32 (.pure 31 (.pure 33 (.free 34 (.free 35 (.free 36 (.fin)))))))))))))))))))))))))))))))))))))) [] (fun w' => w'.cell? ⟨ug, uo + j, none⟩ = some (.int .i64 v) ∧ w'.cell? ⟨vg, vo + j, none⟩ = some (.int .i64 z) ∧ w'.cell? ⟨be, 1, none⟩ = some (.int .i64 x) ∧ w'.cell? ⟨be, 3, none⟩ = some (.int .i64 z)) (by kernel_rfl) (by kernel_rfl) ⟨u0, v0, b1, b3⟩ ?_
                  first | (refine wpRO_free rfl rfl _ (fun w' => by go_simp; exact Gives.mk _ _) (fun K hK => ?_); go_simp; refine hK _ ?_; clear hK K) | (refine wpRO_skipF rfl rfl (fun K hK => ?_); go_simp; refine hK _ ?_; clear hK K)
                  first | (refine wpRO_free rfl rfl _ (fun w' => by go_simp; exact Gives.mk _ _) (fun K hK => ?_); go_simp; refine hK _ ?_; clear hK K) | (refine wpRO_skipF rfl rfl (fun K hK => ?_); go_simp; refine hK _ ?_; clear hK K)
                  first | (refine wpRO_free rfl rfl _ (fun w' => by go_simp; exact Gives.mk _ _) (fun K hK => ?_); go_simp; refine hK _ ?_; clear hK K) | (refine wpRO_skipF rfl rfl (fun K hK => ?_); go_simp; refine hK _ ?_; clear hK K)
                  first | (refine wpRO_free rfl rfl _ (fun w' => by go_simp; exact Gives.mk _ _) (fun K hK => ?_); go_simp; refine hK _ ?_; clear hK K) | (refine wpRO_skipF rfl rfl (fun K hK => ?_); go_simp; refine hK _ ?_; clear hK K)
                  first | (refine wpRO_free rfl rfl _ (fun w' => by go_simp; exact Gives.mk _ _) (fun K hK => ?_); go_simp; refine hK _ ?_; clear hK K) | (refine wpRO_skipF rfl rfl (fun K hK => ?_); go_simp; refine hK _ ?_; clear hK K)
                  first | (refine wpRO_free rfl rfl _ (fun w' => by go_simp; exact Gives.mk _ _) (fun K hK => ?_); go_simp; refine hK _ ?_; clear hK K) | (refine wpRO_skipF rfl rfl (fun K hK => ?_); go_simp; refine hK _ ?_; clear hK K)
                  first | (refine wpRO_pure rfl rfl _ (fun w' hG => by obtain ⟨g0, g1, g2, g3⟩ := hG; exact gives_agg2 rfl (by decide +kernel) rfl (by assumption) (by assumption)) (fun K hK => ?_); go_simp; refine hK _ ?_; clear hK K) | (refine wpRO_pure rfl rfl _ (fun w' hG => by obtain ⟨g0, g1, g2, g3⟩ := hG; go_simp; exact Gives.mk _ _) (fun K hK => ?_); go_simp; refine hK _ ?_; clear hK K) | (refine wpRO_skip rfl rfl (fun K hK => ?_); go_simp; refine hK _ ?_; clear hK K)
                  first | (refine wpRO_pure rfl rfl _ (fun w' hG => by obtain ⟨g0, g1, g2, g3⟩ := hG; exact gives_agg2 rfl (by decide +kernel) rfl (by assumption) (by assumption)) (fun K hK => ?_); go_simp; refine hK _ ?_; clear hK K) | (refine wpRO_pure rfl rfl _ (fun w' hG => by obtain ⟨g0, g1, g2, g3⟩ := hG; go_simp; exact Gives.mk _ _) (fun K hK => ?_); go_simp; refine hK _ ?_; clear hK K) | (refine wpRO_skip rfl rfl (fun K hK => ?_); go_simp; refine hK _ ?_; clear hK K)
                  first | (refine wpRO_free rfl rfl _ (fun w' => by go_simp; exact Gives.mk _ _) (fun K hK => ?_); go_simp; refine hK _ ?_; clear hK K) | (refine wpRO_skipF rfl rfl (fun K hK => ?_); go_simp; refine hK _ ?_; clear hK K)
                  first | (refine wpRO_free rfl rfl _ (fun w' => by go_simp; exact Gives.mk _ _) (fun K hK => ?_); go_simp; refine hK _ ?_; clear hK K) | (refine wpRO_skipF rfl rfl (fun K hK => ?_); go_simp; refine hK _ ?_; clear hK K)
                  first | (refine wpRO_free rfl rfl _ (fun w' => by go_simp; exact Gives.mk _ _) (fun K hK => ?_); go_simp; refine hK _ ?_; clear hK K) | (refine wpRO_skipF rfl rfl (fun K hK => ?_); go_simp; refine hK _ ?_; clear hK K)
                  first | (refine wpRO_free rfl rfl _ (fun w' => by go_simp; exact Gives.mk _ _) (fun K hK => ?_); go_simp; refine hK _ ?_; clear hK K) | (refine wpRO_skipF rfl rfl (fun K hK => ?_); go_simp; refine hK _ ?_; clear hK K)
                  first | (refine wpRO_pure rfl rfl _ (fun w' hG => by obtain ⟨g0, g1, g2, g3⟩ := hG; exact gives_agg2 rfl (by decide +kernel) rfl (by assumption) (by assumption)) (fun K hK => ?_); go_simp; refine hK _ ?_; clear hK K) | (refine wpRO_pure rfl rfl _ (fun w' hG => by obtain ⟨g0, g1, g2, g3⟩ := hG; go_simp; exact Gives.mk _ _) (fun K hK => ?_); go_simp; refine hK _ ?_; clear hK K) | (refine wpRO_skip rfl rfl (fun K hK => ?_); go_simp; refine hK _ ?_; clear hK K)
                  first | (refine wpRO_free rfl rfl _ (fun w' => by go_simp; exact Gives.mk _ _) (fun K hK => ?_); go_simp; refine hK _ ?_; clear hK K) | (refine wpRO_skipF rfl rfl (fun K hK => ?_); go_simp; refine hK _ ?_; clear hK K)
                  first | (refine wpRO_free rfl rfl _ (fun w' => by go_simp; exact Gives.mk _ _) (fun K hK => ?_); go_simp; refine hK _ ?_; clear hK K) | (refine wpRO_skipF rfl rfl (fun K hK => ?_); go_simp; refine hK _ ?_; clear hK K)
                  first | (refine wpRO_free rfl rfl _ (fun w' => by go_simp; exact Gives.mk _ _) (fun K hK => ?_); go_simp; refine hK _ ?_; clear hK K) | (refine wpRO_skipF rfl rfl (fun K hK => ?_); go_simp; refine hK _ ?_; clear hK K)
                  first | (refine wpRO_free rfl rfl _ (fun w' => by go_simp; exact Gives.mk _ _) (fun K hK => ?_); go_simp; refine hK _ ?_; clear hK K) | (refine wpRO_skipF rfl rfl (fun K hK => ?_); go_simp; refine hK _ ?_; clear hK K)
                  first | (refine wpRO_free rfl rfl _ (fun w' => by go_simp; exact Gives.mk _ _) (fun K hK => ?_); go_simp; refine hK _ ?_; clear hK K) | (refine wpRO_skipF rfl rfl (fun K hK => ?_); go_simp; refine hK _ ?_; clear hK K)
                  first | (refine wpRO_free rfl rfl _ (fun w' => by go_simp; exact Gives.mk _ _) (fun K hK => ?_); go_simp; refine hK _ ?_; clear hK K) | (refine wpRO_skipF rfl rfl (fun K hK => ?_); go_simp; refine hK _ ?_; clear hK K)
                  first | (refine wpRO_free rfl rfl _ (fun w' => by go_simp; exact Gives.mk _ _) (fun K hK => ?_); go_simp; refine hK _ ?_; clear hK K) | (refine wpRO_skipF rfl rfl (fun K hK => ?_); go_simp; refine hK _ ?_; clear hK K)
                  first | (refine wpRO_free rfl rfl _ (fun w' => by go_simp; exact Gives.mk _ _) (fun K hK => ?_); go_simp; refine hK _ ?_; clear hK K) | (refine wpRO_skipF rfl rfl (fun K hK => ?_); go_simp; refine hK _ ?_; clear hK K)
                  first | (refine wpRO_free rfl rfl _ (fun w' => by go_simp; exact Gives.mk _ _) (fun K hK => ?_); go_simp; refine hK _ ?_; clear hK K) | (refine wpRO_skipF rfl rfl (fun K hK => ?_); go_simp; refine hK _ ?_; clear hK K)
                  first | (refine wpRO_pure rfl rfl _ (fun w' hG => by obtain ⟨g0, g1, g2, g3⟩ := hG; exact gives_agg2 rfl (by decide +kernel) rfl (by assumption) (by assumption)) (fun K hK => ?_); go_simp; refine hK _ ?_; clear hK K) | (refine wpRO_pure rfl rfl _ (fun w' hG => by obtain ⟨g0, g1, g2, g3⟩ := hG; go_simp; exact Gives.mk _ _) (fun K hK => ?_); go_simp; refine hK _ ?_; clear hK K) | (refine wpRO_skip rfl rfl (fun K hK => ?_); go_simp; refine hK _ ?_; clear hK K)
                  first | (refine wpRO_free rfl rfl _ (fun w' => by go_simp; exact Gives.mk _ _) (fun K hK => ?_); go_simp; refine hK _ ?_; clear hK K) | (refine wpRO_skipF rfl rfl (fun K hK => ?_); go_simp; refine hK _ ?_; clear hK K)
                  first | (refine wpRO_free rfl rfl _ (fun w' => by go_simp; exact Gives.mk _ _) (fun K hK => ?_); go_simp; refine hK _ ?_; clear hK K) | (refine wpRO_skipF rfl rfl (fun K hK => ?_); go_simp; refine hK _ ?_; clear hK K)
                  first | (refine wpRO_free rfl rfl _ (fun w' => by go_simp; exact Gives.mk _ _) (fun K hK => ?_); go_simp; refine hK _ ?_; clear hK K) | (refine wpRO_skipF rfl rfl (fun K hK => ?_); go_simp; refine hK _ ?_; clear hK K)
                  first | (refine wpRO_free rfl rfl _ (fun w' => by go_simp; exact Gives.mk _ _) (fun K hK => ?_); go_simp; refine hK _ ?_; clear hK K) | (refine wpRO_skipF rfl rfl (fun K hK => ?_); go_simp; refine hK _ ?_; clear hK K)
                  first | (refine wpRO_free rfl rfl _ (fun w' => by go_simp; exact Gives.mk _ _) (fun K hK => ?_); go_simp; refine hK _ ?_; clear hK K) | (refine wpRO_skipF rfl rfl (fun K hK => ?_); go_simp; refine hK _ ?_; clear hK K)
                  first | (refine wpRO_free rfl rfl _ (fun w' => by go_simp; exact Gives.mk _ _) (fun K hK => ?_); go_simp; refine hK _ ?_; clear hK K) | (refine wpRO_skipF rfl rfl (fun K hK => ?_); go_simp; refine hK _ ?_; clear hK K)
                  first | (refine wpRO_free rfl rfl _ (fun w' => by go_simp; exact Gives.mk _ _) (fun K hK => ?_); go_simp; refine hK _ ?_; clear hK K) | (refine wpRO_skipF rfl rfl (fun K hK => ?_); go_simp; refine hK _ ?_; clear hK K)
                  first | (refine wpRO_free rfl rfl _ (fun w' => by go_simp; exact Gives.mk _ _) (fun K hK => ?_); go_simp; refine hK _ ?_; clear hK K) | (refine wpRO_skipF rfl rfl (fun K hK => ?_); go_simp; refine hK _ ?_; clear hK K)
                  first | (refine wpRO_free rfl rfl _ (fun w' => by go_simp; exact Gives.mk _ _) (fun K hK => ?_); go_simp; refine hK _ ?_; clear hK K) | (refine wpRO_skipF rfl rfl (fun K hK => ?_); go_simp; refine hK _ ?_; clear hK K)
                  first | (refine wpRO_pure rfl rfl _ (fun w' hG => by obtain ⟨g0, g1, g2, g3⟩ := hG; exact gives_agg2 rfl (by decide +kernel) rfl (by assumption) (by assumption)) (fun K hK => ?_); go_simp; refine hK _ ?_; clear hK K) | (refine wpRO_pure rfl rfl _ (fun w' hG => by obtain ⟨g0, g1, g2, g3⟩ := hG; go_simp; exact Gives.mk _ _) (fun K hK => ?_); go_simp; refine hK _ ?_; clear hK K) | (refine wpRO_skip rfl rfl (fun K hK => ?_); go_simp; refine hK _ ?_; clear hK K)
                  first | (refine wpRO_pure rfl rfl _ (fun w' hG => by obtain ⟨g0, g1, g2, g3⟩ := hG; exact gives_agg2 rfl (by decide +kernel) rfl (by assumption) (by assumption)) (fun K hK => ?_); go_simp; refine hK _ ?_; clear hK K) | (refine wpRO_pure rfl rfl _ (fun w' hG => by obtain ⟨g0, g1, g2, g3⟩ := hG; go_simp; exact Gives.mk _ _) (fun K hK => ?_); go_simp; refine hK _ ?_; clear hK K) | (refine wpRO_skip rfl rfl (fun K hK => ?_); go_simp; refine hK _ ?_; clear hK K)
                  first | (refine wpRO_free rfl rfl _ (fun w' => by go_simp; exact Gives.mk _ _) (fun K hK => ?_); go_simp; refine hK _ ?_; clear hK K) | (refine wpRO_skipF rfl rfl (fun K hK => ?_); go_simp; refine hK _ ?_; clear hK K)
                  first | (refine wpRO_free rfl rfl _ (fun w' => by go_simp; exact Gives.mk _ _) (fun K hK => ?_); go_simp; refine hK _ ?_; clear hK K) | (refine wpRO_skipF rfl rfl (fun K hK => ?_); go_simp; refine hK _ ?_; clear hK K)
                  first | (refine wpRO_free rfl rfl _ (fun w' => by go_simp; exact Gives.mk _ _) (fun K hK => ?_); go_simp; refine hK _ ?_; clear hK K) | (refine wpRO_skipF rfl rfl (fun K hK => ?_); go_simp; refine hK _ ?_; clear hK K)
                  refine wpRO_fin ?_
                  clear u0 v0 b1 b3 ej ej2 evv
                  go_wp2_with fail
                  go_roundw
                  case rel => exact ⟨j + 1, by omega, by go_num, HKX.out.drew⟩
                  case measure => simp [intOf]; omega
            · have ej : ((j : Int) == x) = false := by simpa using fun h => hjx h.symm
              have ej2 : ((j : Int) != x) = true := by simpa using fun h => hjx h.symm
              rw [if_neg (fun h => hjx h.2)] at v0
              clear hjx
              have evv : (v != v) = false := by simp
              go_wp2_with fail
              refine wp_region_ro (.free 0 (.free 1 (.free 2 (.free 4 (.free 5 (.free 6 (.pure 3 (.pure 7 (.free 8 (.free 9 (.free 10 (.free 11 (.pure 12 (.free 13 (.free 14 (.free 15 (.free 16 (.free 17 (.free 18 (.free 19 (.free 20 (.free 21 (.pure 22 (.free 23 (.free 24 (.free 25 (.free 26 (.free 27 (.free 28 (.free 29 (.free 30 (.free 32 (.pure 31 (.pure 33 (.free 34 (.free 35 (.free 36 (.fin)))))))))))))))))))))))))))))))))))))) [] (fun w' => w'.cell? ⟨ug, uo + j, none⟩ = some (.int .i64 v) ∧ w'.cell? ⟨vg, vo + j, none⟩ = some (.int .i64 v) ∧ w'.cell? ⟨be, 1, none⟩ = some (.int .i64 x) ∧ w'.cell? ⟨be, 3, none⟩ = some (.int .i64 z)) (by kernel_rfl) (by kernel_rfl) ⟨u0, v0, b1, b3⟩ ?_
              first | (refine wpRO_free rfl rfl _ (fun w' => by go_simp; exact Gives.mk _ _) (fun K hK => ?_); go_simp; refine hK _ ?_; clear hK K) | (refine wpRO_skipF rfl rfl (fun K hK => ?_); go_simp; refine hK _ ?_; clear hK K)
              first | (refine wpRO_free rfl rfl _ (fun w' => by go_simp; exact Gives.mk _ _) (fun K hK => ?_); go_simp; refine hK _ ?_; clear hK K) | (refine wpRO_skipF rfl rfl (fun K hK => ?_); go_simp; refine hK _ ?_; clear hK K)
              first | (refine wpRO_free rfl rfl _ (fun w' => by go_simp; exact Gives.mk _ _) (fun K hK => ?_); go_simp; refine hK _ ?_; clear hK K) | (refine wpRO_skipF rfl rfl (fun K hK => ?_); go_simp; refine hK _ ?_; clear hK K)
              first | (refine wpRO_free rfl rfl _ (fun w' => by go_simp; exact Gives.mk _ _) (fun K hK => ?_); go_simp; refine hK _ ?_; clear hK K) | (refine wpRO_skipF rfl rfl (fun K hK => ?_); go_simp; refine hK _ ?_; clear hK K)
              first | (refine wpRO_free rfl rfl _ (fun w' => by go_simp; exact Gives.mk _ _) (fun K hK => ?_); go_simp; refine hK _ ?_; clear hK K) | (refine wpRO_skipF rfl rfl (fun K hK => ?_); go_simp; refine hK _ ?_; clear hK K)
              first | (refine wpRO_free rfl rfl _ (fun w' => by go_simp; exact Gives.mk _ _) (fun K hK => ?_); go_simp; refine hK _ ?_; clear hK K) | (refine wpRO_skipF rfl rfl (fun K hK => ?_); go_simp; refine hK _ ?_; clear hK K)
              first | (refine wpRO_pure rfl rfl _ (fun w' hG => by obtain ⟨g0, g1, g2, g3⟩ := hG; exact gives_agg2 rfl (by decide +kernel) rfl (by assumption) (by assumption)) (fun K hK => ?_); go_simp; refine hK _ ?_; clear hK K) | (refine wpRO_pure rfl rfl _ (fun w' hG => by obtain ⟨g0, g1, g2, g3⟩ := hG; go_simp; exact Gives.mk _ _) (fun K hK => ?_); go_simp; refine hK _ ?_; clear hK K) | (refine wpRO_skip rfl rfl (fun K hK => ?_); go_simp; refine hK _ ?_; clear hK K)
              first | (refine wpRO_pure rfl rfl _ (fun w' hG => by obtain ⟨g0, g1, g2, g3⟩ := hG; exact gives_agg2 rfl (by decide +kernel) rfl (by assumption) (by assumption)) (fun K hK => ?_); go_simp; refine hK _ ?_; clear hK K) | (refine wpRO_pure rfl rfl _ (fun w' hG => by obtain ⟨g0, g1, g2, g3⟩ := hG; go_simp; exact Gives.mk _ _) (fun K hK => ?_); go_simp; refine hK _ ?_; clear hK K) | (refine wpRO_skip rfl rfl (fun K hK => ?_); go_simp; refine hK _ ?_; clear hK K)
              first | (refine wpRO_free rfl rfl _ (fun w' => by go_simp; exact Gives.mk _ _) (fun K hK => ?_); go_simp; refine hK _ ?_; clear hK K) | (refine wpRO_skipF rfl rfl (fun K hK => ?_); go_simp; refine hK _ ?_; clear hK K)
              first | (refine wpRO_free rfl rfl _ (fun w' => by go_simp; exact Gives.mk _ _) (fun K hK => ?_); go_simp; refine hK _ ?_; clear hK K) | (refine wpRO_skipF rfl rfl (fun K hK => ?_); go_simp; refine hK _ ?_; clear hK K)
              first | (refine wpRO_free rfl rfl _ (fun w' => by go_simp; exact Gives.mk _ _) (fun K hK => ?_); go_simp; refine hK _ ?_; clear hK K) | (refine wpRO_skipF rfl rfl (fun K hK => ?_); go_simp; refine hK _ ?_; clear hK K)
              first | (refine wpRO_free rfl rfl _ (fun w' => by go_simp; exact Gives.mk _ _) (fun K hK => ?_); go_simp; refine hK _ ?_; clear hK K) | (refine wpRO_skipF rfl rfl (fun K hK => ?_); go_simp; refine hK _ ?_; clear hK K)
              first | (refine wpRO_pure rfl rfl _ (fun w' hG => by obtain ⟨g0, g1, g2, g3⟩ := hG; exact gives_agg2 rfl (by decide +kernel) rfl (by assumption) (by assumption)) (fun K hK => ?_); go_simp; refine hK _ ?_; clear hK K) | (refine wpRO_pure rfl rfl _ (fun w' hG => by obtain ⟨g0, g1, g2, g3⟩ := hG; go_simp; exact Gives.mk _ _) (fun K hK => ?_); go_simp; refine hK _ ?_; clear hK K) | (refine wpRO_skip rfl rfl (fun K hK => ?_); go_simp; refine hK _ ?_; clear hK K)
              first | (refine wpRO_free rfl rfl _ (fun w' => by go_simp; exact Gives.mk _ _) (fun K hK => ?_); go_simp; refine hK _ ?_; clear hK K) | (refine wpRO_skipF rfl rfl (fun K hK => ?_); go_simp; refine hK _ ?_; clear hK K)
              first | (refine wpRO_free rfl rfl _ (fun w' => by go_simp; exact Gives.mk _ _) (fun K hK => ?_); go_simp; refine hK _ ?_; clear hK K) | (refine wpRO_skipF rfl rfl (fun K hK => ?_); go_simp; refine hK _ ?_; clear hK K)
              first | (refine wpRO_free rfl rfl _ (fun w' => by go_simp; exact Gives.mk _ _) (fun K hK => ?_); go_simp; refine hK _ ?_; clear hK K) | (refine wpRO_skipF rfl rfl (fun K hK => ?_); go_simp; refine hK _ ?_; clear hK K)
              first | (refine wpRO_free rfl rfl _ (fun w' => by go_simp; exact Gives.mk _ _) (fun K hK => ?_); go_simp; refine hK _ ?_; clear hK K) | (refine wpRO_skipF rfl rfl (fun K hK => ?_); go_simp; refine hK _ ?_; clear hK K)
              first | (refine wpRO_free rfl rfl _ (fun w' => by go_simp; exact Gives.mk _ _) (fun K hK => ?_); go_simp; refine hK _ ?_; clear hK K) | (refine wpRO_skipF rfl rfl (fun K hK => ?_); go_simp; refine hK _ ?_; clear hK K)
              first | (refine wpRO_free rfl rfl _ (fun w' => by go_simp; exact Gives.mk _ _) (fun K hK => ?_); go_simp; refine hK _ ?_; clear hK K) | (refine wpRO_skipF rfl rfl (fun K hK => ?_); go_simp; refine hK _ ?_; clear hK K)
              first | (refine wpRO_free rfl rfl _ (fun w' => by go_simp; exact Gives.mk _ _) (fun K hK => ?_); go_simp; refine hK _ ?_; clear hK K) | (refine wpRO_skipF rfl rfl (fun K hK => ?_); go_simp; refine hK _ ?_; clear hK K)
              first | (refine wpRO_free rfl rfl _ (fun w' => by go_simp; exact Gives.mk _ _) (fun K hK => ?_); go_simp; refine hK _ ?_; clear hK K) | (refine wpRO_skipF rfl rfl (fun K hK => ?_); go_simp; refine hK _ ?_; clear hK K)
              first | (refine wpRO_free rfl rfl _ (fun w' => by go_simp; exact Gives.mk _ _) (fun K hK => ?_); go_simp; refine hK _ ?_; clear hK K) | (refine wpRO_skipF rfl rfl (fun K hK => ?_); go_simp; refine hK _ ?_; clear hK K)
              first | (refine wpRO_pure rfl rfl _ (fun w' hG => by obtain ⟨g0, g1, g2, g3⟩ := hG; exact gives_agg2 rfl (by decide +kernel) rfl (by assumption) (by assumption)) (fun K hK => ?_); go_simp; refine hK _ ?_; clear hK K) | (refine wpRO_pure rfl rfl _ (fun w' hG => by obtain ⟨g0, g1, g2, g3⟩ := hG; go_simp; exact Gives.mk _ _) (fun K hK => ?_); go_simp; refine hK _ ?_; clear hK K) | (refine wpRO_skip rfl rfl (fun K hK => ?_); go_simp; refine hK _ ?_; clear hK K)
              first | (refine wpRO_free rfl rfl _ (fun w' => by go_simp; exact Gives.mk _ _) (fun K hK => ?_); go_simp; refine hK _ ?_; clear hK K) | (refine wpRO_skipF rfl rfl (fun K hK => ?_); go_simp; refine hK _ ?_; clear hK K)
              first | (refine wpRO_free rfl rfl _ (fun w' => by go_simp; exact Gives.mk _ _) (fun K hK => ?_); go_simp; refine hK _ ?_; clear hK K) | (refine wpRO_skipF rfl rfl (fun K hK => ?_); go_simp; refine hK _ ?_; clear hK K)
              first | (refine wpRO_free rfl rfl _ (fun w' => by go_simp; exact Gives.mk _ _) (fun K hK => ?_); go_simp; refine hK _ ?_; clear hK K) | (refine wpRO_skipF rfl rfl (fun K hK => ?_); go_simp; refine hK _ ?_; clear hK K)
              first | (refine wpRO_free rfl rfl _ (fun w' => by go_simp; exact Gives.mk _ _) (fun K hK => ?_); go_simp; refine hK _ ?_; clear hK K) | (refine wpRO_skipF rfl rfl (fun K hK => ?_); go_simp; refine hK _ ?_; clear hK K)
              first | (refine wpRO_free rfl rfl _ (fun w' => by go_simp; exact Gives.mk _ _) (fun K hK => ?_); go_simp; refine hK _ ?_; clear hK K) | (refine wpRO_skipF rfl rfl (fun K hK => ?_); go_simp; refine hK _ ?_; clear hK K)
              first | (refine wpRO_free rfl rfl _ (fun w' => by go_simp; exact Gives.mk _ _) (fun K hK => ?_); go_simp; refine hK _ ?_; clear hK K) | (refine wpRO_skipF rfl rfl (fun K hK => ?_); go_simp; refine hK _ ?_; clear hK K)
              first | (refine wpRO_free rfl rfl _ (fun w' => by go_simp; exact Gives.mk _ _) (fun K hK => ?_); go_simp; refine hK _ ?_; clear hK K) | (refine wpRO_skipF rfl rfl (fun K hK => ?_); go_simp; refine hK _ ?_; clear hK K)
              first | (refine wpRO_free rfl rfl _ (fun w' => by go_simp; exact Gives.mk _ _) (fun K hK => ?_); go_simp; refine hK _ ?_; clear hK K) | (refine wpRO_skipF rfl rfl (fun K hK => ?_); go_simp; refine hK _ ?_; clear hK K)
              first | (refine wpRO_free rfl rfl _ (fun w' => by go_simp; exact Gives.mk _ _) (fun K hK => ?_); go_simp; refine hK _ ?_; clear hK K) | (refine wpRO_skipF rfl rfl (fun K hK => ?_); go_simp; refine hK _ ?_; clear hK K)
              first | (refine wpRO_pure rfl rfl _ (fun w' hG => by obtain ⟨g0, g1, g2, g3⟩ := hG; exact gives_agg2 rfl (by decide +kernel) rfl (by assumption) (by assumption)) (fun K hK => ?_); go_simp; refine hK _ ?_; clear hK K) | (refine wpRO_pure rfl rfl _ (fun w' hG => by obtain ⟨g0, g1, g2, g3⟩ := hG; go_simp; exact Gives.mk _ _) (fun K hK => ?_); go_simp; refine hK _ ?_; clear hK K) | (refine wpRO_skip rfl rfl (fun K hK => ?_); go_simp; refine hK _ ?_; clear hK K)
              first | (refine wpRO_pure rfl rfl _ (fun w' hG => by obtain ⟨g0, g1, g2, g3⟩ := hG; exact gives_agg2 rfl (by decide +kernel) rfl (by assumption) (by assumption)) (fun K hK => ?_); go_simp; refine hK _ ?_; clear hK K) | (refine wpRO_pure rfl rfl _ (fun w' hG => by obtain ⟨g0, g1, g2, g3⟩ := hG; go_simp; exact Gives.mk _ _) (fun K hK => ?_); go_simp; refine hK _ ?_; clear hK K) | (refine wpRO_skip rfl rfl (fun K hK => ?_); go_simp; refine hK _ ?_; clear hK K)
              first | (refine wpRO_free rfl rfl _ (fun w' => by go_simp; exact Gives.mk _ _) (fun K hK => ?_); go_simp; refine hK _ ?_; clear hK K) | (refine wpRO_skipF rfl rfl (fun K hK => ?_); go_simp; refine hK _ ?_; clear hK K)
              first | (refine wpRO_free rfl rfl _ (fun w' => by go_simp; exact Gives.mk _ _) (fun K hK => ?_); go_simp; refine hK _ ?_; clear hK K) | (refine wpRO_skipF rfl rfl (fun K hK => ?_); go_simp; refine hK _ ?_; clear hK K)
              first | (refine wpRO_free rfl rfl _ (fun w' => by go_simp; exact Gives.mk _ _) (fun K hK => ?_); go_simp; refine hK _ ?_; clear hK K) | (refine wpRO_skipF rfl rfl (fun K hK => ?_); go_simp; refine hK _ ?_; clear hK K)
              refine wpRO_fin ?_
              clear u0 v0 b1 b3 ej ej2 evv
              go_wp2_with fail
              go_roundw
              case rel => exact ⟨j + 1, by omega, by go_num, HKX.out.drew⟩
              case measure => simp [intOf]; omega
          · obtain rfl : j = A.ws.length := by omega
            go_wp2_with fail
            go_roundw
            case rel => exact ⟨k + 1, A5, by omega, by go_num, by rw [HYN.out], HI6.out.keep HKX.out⟩
            case measure => simp [intOf]; omega
      have e0 : (d == 0) = false := by simpa using hd0
      have e1 : (d == 1) = false := by simpa using hd1
      have e2 : (d == 2) = false := by simpa using hd2
      clear hd0 hd1 hd2 b1 b2 b3
      go_wp2_with fail
      go_roundw
      case rel => exact ⟨k + 1, A, by omega, by go_num, rfl, HI.out⟩
      case measure => simp [intOf]; omega
    · obtain rfl : k = m := by omega
      go_wp2_with fail
      refine (Used_c _ GI.out.hA).mono ?_
      rintro e w4 ⟨rfl, hk4⟩
      go_wp2_with fail
      go_ret
      exact ⟨rfl, GI.out.hK.trans hk4⟩

theorem ArenaApart_walk (n o : Int) (lo : Option Addr) (lc m : Nat) (xs : List Int) (w : World) (_ : R64 n) (_ : R64 o) (h0 : Rd w lo (xs.map (Value.int .i64))) (hx : xs.length = m * 4) (_ : m ≤ maxLen) (hb : ∀ x ∈ xs, R64 x) :
    Calls Try.prog 13 #[.int .i64 n, .int .i64 o, .slice lo m lc] w fun e w' => e = .returned (.bool true) ∧ Below w.heap.size w w' :=
  (ArenaApart_raw n o lo lc m xs w h0 hx hb).mono fun e w' h => ⟨h.1, h.2.below (fun _ _ h => h)⟩

end Go.Proofs.Ytjifdalflepcoaa
