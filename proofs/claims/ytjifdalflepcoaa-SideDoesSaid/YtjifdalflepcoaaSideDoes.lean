/-
  SideDoes (law04.go): every Reg, Full, Pop, At and Copy is as the document says.
-/
import Derived.Test.YtjifdalflepcoaaSideDoesM
import Derived.Test.YtjifdalflepcoaaAggN
import Derived.Deep.DeepCutAuto
import Derived.Deep.CutBlock
import Derived.Outline
namespace Go.Proofs.Ytjifdalflepcoaa
open Go.RowKit
set_option linter.unusedVariables false
set_option linter.unusedSimpArgs false

set_option maxHeartbeats 8000000 in
set_option maxRecDepth 100000 in
theorem SideDoes_raw (lo : Option Addr) (lc m : Nat) (xs : List Int) (w : World) (h0 : Rd w lo (xs.map (Value.int .i64))) (hx : xs.length = m * 3) (l0 : m ≤ maxLen) :
    Calls Try.prog 11 #[.slice lo m lc] w fun e w' => e = .returned (.bool true) ∧ Keeps (fun _ => False) w w' := by
  have H0 := Lib.hid h0; have HX := Lib.hid hx
  unfold maxLen at l0
  clear h0 hx
  go_enter Try.func11, Try.ntmps11
  go_wp2_with fail
  refine (sideBegun_c _).mono ?_
  rintro e w1 ⟨rfl, hk1⟩
  have HK1 := Lib.hid hk1; clear hk1
  by_cases hm : 200 < m
  · go_wp2_with fail
    go_ret
    exact ⟨rfl, HK1.out⟩
  obtain ⟨ie, hie, hez0, hez1, hez2⟩ := info_parts info_entry
  have Hi := Lib.hid hie; have Hz0 := Lib.hid hez0; have Hz1 := Lib.hid hez1; have Hz2 := Lib.hid hez2; clear hie hez0 hez1 hez2
  go_wp2_with fail
  have hp := Blk.newAt (w := w1) (b := w1.heap.size) (T := 37) #[nilS, nilS] rfl rfl
  have hka := (Keeps.refl (fun _ => False) w1).alloc (.cells #[nilS, nilS] 37)
  have hpw : w.heap.size ≤ w1.heap.size := HK1.out.size
  generalize hw2 : w1.alloc (.cells #[nilS, nilS] 37) = w2 at *
  clear hw2
  generalize w1.heap.size = p at *
  have hM : DD w w2 p nilS nilS nilS nilS [] [] [] [] :=
    ⟨⟨hp, Sl.nil _ _ _, Sl.nil _ _ _, fun k h => own_nil h.1⟩, Sl.nil _ _ _, Sl.nil _ _ _, HK1.out.trans hka, by
      rintro k (rfl | h | h)
      · exact hpw
      · exact (own_nil h).elim
      · exact (own_nil h).elim, fun k h => (own_nil h).elim, fun k h => (own_nil h).elim, fun k h => (own_nil h).elim, fun k h => (own_nil h).elim, fun k h => (own_nil h).elim⟩
  have HM := Lib.hid hM
  clear hp hka hpw HK1 hM
  go_loopw [3, 4, 5, 6] (fun s rx qx i wr => ∃ (k q : Nat) (rv sv : Value) (R W : List (Int × Int)), k ≤ m ∧ i = .int .i64 k ∧ s = .pointer (some ⟨q, 0, none⟩) ∧ DD w wr q rv sv rx qx R W R W ∧ R.length + W.length ≤ 24) (fun _ _ _ i _ => m - (intOf i).toNat)
  case atStart => exact ⟨0, p, nilS, nilS, [], [], Nat.zero_le _, rfl, rfl, HM.out, by simp⟩
  case round =>
    clear HM
    obtain ⟨k, q, rv, sv, R, W, hk, rfl, rfl, hm', hRW⟩ := hrel
    have GM := Lib.hid hm'
    clear hm'
    by_cases hlt : k < m
    · have hrd := H0.out.keep GM.out.hK (fun _ _ _ h => h)
      obtain ⟨g, o, rfl, hgl, d0⟩ := hrd.num (k * 3) (by rw [HX.out]; omega)
      obtain ⟨g', o', e', _, d1⟩ := hrd.num (k * 3 + 1) (by rw [HX.out]; omega)
      cases e'
      obtain ⟨g', o', e', _, d2⟩ := hrd.num (k * 3 + 2) (by rw [HX.out]; omega)
      cases e'
      rw [← Nat.add_assoc] at d1 d2
      generalize xs.getD (k * 3) 0 = d at *
      generalize xs.getD (k * 3 + 1) 0 = x at *
      generalize xs.getD (k * 3 + 2) 0 = y at *
      clear hrd
      obtain ⟨rxo, rxc, rfl, -, -, -⟩ := GM.out.hr.rd
      obtain ⟨qxo, qxc, rfl, -, -, -⟩ := GM.out.hq.rd
      have hsum : IntKind.i64.wrap ((R.length : Int) + (W.length : Int)) = (R.length : Int) + (W.length : Int) := IntWalk.i64_in _ (by omega)
      have HSUM := Lib.hid hsum; clear hsum
      obtain ⟨F, hF⟩ : ∃ F, decide ((24 : Int) ≤ (R.length : Int) + (W.length : Int)) = F := ⟨_, rfl⟩
      go_upto_block 2 with (refine wpList_agg rfl 74 (.tmp 31) rfl [.int .i64 d, .int .i64 x, .int .i64 y] (by kernel_rfl) g (o + k * 3) rfl (rangeAt_cons d0 (rangeAt_cons d1 (rangeAt_cons d2 rangeAt_nil))) ?_)
      clear d0 d1 d2 hgl
      have hbk := Blk.newAt (w := wr) (b := wr.heap.size) (T := 74) #[.int .i64 d, .int .i64 x, .int .i64 y] rfl rfl
      have hka := (Keeps.refl (fun _ => False) wr).alloc (.cells #[.int .i64 d, .int .i64 x, .int .i64 y] 74)
      have hmb := GM.out.keep hka
      generalize wr.alloc (.cells #[.int .i64 d, .int .i64 x, .int .i64 y] 74) = wb at *
      generalize wr.heap.size = be at *
      have b1 := hbk.cell 1; have b2 := hbk.cell 2; have bl := hbk.lt
      simp only [List.getElem?_cons_zero, List.getElem?_cons_succ] at b1 b2
      have HBK := Lib.hid hbk; have HMB := Lib.hid hmb
      clear hbk hka hmb GM
      have HF := Lib.hid hF; clear hF
      go_cut [3, 4, 5] (fun s rx qx wx => ∃ (q2 : Nat) (rv2 sv2 : Value) (R2 W2 : List (Int × Int)), s = .pointer (some ⟨q2, 0, none⟩) ∧ DD w wx q2 rv2 sv2 rx qx R2 W2 R2 W2 ∧ R2.length + W2.length ≤ 24 ∧ Blk wx be [.int .i64 d, .int .i64 x, .int .i64 y] 74)
      case first =>
        have hRW1 : R.length ≤ 1000000 := by omega
        have hRW2 : W.length ≤ 1000000 := by omega
        by_cases hd0 : d = 0
        · as_aux_lemma =>
          subst hd0
          by_cases hf : 24 ≤ R.length + W.length
          · obtain rfl : true = F := by rw [← HF.out]; exact (decide_eq_true (by omega)).symm
            go_wp2_with (refine wpList_agg2 rfl 40 (.tmp 44) rfl (by kernel_rfl) be 1 rfl _ _ b1 b2 ?_)
            refine (Reg_full q rv sv R W x y _ HMB.out.hS hRW1 hRW2 hf).mono ?_
            rintro e w3 ⟨rfl, hk3⟩
            go_wp2_with fail
            go_meet
            exact ⟨q, rv, sv, R, W, rfl, HMB.out.keep hk3, hRW, hk3.blk HBK.out (fun h => h)⟩
          · obtain rfl : false = F := by rw [← HF.out]; exact (decide_eq_false (by omega)).symm
            go_wp2_with (refine wpList_agg2 rfl 40 (.tmp 44) rfl (by kernel_rfl) be 1 rfl _ _ b1 b2 ?_)
            refine (Reg_room q rv sv R W x y _ HMB.out.hS hRW1 hRW2 hf).mono ?_
            rintro e w3 ⟨rfl, rv3, sv3, hS3, hk3, hf3⟩
            have nbk : ¬ SideFp q rv sv be := HMB.out.nS HBK.out (by decide) (by decide)
            have HB3 := Lib.hid (hk3.blk HBK.out nbk)
            have HM3 := Lib.hid (HMB.out.side hS3 hk3 hf3)
            clear hS3 hk3 hf3 b1 b2 bl
            have b1 := HB3.out.cell 1; have b2 := HB3.out.cell 2; have bl := HB3.out.lt
            simp only [List.getElem?_cons_zero, List.getElem?_cons_succ] at b1 b2
            go_wp2_with (first | (refine wpList_agg2 rfl 40 (.tmp 52) rfl (by kernel_rfl) be 1 rfl _ _ b1 b2 ?_) | (at_builtin; refine wpList_app rfl (.tmp 51) (.tmp 54) 31 rfl 40 ie (.agg #[.int .i64 0, .int .i64 0]) 2 16 Try.underlying31 Hi.out Hz0.out Hz1.out Hz2.out rfl (by decide) _ R.length (entV R) rfl (HM3.out.keep ((Keeps.refl (fun _ => False) w3).alloc _)).hr ⟨w3.heap.size, 0, none⟩ 1 1 [.int .i64 x, .int .i64 y] rfl rfl (news_at w3 40 #[.int .i64 x, .int .i64 y]) ent_one (by unfold maxLen; omega) (by omega) ?_))
            intro v4 w4 hs4 hk4 ho4
            have hka := (Keeps.refl (fun _ => False) w3).alloc (.cells #[.int .i64 x, .int .i64 y] 40)
            have hs4' : Sl w4 40 2 v4 (R ++ [(x, y)]).length (entV (R ++ [(x, y)])) := by simpa [entV] using hs4
            have hm4 := (HM3.out.keep hka).r hs4' hk4 (by simpa using ho4)
            have hb4 := hk4.blk (hka.blk HB3.out (fun h => h)) (HM3.out.nr HB3.out (by decide))
            have HM4 := Lib.hid hm4; have HB4 := Lib.hid hb4
            clear hs4 hk4 ho4 hka hs4' hm4 hb4
            go_wp2_with fail
            go_meet
            exact ⟨q, rv3, sv3, R ++ [(x, y)], W, rfl, HM4.out, by simp; omega, HB4.out⟩
        by_cases hd1 : d = 1
        · as_aux_lemma =>
          subst hd1
          go_wp2_with fail
          go_loopw [9, 10] (fun a i wx => ∃ j : Nat, j ≤ W.length ∧ i = .int .i64 ((j : Int) - 1) ∧ a = .int .i64 (fromG x W j) ∧ Keeps (fun _ => False) wb wx) (fun _ i _ => (intOf i + 1).toNat)
          case atStart => exact ⟨W.length, Nat.le_refl _, rfl, by rw [fromG_end], Keeps.refl _ _⟩
          case round =>
            obtain ⟨j, hj, rfl, rfl, hkx⟩ := hrel
            have HKX := Lib.hid hkx; clear hkx
            cases j with
            | zero =>
              have hz : ((0 : Nat) : Int) - 1 = -1 := rfl
              rw [hz, fromG_zero]
              have HM2 := Lib.hid (HMB.out.keep HKX.out); have HB2 := Lib.hid (HKX.out.blk HBK.out (fun h => h))
              clear hz b1 b2 bl
              have b1 := HB2.out.cell 1; have b2 := HB2.out.cell 2; have bl := HB2.out.lt
              simp only [List.getElem?_cons_zero, List.getElem?_cons_succ] at b1 b2
              by_cases hf : findG x W < W.length
              · rw [show idxG x W = (findG x W : Int) by unfold idxG; rw [if_pos hf]]
                obtain ⟨i, hi⟩ : ∃ i, i = findG x W := ⟨_, rfl⟩
                obtain ⟨n, hn⟩ : ∃ n, W.length = i + 1 + n := ⟨W.length - (i + 1), by omega⟩
                rw [← hi]
                rw [← hi] at hf
                have HI := Lib.hid hi.symm; have HN := Lib.hid hn
                clear hi hn
                go_wp2_with fail
                refine (Pop_some q rv sv R W x i n _ HM2.out.hS hRW2 HI.out HN.out).mono ?_
                rintro e w3 ⟨rfl, rv3, sv3, hS3, hk3, hf3⟩
                have nbk : ¬ SideFp q rv sv be := HM2.out.nS HB2.out (by decide) (by decide)
                have HB3 := Lib.hid (hk3.blk HB2.out nbk)
                have HM3 := Lib.hid (HM2.out.side hS3 hk3 hf3)
                clear hS3 hk3 hf3 b1 b2 bl
                obtain ⟨g1, o1, cap, cur, e', hb, hnc, hcm, hoc, hx⟩ := HM3.out.hq.some (by omega)
                cases e'
                obtain ⟨_, _, e', hrd, -, -⟩ := HM3.out.hq.rd
                cases e'
                obtain ⟨g2, o2, e', hgl1, d0, d1⟩ := hrd.ent i hf
                cases e'
                have HR1 := Lib.hid (Rd.entTake hb hx i (by omega))
                have hr2 := Rd.entDrop hb hx hnc (i + 1) (by omega)
                obtain ⟨A2, hA2⟩ : ∃ A2, (if qxc = i + 1 then some (⟨g1, o1, none⟩ : Addr) else some ⟨g1, o1 + (i + 1) * 2, none⟩) = A2 := ⟨_, rfl⟩
                rw [hA2] at hr2
                have HR2 := Lib.hid hr2; have HCM := Lib.hid hcm
                unfold maxLen at hcm
                clear hb hoc hx hrd hr2 d0
                generalize W.getD i (0, 0) = v at *
                have hi0 : (0 : Int) ≤ (i : Int) := by omega
                have hi1 : (i : Int) < (W.length : Int) := by omega
                have hi2 : (i : Int) + 1 ≤ (W.length : Int) := by omega
                have hi3 : (i : Int) ≤ (qxc : Int) := by omega
                have hi4 : (0 : Int) ≤ (i : Int) + 1 := by omega
                go_wp2_with fail
                have hw1 : IntKind.i64.wrap ((i : Int) + 1) = (i : Int) + 1 := IntWalk.i64_in _ (by omega)
                have hw2 : ((i : Int) + 1).toNat = i + 1 := by omega
                refine wp_region_ro (.free 0 (.free 1 (.free 2 (.free 3 (.free 5 (.free 6 (.free 7 (.free 8 (.run 4 (.swi [9, 10] (.run 9 (.swi [] (.free 10 (.fin)))))))))))))) [4, 9, 10] (fun _ => True) (by kernel_rfl) (by kernel_rfl) trivial ?_
                first | (refine wpRO_free rfl rfl _ (fun w' => by go_simp; exact Gives.mk _ _) (fun K hK => ?_); go_simp; refine hK _ ?_; clear hK K) | (refine wpRO_skipF rfl rfl (fun K hK => ?_); go_simp; refine hK _ ?_; clear hK K)
                first | (refine wpRO_free rfl rfl _ (fun w' => by go_simp; exact Gives.mk _ _) (fun K hK => ?_); go_simp; refine hK _ ?_; clear hK K) | (refine wpRO_skipF rfl rfl (fun K hK => ?_); go_simp; refine hK _ ?_; clear hK K)
                first | (refine wpRO_free rfl rfl _ (fun w' => by go_simp; exact Gives.mk _ _) (fun K hK => ?_); go_simp; refine hK _ ?_; clear hK K) | (refine wpRO_skipF rfl rfl (fun K hK => ?_); go_simp; refine hK _ ?_; clear hK K)
                first | (refine wpRO_free rfl rfl _ (fun w' => by go_simp; exact Gives.mk _ _) (fun K hK => ?_); go_simp; refine hK _ ?_; clear hK K) | (refine wpRO_skipF rfl rfl (fun K hK => ?_); go_simp; refine hK _ ?_; clear hK K)
                first | (refine wpRO_free rfl rfl _ (fun w' => by go_simp; exact Gives.mk _ _) (fun K hK => ?_); go_simp; refine hK _ ?_; clear hK K) | (refine wpRO_skipF rfl rfl (fun K hK => ?_); go_simp; refine hK _ ?_; clear hK K)
                first | (refine wpRO_free rfl rfl _ (fun w' => by go_simp; exact Gives.mk _ _) (fun K hK => ?_); go_simp; refine hK _ ?_; clear hK K) | (refine wpRO_skipF rfl rfl (fun K hK => ?_); go_simp; refine hK _ ?_; clear hK K)
                first | (refine wpRO_free rfl rfl _ (fun w' => by go_simp; exact Gives.mk _ _) (fun K hK => ?_); go_simp; refine hK _ ?_; clear hK K) | (refine wpRO_skipF rfl rfl (fun K hK => ?_); go_simp; refine hK _ ?_; clear hK K)
                first | (refine wpRO_free rfl rfl _ (fun w' => by go_simp; exact Gives.mk _ _) (fun K hK => ?_); go_simp; refine hK _ ?_; clear hK K) | (refine wpRO_skipF rfl rfl (fun K hK => ?_); go_simp; refine hK _ ?_; clear hK K)
                clear hw1 hw2
                refine wpRO_chg rfl rfl rfl (fun K hK => ?_)
                refine gRun_appR (.tmp 108) (.tmp 111) 31 rfl 40 ie (.agg #[.int .i64 0, .int .i64 0]) 2 16 Try.underlying31 Hi.out Hz0.out Hz1.out Hz2.out rfl (by decide) _ 0 [] rfl (Sl.nil _ _ _) (some ⟨g1, o1, none⟩) i qxc (entV (W.take i)) rfl (by rw [entV_length, List.length_take]; congr 1; omega) (HR1.out.keep ((Keeps.refl (fun _ => False) w3).drew) (fun _ _ _ h => h)) (entV_one _) (by unfold maxLen; omega) (by omega) ?_
                intro v4 w4 hs4 hk4 ho4
                have k4 := (Keeps.refl (fun _ => False) w3).drew.trans (hk4.mono (T := fun _ => False) fun k _ h => own_nil h)
                have HS4 := Lib.hid hs4; have HK4 := Lib.hid k4
                have HO4 : Hid (∀ k, ownB v4 k → w3.heap.size ≤ k) := fun k hk => by
                  rcases ho4 k hk with h | h
                  · exact (own_nil h).elim
                  · exact h
                refine hK _ _ ?_
                clear hK K hs4 hk4 ho4 k4
                refine wpRO_swi (fun _ => True) trivial ?_
                refine wpRO_chg rfl rfl rfl (fun K hK => ?_)
                refine gRun_appR (.tmp 112) (.tmp 116) 31 rfl 40 ie (.agg #[.int .i64 0, .int .i64 0]) 2 16 Try.underlying31 Hi.out Hz0.out Hz1.out Hz2.out rfl (by decide) _ (0 + i) ([] ++ entV (W.take i)) rfl HS4.out A2 (W.length - (i + 1)) _ (entV (W.drop (i + 1))) rfl (by rw [entV_length, List.length_drop]) (HR2.out.keep HK4.out (fun _ _ _ h => h)) (entV_one _) (by unfold maxLen; omega) (by omega) ?_
                intro v5 w5 hs5 hk5 ho5
                have k5 : Keeps (fun _ => False) w3 w5 := HK4.out.then hk5 (fun k hk => .inr (HO4.out k hk))
                have hs5' : Sl w5 40 2 v5 (W.eraseIdx i).length (entV (W.eraseIdx i)) := by
                  have e1 : (W.eraseIdx i).length = 0 + i + (W.length - (i + 1)) := by rw [List.length_eraseIdx_of_lt hf]; omega
                  have e2 : entV (W.eraseIdx i) = [] ++ entV (W.take i) ++ entV (W.drop (i + 1)) := by rw [entV_erase hf, entV_take, entV_drop]; rfl
                  rw [e1, e2]; exact hs5
                have ho5' : ∀ k, ownB v5 k → ownB (.slice (some ⟨g1, o1, none⟩) W.length qxc) k ∨ w3.heap.size ≤ k := fun k hk => by
                  rcases ho5 k hk with h | h
                  · exact .inr (HO4.out k h)
                  · exact .inr (Nat.le_trans HK4.out.size h)
                have HM5 := Lib.hid (HM3.out.q hs5' (k5.mono fun _ _ h => h.elim) ho5'); have HB5 := Lib.hid (k5.blk HB3.out (fun h => h))
                refine hK _ _ ?_
                clear hK K hs5 hk5 ho5 k5 hs5' ho5' HS4 HK4 HO4 HR1 HR2 d1 hgl1
                refine wpRO_swi (fun _ => True) trivial ?_
                first | (refine wpRO_free rfl rfl _ (fun w' => by go_simp; exact Gives.mk _ _) (fun K hK => ?_); go_simp; refine hK _ ?_; clear hK K) | (refine wpRO_skipF rfl rfl (fun K hK => ?_); go_simp; refine hK _ ?_; clear hK K)
                refine wpRO_fin ?_
                go_wp2_with fail
                go_meet
                exact ⟨q, rv3, sv3, R, W.eraseIdx i, rfl, HM5.out, by rw [List.length_eraseIdx_of_lt hf]; omega, HB5.out⟩
              · rw [show idxG x W = -1 by unfold idxG; rw [if_neg hf]]
                go_wp2_with fail
                refine (Pop_none q rv sv R W x _ HM2.out.hS hRW2 hf).mono ?_
                rintro e w3 ⟨rfl, hk3⟩
                have HM3 := Lib.hid (HM2.out.keep hk3); have HB3 := Lib.hid (hk3.blk HB2.out (fun h => h))
                clear hk3
                go_wp2_with fail
                go_meet
                exact ⟨q, rv, sv, R, W, rfl, HM3.out, hRW, HB3.out⟩
            | succ j =>
              have hlt : j < W.length := by omega
              rw [show (((j + 1 : Nat) : Int) - 1) = (j : Int) by omega]
              obtain ⟨_, _, e', hrd, -, -⟩ := (HMB.out.keep HKX.out).hq.rd
              cases e'
              obtain ⟨g1, o1, rfl, hgl1, d0, d1⟩ := hrd.ent j hlt
              have HST := Lib.hid (fromG_step (x := x) hlt)
              generalize W.getD j (0, 0) = v at *
              have hb := HKX.out.blk HBK.out (fun h => h)
              clear b1 b2 bl hrd
              have b1 := hb.cell 1; have b2 := hb.cell 2; have bl := hb.lt
              simp only [List.getElem?_cons_zero, List.getElem?_cons_succ] at b1 b2
              clear hb
              have HD1 := Lib.hid d1; clear d1
              go_wp2_with fail
              refine wp_region_ro (.free 0 (.free 1 (.free 2 (.free 3 (.free 5 (.free 6 (.pure 4 (.pure 7 (.free 8 (.fin)))))))))) [] (fun w' => w'.cell? ⟨g1, o1 + j * 2, none⟩ = some (.int .i64 v.1) ∧ w'.cell? ⟨be, 1, none⟩ = some (.int .i64 x)) (by kernel_rfl) (by kernel_rfl) ⟨d0, b1⟩ ?_
              by_cases hv : v.1 = x
              · obtain rfl := hv
                first | (refine wpRO_free rfl rfl _ (fun w' => by go_simp; exact Gives.mk _ _) (fun K hK => ?_); go_simp; refine hK _ ?_; clear hK K) | (refine wpRO_skipF rfl rfl (fun K hK => ?_); go_simp; refine hK _ ?_; clear hK K)
                first | (refine wpRO_free rfl rfl _ (fun w' => by go_simp; exact Gives.mk _ _) (fun K hK => ?_); go_simp; refine hK _ ?_; clear hK K) | (refine wpRO_skipF rfl rfl (fun K hK => ?_); go_simp; refine hK _ ?_; clear hK K)
                first | (refine wpRO_free rfl rfl _ (fun w' => by go_simp; exact Gives.mk _ _) (fun K hK => ?_); go_simp; refine hK _ ?_; clear hK K) | (refine wpRO_skipF rfl rfl (fun K hK => ?_); go_simp; refine hK _ ?_; clear hK K)
                first | (refine wpRO_free rfl rfl _ (fun w' => by go_simp; exact Gives.mk _ _) (fun K hK => ?_); go_simp; refine hK _ ?_; clear hK K) | (refine wpRO_skipF rfl rfl (fun K hK => ?_); go_simp; refine hK _ ?_; clear hK K)
                first | (refine wpRO_free rfl rfl _ (fun w' => by go_simp; exact Gives.mk _ _) (fun K hK => ?_); go_simp; refine hK _ ?_; clear hK K) | (refine wpRO_skipF rfl rfl (fun K hK => ?_); go_simp; refine hK _ ?_; clear hK K)
                first | (refine wpRO_free rfl rfl _ (fun w' => by go_simp; exact Gives.mk _ _) (fun K hK => ?_); go_simp; refine hK _ ?_; clear hK K) | (refine wpRO_skipF rfl rfl (fun K hK => ?_); go_simp; refine hK _ ?_; clear hK K)
                first | (refine wpRO_pure rfl rfl _ (fun w' hG => by obtain ⟨g0, g1⟩ := hG; exact gives_agg2 rfl (by decide +kernel) rfl (by assumption) (by assumption)) (fun K hK => ?_); go_simp; refine hK _ ?_; clear hK K) | (refine wpRO_pure rfl rfl _ (fun w' hG => by obtain ⟨g0, g1⟩ := hG; go_simp; exact Gives.mk _ _) (fun K hK => ?_); go_simp; refine hK _ ?_; clear hK K) | (refine wpRO_skip rfl rfl (fun K hK => ?_); go_simp; refine hK _ ?_; clear hK K)
                first | (refine wpRO_pure rfl rfl _ (fun w' hG => by obtain ⟨g0, g1⟩ := hG; exact gives_agg2 rfl (by decide +kernel) rfl (by assumption) (by assumption)) (fun K hK => ?_); go_simp; refine hK _ ?_; clear hK K) | (refine wpRO_pure rfl rfl _ (fun w' hG => by obtain ⟨g0, g1⟩ := hG; go_simp; exact Gives.mk _ _) (fun K hK => ?_); go_simp; refine hK _ ?_; clear hK K) | (refine wpRO_skip rfl rfl (fun K hK => ?_); go_simp; refine hK _ ?_; clear hK K)
                first | (refine wpRO_free rfl rfl _ (fun w' => by go_simp; exact Gives.mk _ _) (fun K hK => ?_); go_simp; refine hK _ ?_; clear hK K) | (refine wpRO_skipF rfl rfl (fun K hK => ?_); go_simp; refine hK _ ?_; clear hK K)
                refine wpRO_fin ?_
                go_wp2_with fail
                go_roundw
                case rel => exact ⟨j, by omega, rfl, by rw [HST.out, if_pos rfl], HKX.out.drew⟩
                case measure => simp [intOf]
              · have hvb : (v.1 == x) = false := by simpa using hv
                have HV := Lib.hid hv; clear hv
                first | (refine wpRO_free rfl rfl _ (fun w' => by go_simp; exact Gives.mk _ _) (fun K hK => ?_); go_simp; refine hK _ ?_; clear hK K) | (refine wpRO_skipF rfl rfl (fun K hK => ?_); go_simp; refine hK _ ?_; clear hK K)
                first | (refine wpRO_free rfl rfl _ (fun w' => by go_simp; exact Gives.mk _ _) (fun K hK => ?_); go_simp; refine hK _ ?_; clear hK K) | (refine wpRO_skipF rfl rfl (fun K hK => ?_); go_simp; refine hK _ ?_; clear hK K)
                first | (refine wpRO_free rfl rfl _ (fun w' => by go_simp; exact Gives.mk _ _) (fun K hK => ?_); go_simp; refine hK _ ?_; clear hK K) | (refine wpRO_skipF rfl rfl (fun K hK => ?_); go_simp; refine hK _ ?_; clear hK K)
                first | (refine wpRO_free rfl rfl _ (fun w' => by go_simp; exact Gives.mk _ _) (fun K hK => ?_); go_simp; refine hK _ ?_; clear hK K) | (refine wpRO_skipF rfl rfl (fun K hK => ?_); go_simp; refine hK _ ?_; clear hK K)
                first | (refine wpRO_free rfl rfl _ (fun w' => by go_simp; exact Gives.mk _ _) (fun K hK => ?_); go_simp; refine hK _ ?_; clear hK K) | (refine wpRO_skipF rfl rfl (fun K hK => ?_); go_simp; refine hK _ ?_; clear hK K)
                first | (refine wpRO_free rfl rfl _ (fun w' => by go_simp; exact Gives.mk _ _) (fun K hK => ?_); go_simp; refine hK _ ?_; clear hK K) | (refine wpRO_skipF rfl rfl (fun K hK => ?_); go_simp; refine hK _ ?_; clear hK K)
                first | (refine wpRO_pure rfl rfl _ (fun w' hG => by obtain ⟨g0, g1⟩ := hG; exact gives_agg2 rfl (by decide +kernel) rfl (by assumption) (by assumption)) (fun K hK => ?_); go_simp; refine hK _ ?_; clear hK K) | (refine wpRO_pure rfl rfl _ (fun w' hG => by obtain ⟨g0, g1⟩ := hG; go_simp; exact Gives.mk _ _) (fun K hK => ?_); go_simp; refine hK _ ?_; clear hK K) | (refine wpRO_skip rfl rfl (fun K hK => ?_); go_simp; refine hK _ ?_; clear hK K)
                first | (refine wpRO_pure rfl rfl _ (fun w' hG => by obtain ⟨g0, g1⟩ := hG; exact gives_agg2 rfl (by decide +kernel) rfl (by assumption) (by assumption)) (fun K hK => ?_); go_simp; refine hK _ ?_; clear hK K) | (refine wpRO_pure rfl rfl _ (fun w' hG => by obtain ⟨g0, g1⟩ := hG; go_simp; exact Gives.mk _ _) (fun K hK => ?_); go_simp; refine hK _ ?_; clear hK K) | (refine wpRO_skip rfl rfl (fun K hK => ?_); go_simp; refine hK _ ?_; clear hK K)
                first | (refine wpRO_free rfl rfl _ (fun w' => by go_simp; exact Gives.mk _ _) (fun K hK => ?_); go_simp; refine hK _ ?_; clear hK K) | (refine wpRO_skipF rfl rfl (fun K hK => ?_); go_simp; refine hK _ ?_; clear hK K)
                refine wpRO_fin ?_
                go_wp2_with fail
                go_roundw
                case rel => exact ⟨j, by omega, rfl, by rw [HST.out, if_neg HV.out], HKX.out.drew⟩
                case measure => simp [intOf]
        by_cases hd2 : d = 2
        · as_aux_lemma =>
          subst hd2
          by_cases hf : 24 ≤ R.length + W.length
          · obtain rfl : true = F := by rw [← HF.out]; exact (decide_eq_true (by omega)).symm
            go_wp2_with fail
            go_meet
            exact ⟨q, rv, sv, R, W, rfl, HMB.out, hRW, HBK.out⟩
          · obtain rfl : false = F := by rw [← HF.out]; exact (decide_eq_false (by omega)).symm
            obtain ⟨svo, svc, rfl, -, -, -⟩ := HMB.out.hS.hw.rd
            have c0 := HMB.out.hS.hp.cell 1; have cl := HMB.out.hS.hp.lt
            simp only [List.getElem?_cons_zero, List.getElem?_cons_succ] at c0
            go_wp2_with fail
            refine wp_region_ro (.free 0 (.free 1 (.free 2 (.free 3 (.free 5 (.pure 4 (.pure 6 (.run 7 (.run 8 (.swi [11] (.free 9 (.free 10 (.run 11 (.swi [] (.fin))))))))))))))) [8, 9, 10, 11] (fun w' => w'.cell? ⟨q, 1, none⟩ = some (.slice svo W.length svc) ∧ w'.cell? ⟨be, 1, none⟩ = some (.int .i64 x) ∧ w'.cell? ⟨be, 2, none⟩ = some (.int .i64 y)) (by kernel_rfl) (by kernel_rfl) ⟨c0, b1, b2⟩ ?_
            first | (refine wpRO_free rfl rfl _ (fun w' => by go_simp; exact Gives.mk _ _) (fun K hK => ?_); go_simp; refine hK _ ?_; clear hK K) | (refine wpRO_skipF rfl rfl (fun K hK => ?_); go_simp; refine hK _ ?_; clear hK K)
            first | (refine wpRO_free rfl rfl _ (fun w' => by go_simp; exact Gives.mk _ _) (fun K hK => ?_); go_simp; refine hK _ ?_; clear hK K) | (refine wpRO_skipF rfl rfl (fun K hK => ?_); go_simp; refine hK _ ?_; clear hK K)
            first | (refine wpRO_free rfl rfl _ (fun w' => by go_simp; exact Gives.mk _ _) (fun K hK => ?_); go_simp; refine hK _ ?_; clear hK K) | (refine wpRO_skipF rfl rfl (fun K hK => ?_); go_simp; refine hK _ ?_; clear hK K)
            first | (refine wpRO_free rfl rfl _ (fun w' => by go_simp; exact Gives.mk _ _) (fun K hK => ?_); go_simp; refine hK _ ?_; clear hK K) | (refine wpRO_skipF rfl rfl (fun K hK => ?_); go_simp; refine hK _ ?_; clear hK K)
            first | (refine wpRO_free rfl rfl _ (fun w' => by go_simp; exact Gives.mk _ _) (fun K hK => ?_); go_simp; refine hK _ ?_; clear hK K) | (refine wpRO_skipF rfl rfl (fun K hK => ?_); go_simp; refine hK _ ?_; clear hK K)
            first | (refine wpRO_pure rfl rfl _ (fun w' hG => by obtain ⟨g0, g1, g2⟩ := hG; exact gives_agg2 rfl (by decide +kernel) rfl (by assumption) (by assumption)) (fun K hK => ?_); go_simp; refine hK _ ?_; clear hK K) | (refine wpRO_pure rfl rfl _ (fun w' hG => by obtain ⟨g0, g1, g2⟩ := hG; go_simp; exact Gives.mk _ _) (fun K hK => ?_); go_simp; refine hK _ ?_; clear hK K) | (refine wpRO_skip rfl rfl (fun K hK => ?_); go_simp; refine hK _ ?_; clear hK K)
            first | (refine wpRO_pure rfl rfl _ (fun w' hG => by obtain ⟨g0, g1, g2⟩ := hG; exact gives_agg2 rfl (by decide +kernel) rfl (by assumption) (by assumption)) (fun K hK => ?_); go_simp; refine hK _ ?_; clear hK K) | (refine wpRO_pure rfl rfl _ (fun w' hG => by obtain ⟨g0, g1, g2⟩ := hG; go_simp; exact Gives.mk _ _) (fun K hK => ?_); go_simp; refine hK _ ?_; clear hK K) | (refine wpRO_skip rfl rfl (fun K hK => ?_); go_simp; refine hK _ ?_; clear hK K)
            refine wpRO_run rfl rfl (fun K hK => ?_); unfold gRun; go_simp
            have hkb : Keeps (fun _ => False) wb ((wb.alloc (.cells #[.int .i64 x, .int .i64 y] 40)).drew) := ((Keeps.refl (fun _ => False) wb).alloc (.cells #[.int .i64 x, .int .i64 y] 40)).drew
            refine hK _ _ (fun hg => ⟨(hkb.blk HMB.out.hS.hp (fun h => h)).cell 1, (hkb.blk HBK.out (fun h => h)).cell 1, (hkb.blk HBK.out (fun h => h)).cell 2⟩) ?_
            clear hK K
            skip
            refine wpRO_chg rfl rfl rfl (fun K hK => ?_)
            refine gRun_app (.tmp 126) (.tmp 129) 31 rfl 40 ie (.agg #[.int .i64 0, .int .i64 0]) 2 16 Try.underlying31 Hi.out Hz0.out Hz1.out Hz2.out rfl (by decide) _ W.length (entV W) rfl (HMB.out.keep hkb).hS.hw ⟨wb.heap.size, 0, none⟩ 1 1 [.int .i64 x, .int .i64 y] rfl rfl (news_at wb 40 #[.int .i64 x, .int .i64 y]) ent_one (by unfold maxLen; omega) (by omega) ?_
            intro v3 w3 hs3 hk3 ho3
            have hs3' : Sl w3 40 2 v3 (W ++ [(x, y)]).length (entV (W ++ [(x, y)])) := by simpa [entV] using hs3
            have hm3 := (HMB.out.keep hkb).wt hs3' hk3 ho3
            have hp3 := hk3.blk (HMB.out.keep hkb).hS.hp (HMB.out.keep hkb).hS.pw
            have hb3 := (hk3.blk (hkb.blk HBK.out (fun h => h)) (fun h => (HMB.out.keep hkb).nS (hkb.blk HBK.out (fun h => h)) (by decide) (by decide) (.inr (.inr h)))).setOther (a := ⟨q, 1, none⟩) (fun e => HBK.out.ne HMB.out.hS.hp (by decide) e) v3
            have x0 := hp3.cell 1; have xf := hp3.free 1; have xl := hp3.lt
            simp only [List.getElem?_cons_zero, List.getElem?_cons_succ] at x0
            have KM3 := Lib.hid hm3; have KB3 := Lib.hid hb3
            refine hK _ _ ?_
            clear hK K hkb hs3 hs3' hk3 ho3 hm3 hp3 hb3 c0 cl b1 b2 bl
            refine wpRO_swi (fun _ => True) trivial ?_
            obtain ⟨vo3, vc3, rfl, -, -, -⟩ := KM3.out.hS.hw.rd
            first | (refine wpRO_free rfl rfl _ (fun w' => by go_simp; exact Gives.mk _ _) (fun K hK => ?_); go_simp; refine hK _ ?_; clear hK K) | (refine wpRO_skipF rfl rfl (fun K hK => ?_); go_simp; refine hK _ ?_; clear hK K)
            first | (refine wpRO_free rfl rfl _ (fun w' => by go_simp; exact Gives.mk _ _) (fun K hK => ?_); go_simp; refine hK _ ?_; clear hK K) | (refine wpRO_skipF rfl rfl (fun K hK => ?_); go_simp; refine hK _ ?_; clear hK K)
            refine wpRO_chg rfl rfl rfl (fun K hK => ?_); unfold gRun; go_simp
            refine hK _ _ ?_
            clear hK K
            refine wpRO_swi (fun _ => True) trivial (wpRO_fin ?_)
            clear x0 xf xl
            simp only [List.length_append, List.length_cons, List.length_nil] at KM3 KB3
            generalize w3.setCell ⟨q, 1, none⟩ _ = w4 at *
            have b1 := KB3.out.cell 1; have b2 := KB3.out.cell 2; have bl := KB3.out.lt
            simp only [List.getElem?_cons_zero, List.getElem?_cons_succ] at b1 b2
            go_wp2_with (first | (refine wpList_agg2 rfl 40 (.tmp 134) rfl (by kernel_rfl) be 1 rfl _ _ b1 b2 ?_) | (at_builtin; refine wpList_app rfl (.tmp 133) (.tmp 136) 31 rfl 40 ie (.agg #[.int .i64 0, .int .i64 0]) 2 16 Try.underlying31 Hi.out Hz0.out Hz1.out Hz2.out rfl (by decide) _ W.length (entV W) rfl (KM3.out.keep ((Keeps.refl (fun _ => False) w4).alloc _)).hq ⟨w4.heap.size, 0, none⟩ 1 1 [.int .i64 x, .int .i64 y] rfl rfl (news_at w4 40 #[.int .i64 x, .int .i64 y]) ent_one (by unfold maxLen; omega) (by omega) ?_))
            intro v5 w5 hs5 hk5 ho5
            have hka := (Keeps.refl (fun _ => False) w4).alloc (.cells #[.int .i64 x, .int .i64 y] 40)
            have hs5' : Sl w5 40 2 v5 (W ++ [(x, y)]).length (entV (W ++ [(x, y)])) := by simpa [entV] using hs5
            have hm5 := (KM3.out.keep hka).q hs5' hk5 (by simpa using ho5)
            have hb5 := hk5.blk (hka.blk KB3.out (fun h => h)) (KM3.out.nq KB3.out (by decide))
            have HM5 := Lib.hid hm5; have HB5 := Lib.hid hb5
            clear hs5 hk5 ho5 hka hs5' hm5 hb5
            go_wp2_with fail
            go_meet
            exact ⟨q, rv, _, R, W ++ [(x, y)], rfl, HM5.out, by simp; omega, HB5.out⟩
        by_cases hd3 : d = 3
        · as_aux_lemma =>
          subst hd3
          go_wp2_with fail
          refine (Copy_c q rv sv R W _ HMB.out.hS hRW1 hRW2).mono ?_
          rintro e w3 ⟨p3, rv3, sv3, rfl, hS3, hk3, hf3⟩
          have HM3 := Lib.hid (HMB.out.copy hS3 hk3 hf3); have HB3 := Lib.hid (hk3.blk HBK.out (fun h => h))
          clear hS3 hk3 hf3
          go_wp2_with fail
          go_meet
          exact ⟨p3, rv3, sv3, R, W, rfl, HM3.out, hRW, HB3.out⟩
        have e0 : (d == 0) = false := by simpa using hd0
        have e1 : (d == 1) = false := by simpa using hd1
        have e2 : (d == 2) = false := by simpa using hd2
        have e3 : (d == 3) = false := by simpa using hd3
        clear hd0 hd1 hd2 hd3
        go_wp2_with fail
        go_meet
        exact ⟨q, rv, sv, R, W, rfl, HMB.out, hRW, HBK.out⟩
      case rest =>
       as_aux_lemma =>
        clear HMB HBK b1 b2 bl HF HSUM hRW
        obtain ⟨q2, rv2, sv2, R2, W2, rfl, hm2, hRW, hb2⟩ := hcut
        have hR1 : R2.length ≤ 1000000 := by omega
        have hW1 : W2.length ≤ 1000000 := by omega
        have HM2 := Lib.hid hm2; have HB2 := Lib.hid hb2
        clear hm2 hb2
        obtain ⟨rxo, rxc, rfl, -, -, -⟩ := HM2.out.hr.rd
        obtain ⟨qxo, qxc, rfl, -, -, -⟩ := HM2.out.hq.rd
        obtain ⟨rvo, rvc, rfl, -, -, -⟩ := HM2.out.hS.hr.rd
        obtain ⟨svo, svc, rfl, -, -, -⟩ := HM2.out.hS.hw.rd
        have hsum : IntKind.i64.wrap ((R2.length : Int) + (W2.length : Int)) = (R2.length : Int) + (W2.length : Int) := IntWalk.i64_in _ (by omega)
        obtain ⟨F2, hF2⟩ : ∃ F, decide ((24 : Int) ≤ (R2.length : Int) + (W2.length : Int)) = F := ⟨_, rfl⟩
        have HF2 := Lib.hid (show decide (24 ≤ R2.length + W2.length) = F2 by rw [← hF2]; congr 1; simp only [eq_iff_iff]; omega)
        go_wp2_with fail
        refine (Full_c q2 _ _ R2 W2 _ HM2.out.hS hR1 hW1).mono ?_
        rintro e w3 ⟨rfl, hk3⟩
        rw [HF2.out]
        have HM3 := Lib.hid (HM2.out.keep hk3); have HB3 := Lib.hid (hk3.blk HB2.out (fun h => h))
        clear hk3 HM2 HB2
        have c0 := HM3.out.hS.hp.cell 0; have cl := HM3.out.hS.hp.lt
        simp only [List.getElem?_cons_zero, List.getElem?_cons_succ] at c0
        go_wp2_with fail
        obtain ⟨_, _, e', ha1, -, -⟩ := HM3.out.hS.hr.rd
        cases e'
        obtain ⟨_, _, e', ha2, -, -⟩ := HM3.out.hr.rd
        cases e'
        refine (sameEntries_yes _ _ _ _ R2 _ ha1 ha2 hR1).mono ?_
        rintro e w4 ⟨rfl, hk4⟩
        have HM4 := Lib.hid (HM3.out.keep hk4); have HB4 := Lib.hid (hk4.blk HB3.out (fun h => h))
        clear hk4 HM3 HB3 ha1 ha2 c0 cl
        have c1 := HM4.out.hS.hp.cell 1; have cl := HM4.out.hS.hp.lt
        simp only [List.getElem?_cons_zero, List.getElem?_cons_succ] at c1
        go_wp2_with fail
        obtain ⟨_, _, e', ha1, -, -⟩ := HM4.out.hS.hw.rd
        cases e'
        obtain ⟨_, _, e', ha2, -, -⟩ := HM4.out.hq.rd
        cases e'
        refine (sameEntries_yes _ _ _ _ W2 _ ha1 ha2 hW1).mono ?_
        rintro e w5 ⟨rfl, hk5⟩
        have HM5 := Lib.hid (HM4.out.keep hk5); have HB5 := Lib.hid (hk5.blk HB4.out (fun h => h))
        clear hk5 HM4 HB4 ha1 ha2 c1 cl hsum hF2
        obtain ⟨ii, hi, hz0, hz1, hz2⟩ := info_parts info_int64'
        have Ii := Lib.hid hi; have Iz0 := Lib.hid hz0; have Iz1 := Lib.hid hz1; have Iz2 := Lib.hid hz2; clear hi hz0 hz1 hz2
        go_wp2_with fail
        go_loopw [14, 15] (fun v i wx => ∃ j : Nat, j ≤ W2.length ∧ i = .int .i64 j ∧ Sl wx 2 1 v (atG x (W2.take j)).length ((atG x (W2.take j)).map (Value.int .i64)) ∧ Keeps (fun _ => False) w5 wx ∧ ∀ b, ownB v b → w5.heap.size ≤ b) (fun _ i _ => W2.length - (intOf i).toNat)
        case atStart => exact ⟨0, Nat.zero_le _, rfl, Sl.nil _ _ _, Keeps.refl _ _, fun b hb => (own_nil hb).elim⟩
        case round =>
          obtain ⟨j, hj, rfl, hs, hkx, hox⟩ := hrel
          have HS := Lib.hid hs; have HKX := Lib.hid hkx; have HOX := Lib.hid hox
          clear hs hkx hox
          by_cases hlt2 : j < W2.length
          · obtain ⟨_, _, e', hrd, -, -⟩ := (HM5.out.keep HKX.out).hq.rd
            cases e'
            obtain ⟨g1, o1, rfl, hgl1, d0, d1⟩ := hrd.ent j hlt2
            have HST := Lib.hid (atG_step (x := x) hlt2)
            have hal : (atG x (W2.take j)).length ≤ 24 := by have := atG_le x (W2.take j); have := List.length_take_le j W2; omega
            generalize W2.getD j (0, 0) = v at *
            have hb := HKX.out.blk HB5.out (fun h => h)
            have b1 := hb.cell 1; have bl := hb.lt
            simp only [List.getElem?_cons_zero, List.getElem?_cons_succ] at b1
            obtain ⟨uo, uc, rfl, -, -, -⟩ := HS.out.rd
            clear hb hrd
            cases hv : (v.1 == x)
            · go_wp2_with fail
              refine wp_region_ro (.free 0 (.free 1 (.free 2 (.free 3 (.free 5 (.free 6 (.pure 4 (.pure 7 (.free 8 (.fin)))))))))) [] (fun w' => w'.cell? ⟨g1, o1 + j * 2, none⟩ = some (.int .i64 v.1) ∧ w'.cell? ⟨be, 1, none⟩ = some (.int .i64 x)) (by kernel_rfl) (by kernel_rfl) ⟨d0, b1⟩ ?_
              first | (refine wpRO_free rfl rfl _ (fun w' => by go_simp; exact Gives.mk _ _) (fun K hK => ?_); go_simp; refine hK _ ?_; clear hK K) | (refine wpRO_skipF rfl rfl (fun K hK => ?_); go_simp; refine hK _ ?_; clear hK K)
              first | (refine wpRO_free rfl rfl _ (fun w' => by go_simp; exact Gives.mk _ _) (fun K hK => ?_); go_simp; refine hK _ ?_; clear hK K) | (refine wpRO_skipF rfl rfl (fun K hK => ?_); go_simp; refine hK _ ?_; clear hK K)
              first | (refine wpRO_free rfl rfl _ (fun w' => by go_simp; exact Gives.mk _ _) (fun K hK => ?_); go_simp; refine hK _ ?_; clear hK K) | (refine wpRO_skipF rfl rfl (fun K hK => ?_); go_simp; refine hK _ ?_; clear hK K)
              first | (refine wpRO_free rfl rfl _ (fun w' => by go_simp; exact Gives.mk _ _) (fun K hK => ?_); go_simp; refine hK _ ?_; clear hK K) | (refine wpRO_skipF rfl rfl (fun K hK => ?_); go_simp; refine hK _ ?_; clear hK K)
              first | (refine wpRO_free rfl rfl _ (fun w' => by go_simp; exact Gives.mk _ _) (fun K hK => ?_); go_simp; refine hK _ ?_; clear hK K) | (refine wpRO_skipF rfl rfl (fun K hK => ?_); go_simp; refine hK _ ?_; clear hK K)
              first | (refine wpRO_free rfl rfl _ (fun w' => by go_simp; exact Gives.mk _ _) (fun K hK => ?_); go_simp; refine hK _ ?_; clear hK K) | (refine wpRO_skipF rfl rfl (fun K hK => ?_); go_simp; refine hK _ ?_; clear hK K)
              first | (refine wpRO_pure rfl rfl _ (fun w' hG => by obtain ⟨g0, g1⟩ := hG; exact gives_agg2 rfl (by decide +kernel) rfl (by assumption) (by assumption)) (fun K hK => ?_); go_simp; refine hK _ ?_; clear hK K) | (refine wpRO_pure rfl rfl _ (fun w' hG => by obtain ⟨g0, g1⟩ := hG; go_simp; exact Gives.mk _ _) (fun K hK => ?_); go_simp; refine hK _ ?_; clear hK K) | (refine wpRO_skip rfl rfl (fun K hK => ?_); go_simp; refine hK _ ?_; clear hK K)
              first | (refine wpRO_pure rfl rfl _ (fun w' hG => by obtain ⟨g0, g1⟩ := hG; exact gives_agg2 rfl (by decide +kernel) rfl (by assumption) (by assumption)) (fun K hK => ?_); go_simp; refine hK _ ?_; clear hK K) | (refine wpRO_pure rfl rfl _ (fun w' hG => by obtain ⟨g0, g1⟩ := hG; go_simp; exact Gives.mk _ _) (fun K hK => ?_); go_simp; refine hK _ ?_; clear hK K) | (refine wpRO_skip rfl rfl (fun K hK => ?_); go_simp; refine hK _ ?_; clear hK K)
              first | (refine wpRO_free rfl rfl _ (fun w' => by go_simp; exact Gives.mk _ _) (fun K hK => ?_); go_simp; refine hK _ ?_; clear hK K) | (refine wpRO_skipF rfl rfl (fun K hK => ?_); go_simp; refine hK _ ?_; clear hK K)
              refine wpRO_fin ?_
              clear d0 d1 b1 bl
              go_wp2_with fail
              go_roundw
              case rel => exact ⟨j + 1, by omega, by go_num, by rw [HST.out, hv]; simpa using HS.out.keep ((Keeps.refl (fun _ => False) wr).drew) (fun _ _ h => h), HKX.out.drew, HOX.out⟩
              case measure => simp [intOf]; omega
            · go_wp2_with fail
              refine wp_region_ro (.free 0 (.free 1 (.free 2 (.free 3 (.free 5 (.free 6 (.pure 4 (.pure 7 (.free 8 (.fin)))))))))) [] (fun w' => w'.cell? ⟨g1, o1 + j * 2, none⟩ = some (.int .i64 v.1) ∧ w'.cell? ⟨be, 1, none⟩ = some (.int .i64 x)) (by kernel_rfl) (by kernel_rfl) ⟨d0, b1⟩ ?_
              first | (refine wpRO_free rfl rfl _ (fun w' => by go_simp; exact Gives.mk _ _) (fun K hK => ?_); go_simp; refine hK _ ?_; clear hK K) | (refine wpRO_skipF rfl rfl (fun K hK => ?_); go_simp; refine hK _ ?_; clear hK K)
              first | (refine wpRO_free rfl rfl _ (fun w' => by go_simp; exact Gives.mk _ _) (fun K hK => ?_); go_simp; refine hK _ ?_; clear hK K) | (refine wpRO_skipF rfl rfl (fun K hK => ?_); go_simp; refine hK _ ?_; clear hK K)
              first | (refine wpRO_free rfl rfl _ (fun w' => by go_simp; exact Gives.mk _ _) (fun K hK => ?_); go_simp; refine hK _ ?_; clear hK K) | (refine wpRO_skipF rfl rfl (fun K hK => ?_); go_simp; refine hK _ ?_; clear hK K)
              first | (refine wpRO_free rfl rfl _ (fun w' => by go_simp; exact Gives.mk _ _) (fun K hK => ?_); go_simp; refine hK _ ?_; clear hK K) | (refine wpRO_skipF rfl rfl (fun K hK => ?_); go_simp; refine hK _ ?_; clear hK K)
              first | (refine wpRO_free rfl rfl _ (fun w' => by go_simp; exact Gives.mk _ _) (fun K hK => ?_); go_simp; refine hK _ ?_; clear hK K) | (refine wpRO_skipF rfl rfl (fun K hK => ?_); go_simp; refine hK _ ?_; clear hK K)
              first | (refine wpRO_free rfl rfl _ (fun w' => by go_simp; exact Gives.mk _ _) (fun K hK => ?_); go_simp; refine hK _ ?_; clear hK K) | (refine wpRO_skipF rfl rfl (fun K hK => ?_); go_simp; refine hK _ ?_; clear hK K)
              first | (refine wpRO_pure rfl rfl _ (fun w' hG => by obtain ⟨g0, g1⟩ := hG; exact gives_agg2 rfl (by decide +kernel) rfl (by assumption) (by assumption)) (fun K hK => ?_); go_simp; refine hK _ ?_; clear hK K) | (refine wpRO_pure rfl rfl _ (fun w' hG => by obtain ⟨g0, g1⟩ := hG; go_simp; exact Gives.mk _ _) (fun K hK => ?_); go_simp; refine hK _ ?_; clear hK K) | (refine wpRO_skip rfl rfl (fun K hK => ?_); go_simp; refine hK _ ?_; clear hK K)
              first | (refine wpRO_pure rfl rfl _ (fun w' hG => by obtain ⟨g0, g1⟩ := hG; exact gives_agg2 rfl (by decide +kernel) rfl (by assumption) (by assumption)) (fun K hK => ?_); go_simp; refine hK _ ?_; clear hK K) | (refine wpRO_pure rfl rfl _ (fun w' hG => by obtain ⟨g0, g1⟩ := hG; go_simp; exact Gives.mk _ _) (fun K hK => ?_); go_simp; refine hK _ ?_; clear hK K) | (refine wpRO_skip rfl rfl (fun K hK => ?_); go_simp; refine hK _ ?_; clear hK K)
              first | (refine wpRO_free rfl rfl _ (fun w' => by go_simp; exact Gives.mk _ _) (fun K hK => ?_); go_simp; refine hK _ ?_; clear hK K) | (refine wpRO_skipF rfl rfl (fun K hK => ?_); go_simp; refine hK _ ?_; clear hK K)
              refine wpRO_fin ?_
              clear d0 b1 bl
              go_wp2_with (at_builtin; refine wpList_app rfl (.tmp 184) (.tmp 190) 32 rfl 2 ii (.int .i64 0) 1 8 Try.underlying32 Ii.out Iz0.out Iz1.out Iz2.out rfl (by decide) _ (atG x (W2.take j)).length ((atG x (W2.take j)).map (Value.int .i64)) rfl (HS.out.keep (((Keeps.refl (fun _ => False) wr).drew).alloc _) (fun _ _ h => h)) ⟨wr.heap.size, 0, none⟩ 1 1 [.int .i64 v.2] rfl rfl ?hb int_one (by unfold maxLen; omega) (by omega) ?_)
              case hb => exact news_at wr.drew 2 #[.int .i64 v.2]
              intro v6 w6 hs6 hk6 ho6
              have hka : Keeps (fun _ => False) wr ((wr.alloc (.cells #[.int .i64 v.2] 2)).drew) := ((Keeps.refl (fun _ => False) wr).alloc (.cells #[.int .i64 v.2] 2)).drew
              have HK6 := Lib.hid ((HKX.out.trans hka).then hk6 (fun b hb => .inr (HOX.out b hb)))
              have HO6 : Hid (∀ b, ownB v6 b → w5.heap.size ≤ b) := fun b hb => by
                rcases ho6 b hb with h | h
                · exact HOX.out b h
                · have := HKX.out.size; first | omega | (simp at h; omega)
              have HS6 := Lib.hid hs6
              clear hs6 hk6 ho6 hka d1
              go_wp2_with fail
              go_roundw
              case rel => exact ⟨j + 1, by omega, by go_num, by rw [HST.out, hv]; simpa using HS6.out, HK6.out, HO6.out⟩
              case measure => simp [intOf]; omega
          · obtain rfl : j = W2.length := by omega
            have hs := HS.out
            rw [List.take_length] at hs
            have HS2 := Lib.hid hs
            have hb := HKX.out.blk HB5.out (fun h => h)
            have b1 := hb.cell 1; have bl := hb.lt
            simp only [List.getElem?_cons_zero, List.getElem?_cons_succ] at b1
            have HM6 := Lib.hid (HM5.out.keep HKX.out)
            clear hs hb HS
            go_wp2_with fail
            refine (At_c q2 _ _ R2 W2 x _ HM6.out.hS hW1).mono ?_
            rintro e w6 ⟨ao, cap, rfl, hsl, hk6, -⟩
            obtain ⟨_, _, e', hr1, -, -⟩ := hsl.rd
            cases e'
            obtain ⟨uo, uc, e', hr2, -, -⟩ := (HS2.out.keep hk6 (fun _ _ h => h)).rd
            subst e'
            have HR1 := Lib.hid hr1; have HR2 := Lib.hid hr2; have HM7 := Lib.hid (HM6.out.keep hk6)
            clear hsl hk6 hr1 hr2 b1 bl
            go_wp2_with fail
            refine (SameLongs_yes _ _ _ _ (atG x W2) _ HR1.out HR2.out (by have := atG_le x W2; omega)).mono ?_
            rintro e w7 ⟨rfl, hk7⟩
            have HM8 := Lib.hid (HM7.out.keep hk7)
            clear hk7
            go_wp2_with fail
            go_roundw
            case rel => exact ⟨k + 1, q2, _, _, R2, W2, by omega, by go_num, rfl, HM8.out, hRW⟩
            case measure => simp [intOf]; omega
    · obtain rfl : k = m := by omega
      go_wp2_with fail
      go_ret
      exact ⟨rfl, GM.out.hK⟩

theorem SideDoes_walk (lo : Option Addr) (lc m : Nat) (xs : List Int) (w : World) (h0 : Rd w lo (xs.map (Value.int .i64))) (hx : xs.length = m * 3) (l0 : m ≤ maxLen) (_ : ∀ x ∈ xs, -9223372036854775808 ≤ x ∧ x ≤ 9223372036854775807) :
    Calls Try.prog 11 #[.slice lo m lc] w fun e w' => e = .returned (.bool true) ∧ Below w.heap.size w w' :=
  (SideDoes_raw lo lc m xs w h0 hx l0).mono fun e w' h => ⟨h.1, h.2.below (fun _ _ h => h)⟩

end Go.Proofs.Ytjifdalflepcoaa
