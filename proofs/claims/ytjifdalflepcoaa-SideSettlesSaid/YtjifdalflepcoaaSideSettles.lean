/-
  SideSettles (law04.go): every Settle is as the document says.
-/
import Derived.Test.YtjifdalflepcoaaSideSettlesM
namespace Go.Proofs.Ytjifdalflepcoaa
open Go.RowKit
set_option linter.unusedVariables false
set_option linter.unusedSimpArgs false

def setL (p q bv : Nat) (leads : List (Int × Int)) (T : List Int) (hT : ∀ e ∈ leads, e.2 ∈ T) (hl : leads.length ≤ 1000) : Liv Try.prog p (List Int) :=
  wordsL p q bv leads T hT liveT (fun x => wrap64 (x + 1000)) (fun x => nowT [] x) 25 29 24 #[] #[.pointer (some ⟨bv, 0, none⟩)] #[.pointer (some ⟨q, 0, none⟩)] #[] #[] #[]
    (fun args w => by kernel_rfl) (fun args w => by kernel_rfl) (fun args w => by kernel_rfl)
    (fun w t av lv x h hb hl => Set2_c q bv av lv t leads x w h hb hl) (fun w x => Set1_c x w) (fun w t av lv x h hb hlt hx => keep_any q av lv t leads T x w h hx hT hl hlt)
    (fun x hx => .inr (by rw [wrapUp hx]; unfold smallW at hx; omega))

set_option maxHeartbeats 8000000 in
set_option maxRecDepth 100000 in
theorem SideSettles_raw (ro : Option Addr) (cr : Nat) (regs : List (Int × Int)) (ao : Option Addr) (ca : Nat) (wait : List (Int × Int)) (bo : Option Addr) (cb : Nat) (alive : List Int) (co : Option Addr) (cc : Nat) (leads : List (Int × Int)) (w : World)
    (h0 : Rd w ro (entV regs)) (l0 : regs.length ≤ maxLen) (h1 : Rd w ao (entV wait)) (l1 : wait.length ≤ maxLen) (h2 : Rd w bo (alive.map (Value.int .i64))) (l2 : alive.length ≤ maxLen) (h3 : Rd w co (pairV leads)) (l3 : leads.length ≤ maxLen) (hcl : ∀ a, co = some a → a.block < w.heap.size) :
    Calls Try.prog 5 #[.slice ro regs.length cr, .slice ao wait.length ca, .slice bo alive.length cb, .slice co leads.length cc] w fun e w' => e = .returned (.bool true) ∧ Keeps (fun _ => False) w w' := by
  have H0 := Lib.hid h0; have H1 := Lib.hid h1; have H2 := Lib.hid h2; have H3 := Lib.hid h3; have L0 := Lib.hid l0; have L1 := Lib.hid l1; have L2 := Lib.hid l2; have L3 := Lib.hid l3; have HCL := Lib.hid hcl
  clear h0 h1 h2 h3 l0 l1 l2 l3 hcl
  go_enter Try.func5, Try.ntmps5
  go_wp2_with fail
  refine (sideBegun_c _).mono ?_
  rintro e w1 ⟨rfl, hk1⟩
  have HK1 := Lib.hid hk1; clear hk1
  go_wp2_with fail
  refine (great_c ro ao bo co _ _ _ _ cr ca cb cc _ L0.out L1.out L2.out L3.out).mono ?_
  rintro e w2 ⟨rfl, rfl⟩
  cases hg : greatB regs.length wait.length alive.length leads.length
  · obtain ⟨n0, n1, n2, n3⟩ := greatB_no hg
    clear hg
    go_wp2_with fail
    refine (small_c ro ao bo co cr ca cb cc _ _ regs wait _ (H0.out.keep HK1.out (fun _ _ _ h => h)) (H1.out.keep HK1.out (fun _ _ _ h => h)) (by omega) (by omega)).mono ?_
    rintro e w2 ⟨rfl, rfl⟩
    cases hs : (regs.all smallB && wait.all smallB)
    · go_wp2_with fail
      go_ret
      exact ⟨rfl, HK1.out⟩
    · have HS := Lib.hid hs; clear hs
      obtain ⟨ie, hie, hez0, hez1, hez2⟩ := info_parts info_entry
      have Hi := Lib.hid hie; have Hz0 := Lib.hid hez0; have Hz1 := Lib.hid hez1; have Hz2 := Lib.hid hez2; clear hie hez0 hez1 hez2
      obtain ⟨ir, hie, hez0, hez1, hez2⟩ := info_parts info_rentry
      have Ri := Lib.hid hie; have Rz0 := Lib.hid hez0; have Rz1 := Lib.hid hez1; have Rz2 := Lib.hid hez2; clear hie hez0 hez1 hez2
      obtain ⟨ii, hi, hz0, hz1, hz2⟩ := info_parts info_int64'
      have Ii := Lib.hid hi; have Iz0 := Lib.hid hz0; have Iz1 := Lib.hid hz1; have Iz2 := Lib.hid hz2; clear hi hz0 hz1 hz2
      obtain ⟨ip, hi, hz0, hz1, hz2⟩ := info_parts info_pair
      have Pi := Lib.hid hi; have Pz0 := Lib.hid hz0; have Pz1 := Lib.hid hz1; have Pz2 := Lib.hid hz2; clear hi hz0 hz1 hz2
      go_wp2_with fail
      have hp := Blk.newAt (w := w1) (b := w1.heap.size) (T := 37) #[nilS, nilS] rfl rfl
      have hka := (Keeps.refl (fun _ => False) w1).alloc (.cells #[nilS, nilS] 37)
      have hpw : w.heap.size ≤ w1.heap.size := HK1.out.size
      generalize hw2 : w1.alloc (.cells #[nilS, nilS] 37) = w2 at *
      clear hw2
      generalize w1.heap.size = p at *
      have hM : TwoL w w2 p nilS nilS nilS nilS [] [] [] [] :=
        ⟨⟨hp, Sl.nil _ _ _, Sl.nil _ _ _, fun k h => own_nil h.1⟩, Sl.nil _ _ _, Sl.nil _ _ _, HK1.out.trans hka, by
          rintro k (rfl | h | h)
          · exact hpw
          · exact (own_nil h).elim
          · exact (own_nil h).elim, fun k h => (own_nil h).elim, fun k h => (own_nil h).elim, fun k h => own_nil h.1⟩
      have HM := Lib.hid hM
      clear hp hka hpw HK1 hM
      go_loopw [10, 12] (fun rx i wr => ∃ (k : Nat) (rv : Value), k ≤ regs.length ∧ i = .int .i64 k ∧ TwoL w wr p rv nilS rx nilS (regs.take k) [] (regs.take k) []) (fun _ i _ => regs.length - (intOf i).toNat)
      case atStart => exact ⟨0, nilS, Nat.zero_le _, rfl, HM.out⟩
      case round =>
        clear HM
        obtain ⟨k, rv, hk, rfl, hm⟩ := hrel
        have GM := Lib.hid hm
        by_cases hlt : k < regs.length
        · --<1
          have hrd := (H0.out.keep hm.hK (fun _ _ _ h => h))
          obtain ⟨g, o, rfl, hgl, d0, d1⟩ := hrd.ent k hlt
          have htk : regs.take (k + 1) = regs.take k ++ [regs.getD k (0, 0)] := by rw [List.take_succ_eq_append_getElem hlt]; simp [List.getD, hlt]
          have hpl : (regs.take k).length ≤ 60 := by have := List.length_take_le k regs; omega
          obtain ⟨v, hgv⟩ : ∃ v, v = regs.getD k (0, 0) := ⟨_, rfl⟩
          rw [← hgv] at d0 d1 htk
          have HGV := Lib.hid hgv.symm
          clear hgv
          generalize regs.take k = pre at *
          obtain ⟨rvo, rvc, rfl, -, -, -⟩ := GM.out.hS.hr.rd
          obtain ⟨rxo, rxc, rfl, -, -, -⟩ := GM.out.hr.rd
          have HTK := Lib.hid htk
          have c0 := GM.out.hS.hp.cell 0
          simp only [List.getElem?_cons_zero, List.getElem?_cons_succ] at c0
          clear hm hrd htk
          go_wp2_with fail
          refine wp_region_ro (.free 0 (.free 1 (.free 2 (.free 3 (.free 5 (.free 6 (.free 7 (.pure 4 (.pure 8 (.run 9 (.run 10 (.swi [13] (.free 11 (.free 12 (.run 13 (.swi [] (.fin))))))))))))))))) [10, 11, 12, 13] (fun w' => w'.cell? ⟨p, 0, none⟩ = some (.slice rvo pre.length rvc) ∧ w'.cell? ⟨g, o + k * 2, none⟩ = some (.int .i64 v.1) ∧ w'.cell? ⟨g, o + k * 2 + 1, none⟩ = some (.int .i64 v.2)) (by kernel_rfl) (by kernel_rfl) ⟨c0, d0, d1⟩ ?_
          first | (refine wpRO_free rfl rfl _ (fun w' => by go_simp; exact Gives.mk _ _) (fun K hK => ?_); go_simp; refine hK _ ?_; clear hK K) | (refine wpRO_skipF rfl rfl (fun K hK => ?_); go_simp; refine hK _ ?_; clear hK K)
          first | (refine wpRO_free rfl rfl _ (fun w' => by go_simp; exact Gives.mk _ _) (fun K hK => ?_); go_simp; refine hK _ ?_; clear hK K) | (refine wpRO_skipF rfl rfl (fun K hK => ?_); go_simp; refine hK _ ?_; clear hK K)
          first | (refine wpRO_free rfl rfl _ (fun w' => by go_simp; exact Gives.mk _ _) (fun K hK => ?_); go_simp; refine hK _ ?_; clear hK K) | (refine wpRO_skipF rfl rfl (fun K hK => ?_); go_simp; refine hK _ ?_; clear hK K)
          first | (refine wpRO_free rfl rfl _ (fun w' => by go_simp; exact Gives.mk _ _) (fun K hK => ?_); go_simp; refine hK _ ?_; clear hK K) | (refine wpRO_skipF rfl rfl (fun K hK => ?_); go_simp; refine hK _ ?_; clear hK K)
          first | (refine wpRO_free rfl rfl _ (fun w' => by go_simp; exact Gives.mk _ _) (fun K hK => ?_); go_simp; refine hK _ ?_; clear hK K) | (refine wpRO_skipF rfl rfl (fun K hK => ?_); go_simp; refine hK _ ?_; clear hK K)
          first | (refine wpRO_free rfl rfl _ (fun w' => by go_simp; exact Gives.mk _ _) (fun K hK => ?_); go_simp; refine hK _ ?_; clear hK K) | (refine wpRO_skipF rfl rfl (fun K hK => ?_); go_simp; refine hK _ ?_; clear hK K)
          first | (refine wpRO_free rfl rfl _ (fun w' => by go_simp; exact Gives.mk _ _) (fun K hK => ?_); go_simp; refine hK _ ?_; clear hK K) | (refine wpRO_skipF rfl rfl (fun K hK => ?_); go_simp; refine hK _ ?_; clear hK K)
          first | (refine wpRO_pure rfl rfl _ (fun w' hG => by obtain ⟨g0, g1, g2⟩ := hG; exact gives_agg2 rfl (by decide +kernel) rfl (by assumption) (by assumption)) (fun K hK => ?_); go_simp; refine hK _ ?_; clear hK K) | (refine wpRO_pure rfl rfl _ (fun w' hG => by obtain ⟨g0, g1, g2⟩ := hG; go_simp; exact Gives.mk _ _) (fun K hK => ?_); go_simp; refine hK _ ?_; clear hK K) | (refine wpRO_skip rfl rfl (fun K hK => ?_); go_simp; refine hK _ ?_; clear hK K)
          first | (refine wpRO_pure rfl rfl _ (fun w' hG => by obtain ⟨g0, g1, g2⟩ := hG; exact gives_agg2 rfl (by decide +kernel) rfl (by assumption) (by assumption)) (fun K hK => ?_); go_simp; refine hK _ ?_; clear hK K) | (refine wpRO_pure rfl rfl _ (fun w' hG => by obtain ⟨g0, g1, g2⟩ := hG; go_simp; exact Gives.mk _ _) (fun K hK => ?_); go_simp; refine hK _ ?_; clear hK K) | (refine wpRO_skip rfl rfl (fun K hK => ?_); go_simp; refine hK _ ?_; clear hK K)
          refine wpRO_run rfl rfl (fun K hK => ?_); unfold gRun; go_simp
          have hkb : Keeps (fun _ => False) wr ((wr.alloc (.cells #[.int .i64 v.1, .int .i64 v.2] 40)).drew) := ((Keeps.refl (fun _ => False) wr).alloc (.cells #[.int .i64 v.1, .int .i64 v.2] 40)).drew
          refine hK _ _ (fun hg => ⟨(hkb.blk GM.out.hS.hp (fun h => h)).cell 0, ?ga, ?gb⟩) ?_
          case ga => rw [World.cell?_of_block (w := wr) (a := ⟨g, o + k * 2, none⟩) (hkb.block g hgl (fun h => h))]; exact d0
          case gb => rw [World.cell?_of_block (w := wr) (a := ⟨g, o + k * 2 + 1, none⟩) (hkb.block g hgl (fun h => h))]; exact d1
          clear hK K
          skip
          refine wpRO_chg rfl rfl rfl (fun K hK => ?_)
          refine gRun_app (.tmp 50) (.tmp 55) 31 rfl 40 ie (.agg #[.int .i64 0, .int .i64 0]) 2 16 Try.underlying31 Hi.out Hz0.out Hz1.out Hz2.out rfl (by decide) _ pre.length (entV pre) rfl (GM.out.keep hkb).hS.hr ⟨wr.heap.size, 0, none⟩ 1 1 [.int .i64 v.1, .int .i64 v.2] rfl rfl (news_at wr 40 #[.int .i64 v.1, .int .i64 v.2]) ent_one (by unfold maxLen; omega) (by omega) ?_
          intro v3 w3 hs3 hk3 ho3
          have hs3' : Sl w3 40 2 v3 (pre ++ [v]).length (entV (pre ++ [v])) := by simpa [entV] using hs3
          have hm3 := (GM.out.keep hkb).reg hs3' hk3 ho3
          have hp3 := hk3.blk (GM.out.keep hkb).hS.hp (GM.out.keep hkb).hS.pr
          have x0 := hp3.cell 0; have xf := hp3.free 0; have xl := hp3.lt
          obtain ⟨vo3, vc3, rfl, -, -, -⟩ := hs3'.rd
          simp only [List.getElem?_cons_zero, List.getElem?_cons_succ] at x0
          have KM3 := Lib.hid hm3
          refine hK _ _ ?_
          clear hK K hkb hs3 hs3' hk3 ho3 hm3 hp3 c0 d0 d1 hgl
          refine wpRO_swi (fun _ => True) trivial ?_
          first | (refine wpRO_free rfl rfl _ (fun w' => by go_simp; exact Gives.mk _ _) (fun K hK => ?_); go_simp; refine hK _ ?_; clear hK K) | (refine wpRO_skipF rfl rfl (fun K hK => ?_); go_simp; refine hK _ ?_; clear hK K)
          first | (refine wpRO_free rfl rfl _ (fun w' => by go_simp; exact Gives.mk _ _) (fun K hK => ?_); go_simp; refine hK _ ?_; clear hK K) | (refine wpRO_skipF rfl rfl (fun K hK => ?_); go_simp; refine hK _ ?_; clear hK K)
          refine wpRO_chg rfl rfl rfl (fun K hK => ?_); unfold gRun; go_simp
          refine hK _ _ ?_
          clear hK K
          refine wpRO_swi (fun _ => True) trivial (wpRO_fin ?_)
          simp only [List.length_append, List.length_cons, List.length_nil] at KM3
          clear x0 xf xl
          generalize w3.setCell ⟨p, 0, none⟩ _ = w4 at *
          have hrd := (H0.out.keep KM3.out.hK (fun _ _ _ h => h))
          obtain ⟨g2, o2, e', hgl, d0, d1⟩ := hrd.ent k hlt
          cases e'
          rw [HGV.out] at d0 d1
          clear hrd
          go_wp2_with fail
          refine wp_region_ro (.free 0 (.free 1 (.free 2 (.free 3 (.free 4 (.free 6 (.free 7 (.free 8 (.free 9 (.pure 5 (.pure 10 (.free 11 (.run 12 (.swi [13, 14] (.run 13 (.swi [] (.free 14 (.fin)))))))))))))))))) [12, 13, 14] (fun w' => w'.cell? ⟨g, o + k * 2, none⟩ = some (.int .i64 v.1) ∧ w'.cell? ⟨g, o + k * 2 + 1, none⟩ = some (.int .i64 v.2)) (by kernel_rfl) (by kernel_rfl) ⟨d0, d1⟩ ?_
          first | (refine wpRO_free rfl rfl _ (fun w' => by go_simp; exact Gives.mk _ _) (fun K hK => ?_); go_simp; refine hK _ ?_; clear hK K) | (refine wpRO_skipF rfl rfl (fun K hK => ?_); go_simp; refine hK _ ?_; clear hK K)
          first | (refine wpRO_free rfl rfl _ (fun w' => by go_simp; exact Gives.mk _ _) (fun K hK => ?_); go_simp; refine hK _ ?_; clear hK K) | (refine wpRO_skipF rfl rfl (fun K hK => ?_); go_simp; refine hK _ ?_; clear hK K)
          first | (refine wpRO_free rfl rfl _ (fun w' => by go_simp; exact Gives.mk _ _) (fun K hK => ?_); go_simp; refine hK _ ?_; clear hK K) | (refine wpRO_skipF rfl rfl (fun K hK => ?_); go_simp; refine hK _ ?_; clear hK K)
          first | (refine wpRO_free rfl rfl _ (fun w' => by go_simp; exact Gives.mk _ _) (fun K hK => ?_); go_simp; refine hK _ ?_; clear hK K) | (refine wpRO_skipF rfl rfl (fun K hK => ?_); go_simp; refine hK _ ?_; clear hK K)
          first | (refine wpRO_free rfl rfl _ (fun w' => by go_simp; exact Gives.mk _ _) (fun K hK => ?_); go_simp; refine hK _ ?_; clear hK K) | (refine wpRO_skipF rfl rfl (fun K hK => ?_); go_simp; refine hK _ ?_; clear hK K)
          first | (refine wpRO_free rfl rfl _ (fun w' => by go_simp; exact Gives.mk _ _) (fun K hK => ?_); go_simp; refine hK _ ?_; clear hK K) | (refine wpRO_skipF rfl rfl (fun K hK => ?_); go_simp; refine hK _ ?_; clear hK K)
          first | (refine wpRO_free rfl rfl _ (fun w' => by go_simp; exact Gives.mk _ _) (fun K hK => ?_); go_simp; refine hK _ ?_; clear hK K) | (refine wpRO_skipF rfl rfl (fun K hK => ?_); go_simp; refine hK _ ?_; clear hK K)
          first | (refine wpRO_free rfl rfl _ (fun w' => by go_simp; exact Gives.mk _ _) (fun K hK => ?_); go_simp; refine hK _ ?_; clear hK K) | (refine wpRO_skipF rfl rfl (fun K hK => ?_); go_simp; refine hK _ ?_; clear hK K)
          first | (refine wpRO_free rfl rfl _ (fun w' => by go_simp; exact Gives.mk _ _) (fun K hK => ?_); go_simp; refine hK _ ?_; clear hK K) | (refine wpRO_skipF rfl rfl (fun K hK => ?_); go_simp; refine hK _ ?_; clear hK K)
          first | (refine wpRO_pure rfl rfl _ (fun w' hG => by obtain ⟨g0, g1⟩ := hG; exact gives_agg2 rfl (by decide +kernel) rfl (by assumption) (by assumption)) (fun K hK => ?_); go_simp; refine hK _ ?_; clear hK K) | (refine wpRO_pure rfl rfl _ (fun w' hG => by obtain ⟨g0, g1⟩ := hG; go_simp; exact Gives.mk _ _) (fun K hK => ?_); go_simp; refine hK _ ?_; clear hK K) | (refine wpRO_skip rfl rfl (fun K hK => ?_); go_simp; refine hK _ ?_; clear hK K)
          first | (refine wpRO_pure rfl rfl _ (fun w' hG => by obtain ⟨g0, g1⟩ := hG; exact gives_agg2 rfl (by decide +kernel) rfl (by assumption) (by assumption)) (fun K hK => ?_); go_simp; refine hK _ ?_; clear hK K) | (refine wpRO_pure rfl rfl _ (fun w' hG => by obtain ⟨g0, g1⟩ := hG; go_simp; exact Gives.mk _ _) (fun K hK => ?_); go_simp; refine hK _ ?_; clear hK K) | (refine wpRO_skip rfl rfl (fun K hK => ?_); go_simp; refine hK _ ?_; clear hK K)
          first | (refine wpRO_free rfl rfl _ (fun w' => by go_simp; exact Gives.mk _ _) (fun K hK => ?_); go_simp; refine hK _ ?_; clear hK K) | (refine wpRO_skipF rfl rfl (fun K hK => ?_); go_simp; refine hK _ ?_; clear hK K)
          refine wpRO_chg rfl rfl rfl (fun K hK => ?_); unfold gRun; go_simp
          refine hK _ _ ?_
          clear hK K
          refine wpRO_swi (fun _ => True) trivial ?_
          skip
          have hkb : Keeps (fun _ => False) w4 ((w4.alloc (.cells #[.int .i64 v.1, .int .i64 v.2] 41)).drew) := ((Keeps.refl (fun _ => False) w4).alloc (.cells #[.int .i64 v.1, .int .i64 v.2] 41)).drew
          refine wpRO_chg rfl rfl rfl (fun K hK => ?_)
          refine gRun_app (.tmp 59) (.tmp 71) 38 rfl 41 ir (.agg #[.int .i64 0, .int .i64 0]) 2 16 Try.underlying38 Ri.out Rz0.out Rz1.out Rz2.out rfl (by decide) _ pre.length (entV pre) rfl (KM3.out.keep hkb).hr ⟨w4.heap.size, 0, none⟩ 1 1 [.int .i64 v.1, .int .i64 v.2] rfl rfl (news_at w4 41 #[.int .i64 v.1, .int .i64 v.2]) ent_one (by unfold maxLen; omega) (by omega) ?_
          intro v5 w5 hs5 hk5 ho5
          have hs5' : Sl w5 41 2 v5 (pre ++ [v]).length (entV (pre ++ [v])) := by simpa [entV] using hs5
          have KM5 := Lib.hid ((KM3.out.keep hkb).r hs5' hk5 ho5)
          refine hK _ _ ?_
          clear hK K hkb hs5 hs5' hk5 ho5 d0 d1 hgl
          refine wpRO_swi (fun _ => True) trivial ?_
          first | (refine wpRO_free rfl rfl _ (fun w' => by go_simp; exact Gives.mk _ _) (fun K hK => ?_); go_simp; refine hK _ ?_; clear hK K) | (refine wpRO_skipF rfl rfl (fun K hK => ?_); go_simp; refine hK _ ?_; clear hK K)
          refine wpRO_fin ?_
          go_wp2_with fail
          go_roundw
          case rel => exact ⟨k + 1, _, by omega, by go_num, by rw [HTK.out]; exact KM5.out⟩
          case measure => simp [intOf]; omega
          -->1
        · obtain rfl : k = regs.length := by omega
          have GM2 := Lib.hid (by have h := hm; rw [List.take_length] at h; exact h : TwoL w wr p rv nilS _ nilS regs [] regs [])
          clear hm GM
          go_wp2_with fail
          have hrv := GM2.out.hS.hr
          obtain ⟨wo, hwo⟩ : ∃ wo : World, wo = wr := ⟨_, rfl⟩
          go_loopw [11, 13] (fun qx i wx => ∃ (k : Nat) (sv : Value), k ≤ wait.length ∧ i = .int .i64 k ∧ TwoL w wx p rv sv u10 qx regs (wait.take k) regs (wait.take k)) (fun _ i _ => wait.length - (intOf i).toNat)
          case atStart => exact ⟨0, nilS, Nat.zero_le _, rfl, GM2.out⟩
          case round =>
            clear GM2 hrv hwo
            obtain ⟨k, sv, hk, rfl, hm⟩ := hrel
            have GM := Lib.hid hm
            by_cases hlt : k < wait.length
            · --<2
              have hrd := (H1.out.keep hm.hK (fun _ _ _ h => h))
              obtain ⟨g, o, rfl, hgl, d0, d1⟩ := hrd.ent k hlt
              have htk : wait.take (k + 1) = wait.take k ++ [wait.getD k (0, 0)] := by rw [List.take_succ_eq_append_getElem hlt]; simp [List.getD, hlt]
              have hpl : (wait.take k).length ≤ 60 := by have := List.length_take_le k wait; omega
              obtain ⟨v, hgv⟩ : ∃ v, v = wait.getD k (0, 0) := ⟨_, rfl⟩
              rw [← hgv] at d0 d1 htk
              have HGV := Lib.hid hgv.symm
              clear hgv
              generalize wait.take k = pre at *
              obtain ⟨rvo, rvc, rfl, -, -, -⟩ := GM.out.hS.hw.rd
              obtain ⟨rxo, rxc, rfl, -, -, -⟩ := GM.out.hq.rd
              have HTK := Lib.hid htk
              have c0 := GM.out.hS.hp.cell 1
              simp only [List.getElem?_cons_zero, List.getElem?_cons_succ] at c0
              clear hm hrd htk
              go_wp2_with fail
              refine wp_region_ro (.free 0 (.free 1 (.free 2 (.free 3 (.free 5 (.free 6 (.free 7 (.pure 4 (.pure 8 (.run 9 (.run 10 (.swi [13] (.free 11 (.free 12 (.run 13 (.swi [] (.fin))))))))))))))))) [10, 11, 12, 13] (fun w' => w'.cell? ⟨p, 1, none⟩ = some (.slice rvo pre.length rvc) ∧ w'.cell? ⟨g, o + k * 2, none⟩ = some (.int .i64 v.1) ∧ w'.cell? ⟨g, o + k * 2 + 1, none⟩ = some (.int .i64 v.2)) (by kernel_rfl) (by kernel_rfl) ⟨c0, d0, d1⟩ ?_
              first | (refine wpRO_free rfl rfl _ (fun w' => by go_simp; exact Gives.mk _ _) (fun K hK => ?_); go_simp; refine hK _ ?_; clear hK K) | (refine wpRO_skipF rfl rfl (fun K hK => ?_); go_simp; refine hK _ ?_; clear hK K)
              first | (refine wpRO_free rfl rfl _ (fun w' => by go_simp; exact Gives.mk _ _) (fun K hK => ?_); go_simp; refine hK _ ?_; clear hK K) | (refine wpRO_skipF rfl rfl (fun K hK => ?_); go_simp; refine hK _ ?_; clear hK K)
              first | (refine wpRO_free rfl rfl _ (fun w' => by go_simp; exact Gives.mk _ _) (fun K hK => ?_); go_simp; refine hK _ ?_; clear hK K) | (refine wpRO_skipF rfl rfl (fun K hK => ?_); go_simp; refine hK _ ?_; clear hK K)
              first | (refine wpRO_free rfl rfl _ (fun w' => by go_simp; exact Gives.mk _ _) (fun K hK => ?_); go_simp; refine hK _ ?_; clear hK K) | (refine wpRO_skipF rfl rfl (fun K hK => ?_); go_simp; refine hK _ ?_; clear hK K)
              first | (refine wpRO_free rfl rfl _ (fun w' => by go_simp; exact Gives.mk _ _) (fun K hK => ?_); go_simp; refine hK _ ?_; clear hK K) | (refine wpRO_skipF rfl rfl (fun K hK => ?_); go_simp; refine hK _ ?_; clear hK K)
              first | (refine wpRO_free rfl rfl _ (fun w' => by go_simp; exact Gives.mk _ _) (fun K hK => ?_); go_simp; refine hK _ ?_; clear hK K) | (refine wpRO_skipF rfl rfl (fun K hK => ?_); go_simp; refine hK _ ?_; clear hK K)
              first | (refine wpRO_free rfl rfl _ (fun w' => by go_simp; exact Gives.mk _ _) (fun K hK => ?_); go_simp; refine hK _ ?_; clear hK K) | (refine wpRO_skipF rfl rfl (fun K hK => ?_); go_simp; refine hK _ ?_; clear hK K)
              first | (refine wpRO_pure rfl rfl _ (fun w' hG => by obtain ⟨g0, g1, g2⟩ := hG; exact gives_agg2 rfl (by decide +kernel) rfl (by assumption) (by assumption)) (fun K hK => ?_); go_simp; refine hK _ ?_; clear hK K) | (refine wpRO_pure rfl rfl _ (fun w' hG => by obtain ⟨g0, g1, g2⟩ := hG; go_simp; exact Gives.mk _ _) (fun K hK => ?_); go_simp; refine hK _ ?_; clear hK K) | (refine wpRO_skip rfl rfl (fun K hK => ?_); go_simp; refine hK _ ?_; clear hK K)
              first | (refine wpRO_pure rfl rfl _ (fun w' hG => by obtain ⟨g0, g1, g2⟩ := hG; exact gives_agg2 rfl (by decide +kernel) rfl (by assumption) (by assumption)) (fun K hK => ?_); go_simp; refine hK _ ?_; clear hK K) | (refine wpRO_pure rfl rfl _ (fun w' hG => by obtain ⟨g0, g1, g2⟩ := hG; go_simp; exact Gives.mk _ _) (fun K hK => ?_); go_simp; refine hK _ ?_; clear hK K) | (refine wpRO_skip rfl rfl (fun K hK => ?_); go_simp; refine hK _ ?_; clear hK K)
              refine wpRO_run rfl rfl (fun K hK => ?_); unfold gRun; go_simp
              have hkb : Keeps (fun _ => False) wr ((wr.alloc (.cells #[.int .i64 v.1, .int .i64 v.2] 40)).drew) := ((Keeps.refl (fun _ => False) wr).alloc (.cells #[.int .i64 v.1, .int .i64 v.2] 40)).drew
              refine hK _ _ (fun hg => ⟨(hkb.blk GM.out.hS.hp (fun h => h)).cell 1, ?ga, ?gb⟩) ?_
              case ga => rw [World.cell?_of_block (w := wr) (a := ⟨g, o + k * 2, none⟩) (hkb.block g hgl (fun h => h))]; exact d0
              case gb => rw [World.cell?_of_block (w := wr) (a := ⟨g, o + k * 2 + 1, none⟩) (hkb.block g hgl (fun h => h))]; exact d1
              clear hK K
              skip
              refine wpRO_chg rfl rfl rfl (fun K hK => ?_)
              refine gRun_app (.tmp 83) (.tmp 88) 31 rfl 40 ie (.agg #[.int .i64 0, .int .i64 0]) 2 16 Try.underlying31 Hi.out Hz0.out Hz1.out Hz2.out rfl (by decide) _ pre.length (entV pre) rfl (GM.out.keep hkb).hS.hw ⟨wr.heap.size, 0, none⟩ 1 1 [.int .i64 v.1, .int .i64 v.2] rfl rfl (news_at wr 40 #[.int .i64 v.1, .int .i64 v.2]) ent_one (by unfold maxLen; omega) (by omega) ?_
              intro v3 w3 hs3 hk3 ho3
              have hs3' : Sl w3 40 2 v3 (pre ++ [v]).length (entV (pre ++ [v])) := by simpa [entV] using hs3
              have hm3 := (GM.out.keep hkb).wt hs3' hk3 ho3
              have hp3 := hk3.blk (GM.out.keep hkb).hS.hp (GM.out.keep hkb).hS.pw
              have x0 := hp3.cell 1; have xf := hp3.free 1; have xl := hp3.lt
              obtain ⟨vo3, vc3, rfl, -, -, -⟩ := hs3'.rd
              simp only [List.getElem?_cons_zero, List.getElem?_cons_succ] at x0
              have KM3 := Lib.hid hm3
              refine hK _ _ ?_
              clear hK K hkb hs3 hs3' hk3 ho3 hm3 hp3 c0 d0 d1 hgl
              refine wpRO_swi (fun _ => True) trivial ?_
              first | (refine wpRO_free rfl rfl _ (fun w' => by go_simp; exact Gives.mk _ _) (fun K hK => ?_); go_simp; refine hK _ ?_; clear hK K) | (refine wpRO_skipF rfl rfl (fun K hK => ?_); go_simp; refine hK _ ?_; clear hK K)
              first | (refine wpRO_free rfl rfl _ (fun w' => by go_simp; exact Gives.mk _ _) (fun K hK => ?_); go_simp; refine hK _ ?_; clear hK K) | (refine wpRO_skipF rfl rfl (fun K hK => ?_); go_simp; refine hK _ ?_; clear hK K)
              refine wpRO_chg rfl rfl rfl (fun K hK => ?_); unfold gRun; go_simp
              refine hK _ _ ?_
              clear hK K
              refine wpRO_swi (fun _ => True) trivial (wpRO_fin ?_)
              simp only [List.length_append, List.length_cons, List.length_nil] at KM3
              clear x0 xf xl
              generalize w3.setCell ⟨p, 1, none⟩ _ = w4 at *
              have hrd := (H1.out.keep KM3.out.hK (fun _ _ _ h => h))
              obtain ⟨g2, o2, e', hgl, d0, d1⟩ := hrd.ent k hlt
              cases e'
              rw [HGV.out] at d0 d1
              clear hrd
              go_wp2_with fail
              refine wp_region_ro (.free 0 (.free 1 (.free 2 (.free 3 (.free 4 (.free 6 (.free 7 (.free 8 (.free 9 (.pure 5 (.pure 10 (.free 11 (.run 12 (.swi [13, 14] (.run 13 (.swi [] (.free 14 (.fin)))))))))))))))))) [12, 13, 14] (fun w' => w'.cell? ⟨g, o + k * 2, none⟩ = some (.int .i64 v.1) ∧ w'.cell? ⟨g, o + k * 2 + 1, none⟩ = some (.int .i64 v.2)) (by kernel_rfl) (by kernel_rfl) ⟨d0, d1⟩ ?_
              first | (refine wpRO_free rfl rfl _ (fun w' => by go_simp; exact Gives.mk _ _) (fun K hK => ?_); go_simp; refine hK _ ?_; clear hK K) | (refine wpRO_skipF rfl rfl (fun K hK => ?_); go_simp; refine hK _ ?_; clear hK K)
              first | (refine wpRO_free rfl rfl _ (fun w' => by go_simp; exact Gives.mk _ _) (fun K hK => ?_); go_simp; refine hK _ ?_; clear hK K) | (refine wpRO_skipF rfl rfl (fun K hK => ?_); go_simp; refine hK _ ?_; clear hK K)
              first | (refine wpRO_free rfl rfl _ (fun w' => by go_simp; exact Gives.mk _ _) (fun K hK => ?_); go_simp; refine hK _ ?_; clear hK K) | (refine wpRO_skipF rfl rfl (fun K hK => ?_); go_simp; refine hK _ ?_; clear hK K)
              first | (refine wpRO_free rfl rfl _ (fun w' => by go_simp; exact Gives.mk _ _) (fun K hK => ?_); go_simp; refine hK _ ?_; clear hK K) | (refine wpRO_skipF rfl rfl (fun K hK => ?_); go_simp; refine hK _ ?_; clear hK K)
              first | (refine wpRO_free rfl rfl _ (fun w' => by go_simp; exact Gives.mk _ _) (fun K hK => ?_); go_simp; refine hK _ ?_; clear hK K) | (refine wpRO_skipF rfl rfl (fun K hK => ?_); go_simp; refine hK _ ?_; clear hK K)
              first | (refine wpRO_free rfl rfl _ (fun w' => by go_simp; exact Gives.mk _ _) (fun K hK => ?_); go_simp; refine hK _ ?_; clear hK K) | (refine wpRO_skipF rfl rfl (fun K hK => ?_); go_simp; refine hK _ ?_; clear hK K)
              first | (refine wpRO_free rfl rfl _ (fun w' => by go_simp; exact Gives.mk _ _) (fun K hK => ?_); go_simp; refine hK _ ?_; clear hK K) | (refine wpRO_skipF rfl rfl (fun K hK => ?_); go_simp; refine hK _ ?_; clear hK K)
              first | (refine wpRO_free rfl rfl _ (fun w' => by go_simp; exact Gives.mk _ _) (fun K hK => ?_); go_simp; refine hK _ ?_; clear hK K) | (refine wpRO_skipF rfl rfl (fun K hK => ?_); go_simp; refine hK _ ?_; clear hK K)
              first | (refine wpRO_free rfl rfl _ (fun w' => by go_simp; exact Gives.mk _ _) (fun K hK => ?_); go_simp; refine hK _ ?_; clear hK K) | (refine wpRO_skipF rfl rfl (fun K hK => ?_); go_simp; refine hK _ ?_; clear hK K)
              first | (refine wpRO_pure rfl rfl _ (fun w' hG => by obtain ⟨g0, g1⟩ := hG; exact gives_agg2 rfl (by decide +kernel) rfl (by assumption) (by assumption)) (fun K hK => ?_); go_simp; refine hK _ ?_; clear hK K) | (refine wpRO_pure rfl rfl _ (fun w' hG => by obtain ⟨g0, g1⟩ := hG; go_simp; exact Gives.mk _ _) (fun K hK => ?_); go_simp; refine hK _ ?_; clear hK K) | (refine wpRO_skip rfl rfl (fun K hK => ?_); go_simp; refine hK _ ?_; clear hK K)
              first | (refine wpRO_pure rfl rfl _ (fun w' hG => by obtain ⟨g0, g1⟩ := hG; exact gives_agg2 rfl (by decide +kernel) rfl (by assumption) (by assumption)) (fun K hK => ?_); go_simp; refine hK _ ?_; clear hK K) | (refine wpRO_pure rfl rfl _ (fun w' hG => by obtain ⟨g0, g1⟩ := hG; go_simp; exact Gives.mk _ _) (fun K hK => ?_); go_simp; refine hK _ ?_; clear hK K) | (refine wpRO_skip rfl rfl (fun K hK => ?_); go_simp; refine hK _ ?_; clear hK K)
              first | (refine wpRO_free rfl rfl _ (fun w' => by go_simp; exact Gives.mk _ _) (fun K hK => ?_); go_simp; refine hK _ ?_; clear hK K) | (refine wpRO_skipF rfl rfl (fun K hK => ?_); go_simp; refine hK _ ?_; clear hK K)
              refine wpRO_chg rfl rfl rfl (fun K hK => ?_); unfold gRun; go_simp
              refine hK _ _ ?_
              clear hK K
              refine wpRO_swi (fun _ => True) trivial ?_
              skip
              have hkb : Keeps (fun _ => False) w4 ((w4.alloc (.cells #[.int .i64 v.1, .int .i64 v.2] 41)).drew) := ((Keeps.refl (fun _ => False) w4).alloc (.cells #[.int .i64 v.1, .int .i64 v.2] 41)).drew
              refine wpRO_chg rfl rfl rfl (fun K hK => ?_)
              refine gRun_app (.tmp 92) (.tmp 104) 38 rfl 41 ir (.agg #[.int .i64 0, .int .i64 0]) 2 16 Try.underlying38 Ri.out Rz0.out Rz1.out Rz2.out rfl (by decide) _ pre.length (entV pre) rfl (KM3.out.keep hkb).hq ⟨w4.heap.size, 0, none⟩ 1 1 [.int .i64 v.1, .int .i64 v.2] rfl rfl (news_at w4 41 #[.int .i64 v.1, .int .i64 v.2]) ent_one (by unfold maxLen; omega) (by omega) ?_
              intro v5 w5 hs5 hk5 ho5
              have hs5' : Sl w5 41 2 v5 (pre ++ [v]).length (entV (pre ++ [v])) := by simpa [entV] using hs5
              have KM5 := Lib.hid ((KM3.out.keep hkb).q hs5' hk5 ho5)
              refine hK _ _ ?_
              clear hK K hkb hs5 hs5' hk5 ho5 d0 d1 hgl
              refine wpRO_swi (fun _ => True) trivial ?_
              first | (refine wpRO_free rfl rfl _ (fun w' => by go_simp; exact Gives.mk _ _) (fun K hK => ?_); go_simp; refine hK _ ?_; clear hK K) | (refine wpRO_skipF rfl rfl (fun K hK => ?_); go_simp; refine hK _ ?_; clear hK K)
              refine wpRO_fin ?_
              go_wp2_with fail
              go_roundw
              case rel => exact ⟨k + 1, _, by omega, by go_num, by rw [HTK.out]; exact KM5.out⟩
              case measure => simp [intOf]; omega
              -->2
            · obtain rfl : k = wait.length := by omega
              have GM2 := Lib.hid (by have h := hm; rw [List.take_length] at h; exact h : TwoL w wr p rv sv u10 _ regs wait regs wait)
              clear hm GM
              obtain ⟨rxo, rxc, rfl, -, -, -⟩ := GM2.out.hr.rd
              obtain ⟨qxo, qxc, rfl, -, -, -⟩ := GM2.out.hq.rd
              go_wp2_with fail
              generalize hq : wr.heap.size = q at *
              have HQ := Lib.hid hq; clear hq
              generalize hw6 : ((wr.alloc (.cells #[nilS, nilS] 44)).alloc (.cells #[.pointer (some ⟨q, 0, none⟩)] 42)) = w6
              have k6 : Keeps (fun _ => False) wr w6 := by rw [← hw6]; exact ((Keeps.refl _ _).alloc _).alloc _
              have b1 : Blk w6 q [nilS, nilS] 44 := by rw [← hw6]; exact (Blk.newAt _ (by simp [HQ.out]) rfl).alloc _
              have b3 : Blk w6 (q + 1) [.pointer (some ⟨q, 0, none⟩)] 42 := by rw [← hw6]; exact Blk.newAt _ (by simp [HQ.out]) rfl
              have z6 : w6.heap.size = q + 2 := by rw [← hw6]; simp [HQ.out]
              have hqw : w.heap.size ≤ q := by rw [← HQ.out]; exact GM2.out.hK.size
              have HFS : Hid (∀ k, SideFp p rv sv k → w.heap.size ≤ k ∧ k < q) := fun k hk => ⟨GM2.out.fS k hk, by rw [← HQ.out]; exact GM2.out.hS.fp_lt hk⟩
              have HM6 := Lib.hid (GM2.out.keep k6)
              have B1 := Lib.hid b1; have B3 := Lib.hid b3; have Z6 := Lib.hid z6
              clear hw6 k6 b1 b3 z6 GM2
              have g0 := B3.out.cell 0; have g1 := B1.out.cell 0
              simp only [List.getElem?_cons_zero, List.getElem?_cons_succ] at g0 g1
              refine wp_region_ro (.free 5 (.pure 0 (.pure 1 (.free 2 (.free 3 (.pure 4 (.run 6 (.free 7 (.free 8 (.run 9 (.swi [] (.fin)))))))))))) [9] (fun w' => w'.cell? ⟨q + 1, 0, none⟩ = some (.pointer (some ⟨q, 0, none⟩)) ∧ w'.cell? ⟨q, 0, none⟩ = some nilS) (by kernel_rfl) (by kernel_rfl) ⟨g0, g1⟩ ?_
              first | (refine wpRO_free rfl rfl _ (fun w' => by go_simp; exact Gives.mk _ _) (fun K hK => ?_); go_simp; refine hK _ ?_; clear hK K) | (refine wpRO_skipF rfl rfl (fun K hK => ?_); go_simp; refine hK _ ?_; clear hK K)
              first | (refine wpRO_pure rfl rfl _ (fun w' hG => by obtain ⟨g0, g1⟩ := hG; exact gives_agg2 rfl (by decide +kernel) rfl (by assumption) (by assumption)) (fun K hK => ?_); go_simp; refine hK _ ?_; clear hK K) | (refine wpRO_pure rfl rfl _ (fun w' hG => by obtain ⟨g0, g1⟩ := hG; go_simp; exact Gives.mk _ _) (fun K hK => ?_); go_simp; refine hK _ ?_; clear hK K) | (refine wpRO_skip rfl rfl (fun K hK => ?_); go_simp; refine hK _ ?_; clear hK K)
              first | (refine wpRO_pure rfl rfl _ (fun w' hG => by obtain ⟨g0, g1⟩ := hG; exact gives_agg2 rfl (by decide +kernel) rfl (by assumption) (by assumption)) (fun K hK => ?_); go_simp; refine hK _ ?_; clear hK K) | (refine wpRO_pure rfl rfl _ (fun w' hG => by obtain ⟨g0, g1⟩ := hG; go_simp; exact Gives.mk _ _) (fun K hK => ?_); go_simp; refine hK _ ?_; clear hK K) | (refine wpRO_skip rfl rfl (fun K hK => ?_); go_simp; refine hK _ ?_; clear hK K)
              first | (refine wpRO_free rfl rfl _ (fun w' => by go_simp; exact Gives.mk _ _) (fun K hK => ?_); go_simp; refine hK _ ?_; clear hK K) | (refine wpRO_skipF rfl rfl (fun K hK => ?_); go_simp; refine hK _ ?_; clear hK K)
              first | (refine wpRO_free rfl rfl _ (fun w' => by go_simp; exact Gives.mk _ _) (fun K hK => ?_); go_simp; refine hK _ ?_; clear hK K) | (refine wpRO_skipF rfl rfl (fun K hK => ?_); go_simp; refine hK _ ?_; clear hK K)
              first | (refine wpRO_pure rfl rfl _ (fun w' hG => by obtain ⟨g0, g1⟩ := hG; exact gives_agg2 rfl (by decide +kernel) rfl (by assumption) (by assumption)) (fun K hK => ?_); go_simp; refine hK _ ?_; clear hK K) | (refine wpRO_pure rfl rfl _ (fun w' hG => by obtain ⟨g0, g1⟩ := hG; go_simp; exact Gives.mk _ _) (fun K hK => ?_); go_simp; refine hK _ ?_; clear hK K) | (refine wpRO_skip rfl rfl (fun K hK => ?_); go_simp; refine hK _ ?_; clear hK K)
              refine wpRO_run rfl rfl (fun K hK => ?_)
              refine gRun_appR (.tmp 112) (.tmp 113) 32 rfl 2 ii (.int .i64 0) 1 8 Try.underlying32 Ii.out Iz0.out Iz1.out Iz2.out rfl (by decide) _ 0 [] rfl (Sl.nil _ _ _) bo alive.length cb (alive.map (Value.int .i64)) rfl (by simp) (H2.out.keep (HM6.out.hK.drew) (fun _ _ _ h => h)) (ints_one alive) (by unfold maxLen; omega) (by omega) ?_
              intro v7 w7 hs7 hk7 ho7
              rw [Nat.zero_add] at hs7
              have k7 := (Keeps.refl (fun _ => False) w6).drew.trans (hk7.mono (T := fun _ => False) fun k _ h => own_nil h)
              refine hK _ _ (fun _ => ⟨(k7.blk B3.out (fun h => h)).cell 0, (k7.blk B1.out (fun h => h)).cell 0⟩) ?_
              clear hK K
              have o7 : ∀ k, ownB v7 k → q + 2 ≤ k := fun k hk => by
                rcases ho7 k hk with h | h
                · exact (own_nil h).elim
                · rw [← Z6.out]; exact h
              obtain ⟨vo7, vc7, rfl, -, -, -⟩ := hs7.rd
              have hb1 := k7.blk B1.out (fun h => h)
              have hb3 := k7.blk B3.out (fun h => h)
              have x0 := hb1.cell 0; have f0 := hb1.free 0; have xl := hb1.lt
              simp only [List.getElem?_cons_zero, List.getElem?_cons_succ] at x0
              have hn3 : q + 1 ≠ q := by omega
              have HK7 := Lib.hid k7; have HS7 := Lib.hid hs7; have HO7 := Lib.hid o7; have HB1 := Lib.hid hb1; have HB3 := Lib.hid hb3
              clear k7 hs7 hk7 ho7 o7 hb1 hb3
              first | (refine wpRO_free rfl rfl _ (fun w' => by go_simp; exact Gives.mk _ _) (fun K hK => ?_); go_simp; refine hK _ ?_; clear hK K) | (refine wpRO_skipF rfl rfl (fun K hK => ?_); go_simp; refine hK _ ?_; clear hK K)
              first | (refine wpRO_free rfl rfl _ (fun w' => by go_simp; exact Gives.mk _ _) (fun K hK => ?_); go_simp; refine hK _ ?_; clear hK K) | (refine wpRO_skipF rfl rfl (fun K hK => ?_); go_simp; refine hK _ ?_; clear hK K)
              refine wpRO_chg rfl rfl rfl (fun K hK => ?_); unfold gRun; go_simp
              refine hK _ _ ?_
              clear hK K
              refine wpRO_swi (fun _ => True) trivial (wpRO_fin ?_)
              have kst := (Keeps.refl (· = q) w7).setCell (p := ⟨q, 0, none⟩) (.inl rfl) (.slice vo7 alive.length vc7)
              have hqs := HB1.out.setSame 0 (.slice vo7 alive.length vc7)
              simp only [List.set_cons_zero, List.set_cons_succ] at hqs
              generalize w7.setCell ⟨q, 0, none⟩ (.slice vo7 alive.length vc7) = w9 at *
              have k9 := (HK7.out.mono (T := (· = q)) fun _ _ h => h.elim).trans kst
              have hb3 := kst.blk HB3.out hn3
              have o7 := HO7.out
              have hs9 := HS7.out.keep kst (fun k hk h => by have := o7 k hk; omega)
              have HK9 := Lib.hid k9; have HQ9 := Lib.hid hqs; have HB9 := Lib.hid hb3; have HS9 := Lib.hid hs9
              clear kst hqs k9 hb3 hs9 o7 x0 f0 xl g0 g1 HK7 HS7 HB1 HB3
              have g0 := HB9.out.cell 0; have g1 := HQ9.out.cell 1
              simp only [List.getElem?_cons_zero, List.getElem?_cons_succ] at g0 g1
              go_wp2_with fail
              refine wp_region_ro (.free 5 (.pure 0 (.pure 1 (.free 2 (.free 3 (.pure 4 (.run 6 (.free 7 (.free 8 (.run 9 (.swi [] (.fin)))))))))))) [9] (fun w' => w'.cell? ⟨q + 1, 0, none⟩ = some (.pointer (some ⟨q, 0, none⟩)) ∧ w'.cell? ⟨q, 1, none⟩ = some nilS) (by kernel_rfl) (by kernel_rfl) ⟨g0, g1⟩ ?_
              first | (refine wpRO_free rfl rfl _ (fun w' => by go_simp; exact Gives.mk _ _) (fun K hK => ?_); go_simp; refine hK _ ?_; clear hK K) | (refine wpRO_skipF rfl rfl (fun K hK => ?_); go_simp; refine hK _ ?_; clear hK K)
              first | (refine wpRO_pure rfl rfl _ (fun w' hG => by obtain ⟨g0, g1⟩ := hG; exact gives_agg2 rfl (by decide +kernel) rfl (by assumption) (by assumption)) (fun K hK => ?_); go_simp; refine hK _ ?_; clear hK K) | (refine wpRO_pure rfl rfl _ (fun w' hG => by obtain ⟨g0, g1⟩ := hG; go_simp; exact Gives.mk _ _) (fun K hK => ?_); go_simp; refine hK _ ?_; clear hK K) | (refine wpRO_skip rfl rfl (fun K hK => ?_); go_simp; refine hK _ ?_; clear hK K)
              first | (refine wpRO_pure rfl rfl _ (fun w' hG => by obtain ⟨g0, g1⟩ := hG; exact gives_agg2 rfl (by decide +kernel) rfl (by assumption) (by assumption)) (fun K hK => ?_); go_simp; refine hK _ ?_; clear hK K) | (refine wpRO_pure rfl rfl _ (fun w' hG => by obtain ⟨g0, g1⟩ := hG; go_simp; exact Gives.mk _ _) (fun K hK => ?_); go_simp; refine hK _ ?_; clear hK K) | (refine wpRO_skip rfl rfl (fun K hK => ?_); go_simp; refine hK _ ?_; clear hK K)
              first | (refine wpRO_free rfl rfl _ (fun w' => by go_simp; exact Gives.mk _ _) (fun K hK => ?_); go_simp; refine hK _ ?_; clear hK K) | (refine wpRO_skipF rfl rfl (fun K hK => ?_); go_simp; refine hK _ ?_; clear hK K)
              first | (refine wpRO_free rfl rfl _ (fun w' => by go_simp; exact Gives.mk _ _) (fun K hK => ?_); go_simp; refine hK _ ?_; clear hK K) | (refine wpRO_skipF rfl rfl (fun K hK => ?_); go_simp; refine hK _ ?_; clear hK K)
              first | (refine wpRO_pure rfl rfl _ (fun w' hG => by obtain ⟨g0, g1⟩ := hG; exact gives_agg2 rfl (by decide +kernel) rfl (by assumption) (by assumption)) (fun K hK => ?_); go_simp; refine hK _ ?_; clear hK K) | (refine wpRO_pure rfl rfl _ (fun w' hG => by obtain ⟨g0, g1⟩ := hG; go_simp; exact Gives.mk _ _) (fun K hK => ?_); go_simp; refine hK _ ?_; clear hK K) | (refine wpRO_skip rfl rfl (fun K hK => ?_); go_simp; refine hK _ ?_; clear hK K)
              refine wpRO_run rfl rfl (fun K hK => ?_)
              refine gRun_appR (.tmp 121) (.tmp 122) 33 rfl 103 ip (.agg #[.int .i64 0, .int .i64 0]) 2 16 Try.underlying33 Pi.out Pz0.out Pz1.out Pz2.out rfl (by decide) _ 0 [] rfl (Sl.nil _ _ _) co leads.length cc (entV leads) rfl (entV_length leads) (H3.out.keep ((HM6.out.hK.then HK9.out (fun k hk => .inr (by omega))).drew) (fun _ _ _ h => h)) (entV_one leads) (by unfold maxLen; omega) (by omega) ?_
              intro v8 w8 hs8 hk8 ho8
              rw [Nat.zero_add] at hs8
              have k8 := (Keeps.refl (fun _ => False) w9).drew.trans (hk8.mono (T := fun _ => False) fun k _ h => own_nil h)
              refine hK _ _ (fun _ => ⟨(k8.blk HB9.out (fun h => h)).cell 0, (k8.blk HQ9.out (fun h => h)).cell 1⟩) ?_
              clear hK K
              have o8 : ∀ k, ownB v8 k → q + 2 ≤ k := fun k hk => by
                rcases ho8 k hk with h | h
                · exact (own_nil h).elim
                · have := HK9.out.size; rw [← Z6.out]; exact Nat.le_trans this h
              obtain ⟨vo8, vc8, rfl, -, -, -⟩ := hs8.rd
              have hb1 := k8.blk HQ9.out (fun h => h)
              have x0 := hb1.cell 1; have f0 := hb1.free 1; have xl := hb1.lt
              simp only [List.getElem?_cons_zero, List.getElem?_cons_succ] at x0
              have HK8 := Lib.hid k8; have HS8 := Lib.hid hs8; have HO8 := Lib.hid o8; have HB1 := Lib.hid hb1; have HB3 := Lib.hid (k8.blk HB9.out (fun h => h)); have HS78 := Lib.hid (HS9.out.keep k8 (fun _ _ h => h))
              clear k8 hs8 hk8 ho8 o8 hb1
              first | (refine wpRO_free rfl rfl _ (fun w' => by go_simp; exact Gives.mk _ _) (fun K hK => ?_); go_simp; refine hK _ ?_; clear hK K) | (refine wpRO_skipF rfl rfl (fun K hK => ?_); go_simp; refine hK _ ?_; clear hK K)
              first | (refine wpRO_free rfl rfl _ (fun w' => by go_simp; exact Gives.mk _ _) (fun K hK => ?_); go_simp; refine hK _ ?_; clear hK K) | (refine wpRO_skipF rfl rfl (fun K hK => ?_); go_simp; refine hK _ ?_; clear hK K)
              refine wpRO_chg rfl rfl rfl (fun K hK => ?_); unfold gRun; go_simp
              refine hK _ _ ?_
              clear hK K
              refine wpRO_swi (fun _ => True) trivial (wpRO_fin ?_)
              have kst := (Keeps.refl (· = q) w8).setCell (p := ⟨q, 1, none⟩) (.inl rfl) (.slice vo8 leads.length vc8)
              have hqs := HB1.out.setSame 1 (.slice vo8 leads.length vc8)
              simp only [List.set_cons_zero, List.set_cons_succ] at hqs
              generalize w8.setCell ⟨q, 1, none⟩ (.slice vo8 leads.length vc8) = w10 at *
              have k610 : Keeps (· = q) w6 w10 := (HK9.out.trans (HK8.out.mono fun _ _ h => h.elim)).trans kst
              have o7 := HO7.out; have o8 := HO8.out
              have hb310 := kst.blk HB3.out hn3
              have hM : SW w w10 p q (q + 1) rv sv (.slice vo7 alive.length vc7) (.slice vo8 leads.length vc8) alive regs wait leads := by
                have hfs := HFS.out
                refine ⟨HM6.out.hS.keep k610 (fun k hk h => by have := (hfs k hk).2; omega), ⟨hqs, HS78.out.keep kst (fun k hk h => by have := o7 k hk; omega), HS8.out.keep kst (fun k hk h => by have := o8 k hk; omega)⟩, hb310, ?_, HM6.out.hK.then k610 (fun k hk => .inr (by omega)), ?_, fun k hk => (hfs k hk).1⟩
                · rintro k ((rfl | h1 | h1) | rfl) h2
                  · have := (hfs _ h2).2; omega
                  · have := (hfs _ h2).2; have := o7 _ h1; omega
                  · have := (hfs _ h2).2; have := o8 _ h1; omega
                  · have := (hfs _ h2).2; omega
                · rintro k ((rfl | h1 | h1) | rfl)
                  · omega
                  · have := o7 _ h1; omega
                  · have := o8 _ h1; omega
                  · omega
              have hrl : Sl w10 41 2 (.slice rxo regs.length rxc) regs.length (entV regs) := HM6.out.hr.keep k610 (fun k hk h => by
                have := (HM6.out.hr.own hk).1
                obtain ⟨_, cur, hc⟩ := HM6.out.hr.own hk
                exact hc.ne B1.out (by decide) h)
              have hql : Sl w10 41 2 (.slice qxo wait.length qxc) wait.length (entV wait) := HM6.out.hq.keep k610 (fun k hk h => by
                obtain ⟨_, cur, hc⟩ := HM6.out.hq.own hk
                exact hc.ne B1.out (by decide) h)
              have HM := Lib.hid hM; have HRL := Lib.hid hrl; have HQL := Lib.hid hql
              clear hM hrl hql hb310 kst hqs k610 o7 o8 x0 f0 xl HO7 HO8 HK9 HQ9 HB9 HS9 HK8 HS8 HB1 HB3 HS78 B1 B3 Z6 HFS HM6 HQ hqw hn3 g0 g1
              have g0 := HM.out.hb.cell 0; have gl := HM.out.hb.lt
              simp only [List.getElem?_cons_zero] at g0
              go_wp2_with (at_builtin; refine wpList_appR rfl (.tmp 127) (.tmp 128) 32 rfl 2 ii (.int .i64 0) 1 8 Try.underlying32 Ii.out Iz0.out Iz1.out Iz2.out rfl (by decide) _ 0 [] rfl (Sl.nil _ _ _) bo alive.length cb (alive.map (Value.int .i64)) rfl (by simp) (H2.out.keep HM.out.hK (fun _ _ _ h => h)) (ints_one alive) (by unfold maxLen; omega) (by omega) ?_)
              intro v11 w11 hs11 hk11 ho11
              have k11 := hk11.mono (T := fun _ => False) fun k _ h => own_nil h
              have o11 : ∀ k, ownB v11 k → w10.heap.size ≤ k := fun k hk => by
                rcases ho11 k hk with h | h
                · exact (own_nil h).elim
                · exact h
              have HS11 := Lib.hid hs11; have HK11 := Lib.hid k11; have HO11 := Lib.hid o11; have HCL2 : Hid (∀ a, co = some a → a.block < w11.heap.size ∧ ¬ ownB v11 a.block) := fun a ha => by
                have h1 := HCL.out a ha
                have h2 := HM.out.hK.size
                have h3 := k11.size
                exact ⟨by omega, fun h => by have := o11 _ h; omega⟩
              clear hs11 hk11 ho11 k11 o11 g0 gl
              go_wp2_with fail
              obtain ⟨T, hT⟩ : ∃ T, T = regs.map (·.1) ++ (regs.map (·.2) ++ (wait.map (·.1) ++ (wait.map (·.2) ++ leads.map (·.2)))) := ⟨_, rfl⟩
              have hTl : ∀ e ∈ leads, e.2 ∈ T := fun e he => by rw [hT]; simp only [List.mem_append, List.mem_map]; exact .inr (.inr (.inr (.inr ⟨e, he, rfl⟩)))
              have hTr : ∀ e ∈ regs, (e.1 ∈ T ∧ smallW e.1) ∧ e.2 ∈ T ∧ smallW e.2 := fun e he => by
                have hs := HS.out
                rw [Bool.and_eq_true] at hs
                have h := smallB_iff.1 (List.all_eq_true.1 hs.1 e he)
                rw [hT]; simp only [List.mem_append, List.mem_map]; exact ⟨⟨.inl ⟨e, he, rfl⟩, h.1⟩, .inr (.inl ⟨e, he, rfl⟩), h.2⟩
              have hTw : ∀ e ∈ wait, (e.1 ∈ T ∧ smallW e.1) ∧ e.2 ∈ T ∧ smallW e.2 := fun e he => by
                have hs := HS.out
                rw [Bool.and_eq_true] at hs
                have h := smallB_iff.1 (List.all_eq_true.1 hs.2 e he)
                rw [hT]; simp only [List.mem_append, List.mem_map]; exact ⟨⟨.inr (.inr (.inl ⟨e, he, rfl⟩)), h.1⟩, .inr (.inr (.inr (.inl ⟨e, he, rfl⟩))), h.2⟩
              have hTn : alive.length + unT T alive ≤ 1000 := by
                have h1 : unT T alive ≤ T.length := List.length_filter_le _ _
                have h2 : T.length = regs.length + (regs.length + (wait.length + (wait.length + leads.length))) := by rw [hT]; simp
                omega
              have HTL := Lib.hid hTl; have HTR := Lib.hid hTr; have HTW := Lib.hid hTw; have HTN := Lib.hid hTn
              clear hT hTl hTr hTw hTn
              obtain ⟨_, _, e1, hra, -, -⟩ := (HRL.out.keep HK11.out (fun _ _ h => h)).rd
              cases e1
              obtain ⟨_, _, e1, hqa, -, -⟩ := (HQL.out.keep HK11.out (fun _ _ h => h)).rd
              cases e1
              refine (Settled_c rxo qxo co rxc qxc cc v11 regs wait leads alive _ hra hqa HS11.out (H3.out.keep (HM.out.hK.trans HK11.out) (fun _ _ _ h => h)) (fun a ha _ h => ?n0) (fun a ha _ h => ?n1) HCL2.out (by omega) (by omega) (by omega) (by omega)).mono ?_
              case n0 =>
                subst ha
                have h1 := (HRL.out.own (k := a.block) rfl).1
                have h2 := HO11.out _ h
                omega
              case n1 =>
                subst ha
                have h1 := (HQL.out.own (k := a.block) rfl).1
                have h2 := HO11.out _ h
                omega
              rintro e w12 ⟨Ra, Rb, av', rfl, hsa, hsb, hk12, foa, fob, -⟩
              have hsm := settledM_small (N := 1000) HTL.out regs wait alive (by have := HTN.out; omega) (fun e he => ⟨(HTR.out e he).1.2, (HTR.out e he).2.2, (HTR.out e he).2.1⟩) (fun e he => ⟨(HTW.out e he).1.2, (HTW.out e he).2.2⟩)
              have hlaw := settle_same (N := 1000) HTL.out regs wait alive (by have := HTN.out; omega) (fun e he => ⟨(HTR.out e he).1.2, (HTR.out e he).2.2, (HTR.out e he).2.1⟩) (fun e he => ⟨(HTW.out e he).1.2, (HTW.out e he).2.2⟩)
              generalize settledM leads regs wait alive = sm at *
              have k12 : Keeps (fun _ => False) w10 w12 := HK11.out.then hk12 (fun k hk => .inr (HO11.out k hk))
              have hM12 := HM.out.keep k12
              have fa2 : ∀ k, ownB Ra k → w10.heap.size ≤ k := fun k hk => Nat.le_trans HK11.out.size (foa k hk)
              have fb2 : ∀ k, ownB Rb k → w10.heap.size ≤ k := fun k hk => Nat.le_trans HK11.out.size (fob k hk)
              have hlt10 : ∀ k, (WFp q (.slice vo7 alive.length vc7) (.slice vo8 leads.length vc8) k ∨ k = q + 1) ∨ SideFp p rv sv k → k < w10.heap.size := fun k hk => by
                rcases hk with (hk | hk) | hk
                · exact HM.out.h1.own_lt hk
                · rw [hk]; exact HM.out.hb.lt
                · exact HM.out.hS.fp_lt hk
              have HSM := Lib.hid hsm; have HLAW := Lib.hid hlaw; have HM12 := Lib.hid hM12; have HSA := Lib.hid hsa; have HSB := Lib.hid hsb; have HFA := Lib.hid fa2; have HFB := Lib.hid fb2; have HL10 := Lib.hid hlt10
              clear hsm hlaw k12 hM12 hsa hsb hk12 foa fob fa2 fb2 hlt10 hra hqa HM HS11 HK11 HO11 HCL2 HRL HQL
              obtain ⟨ra, rac, rfl, -, hma, -⟩ := HSA.out.rd
              obtain ⟨rb, rbc, rfl, -, hmb, -⟩ := HSB.out.rd
              unfold maxLen at hma hmb
              have g0 := HM12.out.hb.cell 0; have gl := HM12.out.hb.lt
              simp only [List.getElem?_cons_zero] at g0
              go_wp2_with fail
              refine (Settle_c p (setL p q (q + 1) leads T HTL.out (by omega)) alive (fun k => WFp q (.slice vo7 alive.length vc7) (.slice vo8 leads.length vc8) k ∨ k = q + 1) _ _ regs wait _ (HM12.out.J HTN.out) HM12.out.hS (fun k h => HM12.out.ap k h.1 h.2) (by omega) (by omega) (fun e he => ⟨.inl (HTR.out e he).1, (HTR.out e he).2⟩) (fun e he => ⟨.inl (HTW.out e he).1, .inl (HTW.out e he).2⟩)).mono ?_
              rintro e w13 hs
              have he := hs.1
              subst he
              have hsk := hs
              obtain ⟨_, F', rv', sv', -, -, -, hk13, -, -⟩ := hsk
              obtain ⟨rv2, sv2, a', l', hm, -⟩ := HM12.out.settled rfl hs
              have hm13 : SW w w13 p q (q + 1) rv2 sv2 a' l' (passM liveT (keepT leads 1000) alive regs wait).1 (sm.1.map up2) (sm.2.map up2) leads := by
                rw [← HLAW.out.1, ← HLAW.out.2]; exact hm
              have hsa := HSA.out.keep hk13 (fun k hk h => by have := HFA.out k hk; have := HL10.out k h; omega)
              have hsb := HSB.out.keep hk13 (fun k hk h => by have := HFB.out k hk; have := HL10.out k h; omega)
              have HM13 := Lib.hid hm13; have JSA := Lib.hid hsa; have JSB := Lib.hid hsb
              clear hs hk13 hm hm13 hsa hsb g0 gl HM12 HSA HSB HFA HFB HL10 HLAW rv' sv' F'
              obtain ⟨rvo, rvc, rfl, -, -, -⟩ := HM13.out.hS.hr.rd
              obtain ⟨svo, svc, rfl, -, -, -⟩ := HM13.out.hS.hw.rd
              have hl1 : (sm.1.map up2).length = sm.1.length := List.length_map ..
              have hl2 : (sm.2.map up2).length = sm.2.length := List.length_map ..
              have HL1 := Lib.hid hl1; have HL2 := Lib.hid hl2
              clear hl1 hl2
              have c0 := HM13.out.hS.hp.cell 0; have c1 := HM13.out.hS.hp.cell 1; have pl := HM13.out.hS.hp.lt
              simp only [List.getElem?_cons_zero, List.getElem?_cons_succ] at c0 c1
              rw [HL1.out] at c0
              rw [HL2.out] at c1
              go_wp2_with fail
              clear c0 c1 pl
              go_loopw [21] (fun i wr => ∃ k : Nat, k ≤ sm.1.length ∧ i = .int .i64 k ∧ Keeps (fun _ => False) w13 wr) (fun i _ => sm.1.length - (intOf i).toNat)
              case atStart => exact ⟨0, Nat.zero_le _, rfl, Keeps.refl _ _⟩
              case round =>
                obtain ⟨k, hk, rfl, hkk⟩ := hrel
                have HKA := Lib.hid hkk; clear hkk
                have c0 := (HM13.out.keep HKA.out).hS.hp.cell 0
                have pl := (HM13.out.keep HKA.out).hS.hp.lt
                simp only [List.getElem?_cons_zero, List.getElem?_cons_succ] at c0
                rw [HL1.out] at c0
                by_cases hlt : k < sm.1.length
                · obtain ⟨_, _, e', hrd, -, -⟩ := (HM13.out.keep HKA.out).hS.hr.rd
                  cases e'
                  obtain ⟨g, o, rfl, hgl, d0, d1⟩ := hrd.ent k (by rw [HL1.out]; exact hlt)
                  obtain ⟨_, _, e', hrd2, -, -⟩ := (JSA.out.keep HKA.out (fun _ _ h => h)).rd
                  cases e'
                  obtain ⟨g2, o2, rfl, hgl2, e0, e1⟩ := hrd2.ent k hlt
                  have hg : (sm.1.map up2).getD k (0, 0) = up2 (sm.1.getD k (0, 0)) := by simp [List.getD, hlt]
                  rw [hg] at d0 d1
                  have hsv := HSM.out.1 (sm.1.getD k (0, 0)) (by simp [List.getD, hlt])
                  generalize sm.1.getD k (0, 0) = v at *
                  unfold up2 at d0 d1
                  simp only at d0 d1
                  obtain ⟨⟨hv1, hv2⟩, hv3, hv4⟩ := hsv
                  clear hg hrd hrd2
                  have hs1 : IntKind.i64.wrap (v.1 + 1000) = v.1 + 1000 := IntWalk.i64_in _ (by omega)
                  have hs2 : IntKind.i64.wrap (v.2 + 1000) = v.2 + 1000 := IntWalk.i64_in _ (by omega)
                  go_wp2_with fail
                  refine wp_region_ro (.free 0 (.free 1 (.free 2 (.free 4 (.free 7 (.free 8 (.free 9 (.free 10 (.free 13 (.free 14 (.free 15 (.free 16 (.pure 3 (.free 5 (.pure 6 (.pure 11 (.free 12 (.pure 17 (.free 18 (.free 19 (.free 20 (.fin)))))))))))))))))))))) [] (fun w' => w'.cell? ⟨p, 0, none⟩ = some (.slice (some ⟨g, o, none⟩) sm.1.length rvc) ∧ w'.cell? ⟨g, o + k * 2, none⟩ = some (.int .i64 (v.1 + 1000)) ∧ w'.cell? ⟨g, o + k * 2 + 1, none⟩ = some (.int .i64 (v.2 + 1000)) ∧ w'.cell? ⟨g2, o2 + k * 2, none⟩ = some (.int .i64 v.1) ∧ w'.cell? ⟨g2, o2 + k * 2 + 1, none⟩ = some (.int .i64 v.2)) (by kernel_rfl) (by kernel_rfl) ⟨c0, d0, d1, e0, e1⟩ ?_
                  first | (refine wpRO_free rfl rfl _ (fun w' => by go_simp; exact Gives.mk _ _) (fun K hK => ?_); go_simp; refine hK _ ?_; clear hK K) | (refine wpRO_skipF rfl rfl (fun K hK => ?_); go_simp; refine hK _ ?_; clear hK K)
                  first | (refine wpRO_free rfl rfl _ (fun w' => by go_simp; exact Gives.mk _ _) (fun K hK => ?_); go_simp; refine hK _ ?_; clear hK K) | (refine wpRO_skipF rfl rfl (fun K hK => ?_); go_simp; refine hK _ ?_; clear hK K)
                  first | (refine wpRO_free rfl rfl _ (fun w' => by go_simp; exact Gives.mk _ _) (fun K hK => ?_); go_simp; refine hK _ ?_; clear hK K) | (refine wpRO_skipF rfl rfl (fun K hK => ?_); go_simp; refine hK _ ?_; clear hK K)
                  first | (refine wpRO_free rfl rfl _ (fun w' => by go_simp; exact Gives.mk _ _) (fun K hK => ?_); go_simp; refine hK _ ?_; clear hK K) | (refine wpRO_skipF rfl rfl (fun K hK => ?_); go_simp; refine hK _ ?_; clear hK K)
                  first | (refine wpRO_free rfl rfl _ (fun w' => by go_simp; exact Gives.mk _ _) (fun K hK => ?_); go_simp; refine hK _ ?_; clear hK K) | (refine wpRO_skipF rfl rfl (fun K hK => ?_); go_simp; refine hK _ ?_; clear hK K)
                  first | (refine wpRO_free rfl rfl _ (fun w' => by go_simp; exact Gives.mk _ _) (fun K hK => ?_); go_simp; refine hK _ ?_; clear hK K) | (refine wpRO_skipF rfl rfl (fun K hK => ?_); go_simp; refine hK _ ?_; clear hK K)
                  first | (refine wpRO_free rfl rfl _ (fun w' => by go_simp; exact Gives.mk _ _) (fun K hK => ?_); go_simp; refine hK _ ?_; clear hK K) | (refine wpRO_skipF rfl rfl (fun K hK => ?_); go_simp; refine hK _ ?_; clear hK K)
                  first | (refine wpRO_free rfl rfl _ (fun w' => by go_simp; exact Gives.mk _ _) (fun K hK => ?_); go_simp; refine hK _ ?_; clear hK K) | (refine wpRO_skipF rfl rfl (fun K hK => ?_); go_simp; refine hK _ ?_; clear hK K)
                  first | (refine wpRO_free rfl rfl _ (fun w' => by go_simp; exact Gives.mk _ _) (fun K hK => ?_); go_simp; refine hK _ ?_; clear hK K) | (refine wpRO_skipF rfl rfl (fun K hK => ?_); go_simp; refine hK _ ?_; clear hK K)
                  first | (refine wpRO_free rfl rfl _ (fun w' => by go_simp; exact Gives.mk _ _) (fun K hK => ?_); go_simp; refine hK _ ?_; clear hK K) | (refine wpRO_skipF rfl rfl (fun K hK => ?_); go_simp; refine hK _ ?_; clear hK K)
                  first | (refine wpRO_free rfl rfl _ (fun w' => by go_simp; exact Gives.mk _ _) (fun K hK => ?_); go_simp; refine hK _ ?_; clear hK K) | (refine wpRO_skipF rfl rfl (fun K hK => ?_); go_simp; refine hK _ ?_; clear hK K)
                  first | (refine wpRO_free rfl rfl _ (fun w' => by go_simp; exact Gives.mk _ _) (fun K hK => ?_); go_simp; refine hK _ ?_; clear hK K) | (refine wpRO_skipF rfl rfl (fun K hK => ?_); go_simp; refine hK _ ?_; clear hK K)
                  first | (refine wpRO_pure rfl rfl _ (fun w' hG => by obtain ⟨g0, g1, g2, g3, g4⟩ := hG; exact gives_agg2 rfl (by decide +kernel) rfl (by assumption) (by assumption)) (fun K hK => ?_); go_simp; refine hK _ ?_; clear hK K) | (refine wpRO_pure rfl rfl _ (fun w' hG => by obtain ⟨g0, g1, g2, g3, g4⟩ := hG; go_simp; exact Gives.mk _ _) (fun K hK => ?_); go_simp; refine hK _ ?_; clear hK K) | (refine wpRO_skip rfl rfl (fun K hK => ?_); go_simp; refine hK _ ?_; clear hK K)
                  first | (refine wpRO_free rfl rfl _ (fun w' => by go_simp; exact Gives.mk _ _) (fun K hK => ?_); go_simp; refine hK _ ?_; clear hK K) | (refine wpRO_skipF rfl rfl (fun K hK => ?_); go_simp; refine hK _ ?_; clear hK K)
                  first | (refine wpRO_pure rfl rfl _ (fun w' hG => by obtain ⟨g0, g1, g2, g3, g4⟩ := hG; exact gives_agg2 rfl (by decide +kernel) rfl (by assumption) (by assumption)) (fun K hK => ?_); go_simp; refine hK _ ?_; clear hK K) | (refine wpRO_pure rfl rfl _ (fun w' hG => by obtain ⟨g0, g1, g2, g3, g4⟩ := hG; go_simp; exact Gives.mk _ _) (fun K hK => ?_); go_simp; refine hK _ ?_; clear hK K) | (refine wpRO_skip rfl rfl (fun K hK => ?_); go_simp; refine hK _ ?_; clear hK K)
                  first | (refine wpRO_pure rfl rfl _ (fun w' hG => by obtain ⟨g0, g1, g2, g3, g4⟩ := hG; exact gives_agg2 rfl (by decide +kernel) rfl (by assumption) (by assumption)) (fun K hK => ?_); go_simp; refine hK _ ?_; clear hK K) | (refine wpRO_pure rfl rfl _ (fun w' hG => by obtain ⟨g0, g1, g2, g3, g4⟩ := hG; go_simp; exact Gives.mk _ _) (fun K hK => ?_); go_simp; refine hK _ ?_; clear hK K) | (refine wpRO_skip rfl rfl (fun K hK => ?_); go_simp; refine hK _ ?_; clear hK K)
                  first | (refine wpRO_free rfl rfl _ (fun w' => by go_simp; exact Gives.mk _ _) (fun K hK => ?_); go_simp; refine hK _ ?_; clear hK K) | (refine wpRO_skipF rfl rfl (fun K hK => ?_); go_simp; refine hK _ ?_; clear hK K)
                  first | (refine wpRO_pure rfl rfl _ (fun w' hG => by obtain ⟨g0, g1, g2, g3, g4⟩ := hG; exact gives_agg2 rfl (by decide +kernel) rfl (by assumption) (by assumption)) (fun K hK => ?_); go_simp; refine hK _ ?_; clear hK K) | (refine wpRO_pure rfl rfl _ (fun w' hG => by obtain ⟨g0, g1, g2, g3, g4⟩ := hG; go_simp; exact Gives.mk _ _) (fun K hK => ?_); go_simp; refine hK _ ?_; clear hK K) | (refine wpRO_skip rfl rfl (fun K hK => ?_); go_simp; refine hK _ ?_; clear hK K)
                  first | (refine wpRO_free rfl rfl _ (fun w' => by go_simp; exact Gives.mk _ _) (fun K hK => ?_); go_simp; refine hK _ ?_; clear hK K) | (refine wpRO_skipF rfl rfl (fun K hK => ?_); go_simp; refine hK _ ?_; clear hK K)
                  first | (refine wpRO_free rfl rfl _ (fun w' => by go_simp; exact Gives.mk _ _) (fun K hK => ?_); go_simp; refine hK _ ?_; clear hK K) | (refine wpRO_skipF rfl rfl (fun K hK => ?_); go_simp; refine hK _ ?_; clear hK K)
                  first | (refine wpRO_free rfl rfl _ (fun w' => by go_simp; exact Gives.mk _ _) (fun K hK => ?_); go_simp; refine hK _ ?_; clear hK K) | (refine wpRO_skipF rfl rfl (fun K hK => ?_); go_simp; refine hK _ ?_; clear hK K)
                  refine wpRO_fin ?_
                  clear hs1 hs2 c0 d0 d1 e0 e1
                  go_wp2_with fail
                  go_roundw
                  case rel => exact ⟨k + 1, by omega, by go_num, HKA.out.drew⟩
                  case measure => simp [intOf]; omega
                · obtain rfl : k = sm.1.length := by omega
                  go_wp2_with fail
                  clear c0 pl
                  have HKA2 := Lib.hid (HKA.out.mono (T := fun _ => False) fun _ _ h => h)
                  revert HKA2 HKA
                  generalize wr = wr2
                  intro HKA2 HKA
                  clear HKA2
                  go_loopw [22] (fun i wr => ∃ k : Nat, k ≤ sm.2.length ∧ i = .int .i64 k ∧ Keeps (fun _ => False) wr2 wr) (fun i _ => sm.2.length - (intOf i).toNat)
                  case atStart => exact ⟨0, Nat.zero_le _, rfl, Keeps.refl _ _⟩
                  case round =>
                    obtain ⟨k, hk, rfl, hkk⟩ := hrel
                    have HKB := Lib.hid hkk; clear hkk
                    have c1 := ((HM13.out.keep HKA.out).keep HKB.out).hS.hp.cell 1
                    have pl := ((HM13.out.keep HKA.out).keep HKB.out).hS.hp.lt
                    simp only [List.getElem?_cons_zero, List.getElem?_cons_succ] at c1
                    rw [HL2.out] at c1
                    by_cases hlt : k < sm.2.length
                    · obtain ⟨_, _, e', hrd, -, -⟩ := ((HM13.out.keep HKA.out).keep HKB.out).hS.hw.rd
                      cases e'
                      obtain ⟨g, o, rfl, hgl, d0, d1⟩ := hrd.ent k (by rw [HL2.out]; exact hlt)
                      obtain ⟨_, _, e', hrd2, -, -⟩ := (JSB.out.keep (HKA.out.trans HKB.out) (fun _ _ h => h)).rd
                      cases e'
                      obtain ⟨g2, o2, rfl, hgl2, e0, e1⟩ := hrd2.ent k hlt
                      have hg : (sm.2.map up2).getD k (0, 0) = up2 (sm.2.getD k (0, 0)) := by simp [List.getD, hlt]
                      rw [hg] at d0 d1
                      have hsv := HSM.out.2 (sm.2.getD k (0, 0)) (by simp [List.getD, hlt])
                      generalize sm.2.getD k (0, 0) = v at *
                      unfold up2 at d0 d1
                      simp only at d0 d1
                      obtain ⟨⟨hv1, hv2⟩, hv3, hv4⟩ := hsv
                      clear hg hrd hrd2
                      have hs1 : IntKind.i64.wrap (v.1 + 1000) = v.1 + 1000 := IntWalk.i64_in _ (by omega)
                      have hs2 : IntKind.i64.wrap (v.2 + 1000) = v.2 + 1000 := IntWalk.i64_in _ (by omega)
                      go_wp2_with fail
                      refine wp_region_ro (.free 0 (.free 1 (.free 2 (.free 4 (.free 7 (.free 8 (.free 9 (.free 10 (.free 13 (.free 14 (.free 15 (.free 16 (.pure 3 (.free 5 (.pure 6 (.pure 11 (.free 12 (.pure 17 (.free 18 (.free 19 (.free 20 (.fin)))))))))))))))))))))) [] (fun w' => w'.cell? ⟨p, 1, none⟩ = some (.slice (some ⟨g, o, none⟩) sm.2.length svc) ∧ w'.cell? ⟨g, o + k * 2, none⟩ = some (.int .i64 (v.1 + 1000)) ∧ w'.cell? ⟨g, o + k * 2 + 1, none⟩ = some (.int .i64 (v.2 + 1000)) ∧ w'.cell? ⟨g2, o2 + k * 2, none⟩ = some (.int .i64 v.1) ∧ w'.cell? ⟨g2, o2 + k * 2 + 1, none⟩ = some (.int .i64 v.2)) (by kernel_rfl) (by kernel_rfl) ⟨c1, d0, d1, e0, e1⟩ ?_
                      first | (refine wpRO_free rfl rfl _ (fun w' => by go_simp; exact Gives.mk _ _) (fun K hK => ?_); go_simp; refine hK _ ?_; clear hK K) | (refine wpRO_skipF rfl rfl (fun K hK => ?_); go_simp; refine hK _ ?_; clear hK K)
                      first | (refine wpRO_free rfl rfl _ (fun w' => by go_simp; exact Gives.mk _ _) (fun K hK => ?_); go_simp; refine hK _ ?_; clear hK K) | (refine wpRO_skipF rfl rfl (fun K hK => ?_); go_simp; refine hK _ ?_; clear hK K)
                      first | (refine wpRO_free rfl rfl _ (fun w' => by go_simp; exact Gives.mk _ _) (fun K hK => ?_); go_simp; refine hK _ ?_; clear hK K) | (refine wpRO_skipF rfl rfl (fun K hK => ?_); go_simp; refine hK _ ?_; clear hK K)
                      first | (refine wpRO_free rfl rfl _ (fun w' => by go_simp; exact Gives.mk _ _) (fun K hK => ?_); go_simp; refine hK _ ?_; clear hK K) | (refine wpRO_skipF rfl rfl (fun K hK => ?_); go_simp; refine hK _ ?_; clear hK K)
                      first | (refine wpRO_free rfl rfl _ (fun w' => by go_simp; exact Gives.mk _ _) (fun K hK => ?_); go_simp; refine hK _ ?_; clear hK K) | (refine wpRO_skipF rfl rfl (fun K hK => ?_); go_simp; refine hK _ ?_; clear hK K)
                      first | (refine wpRO_free rfl rfl _ (fun w' => by go_simp; exact Gives.mk _ _) (fun K hK => ?_); go_simp; refine hK _ ?_; clear hK K) | (refine wpRO_skipF rfl rfl (fun K hK => ?_); go_simp; refine hK _ ?_; clear hK K)
                      first | (refine wpRO_free rfl rfl _ (fun w' => by go_simp; exact Gives.mk _ _) (fun K hK => ?_); go_simp; refine hK _ ?_; clear hK K) | (refine wpRO_skipF rfl rfl (fun K hK => ?_); go_simp; refine hK _ ?_; clear hK K)
                      first | (refine wpRO_free rfl rfl _ (fun w' => by go_simp; exact Gives.mk _ _) (fun K hK => ?_); go_simp; refine hK _ ?_; clear hK K) | (refine wpRO_skipF rfl rfl (fun K hK => ?_); go_simp; refine hK _ ?_; clear hK K)
                      first | (refine wpRO_free rfl rfl _ (fun w' => by go_simp; exact Gives.mk _ _) (fun K hK => ?_); go_simp; refine hK _ ?_; clear hK K) | (refine wpRO_skipF rfl rfl (fun K hK => ?_); go_simp; refine hK _ ?_; clear hK K)
                      first | (refine wpRO_free rfl rfl _ (fun w' => by go_simp; exact Gives.mk _ _) (fun K hK => ?_); go_simp; refine hK _ ?_; clear hK K) | (refine wpRO_skipF rfl rfl (fun K hK => ?_); go_simp; refine hK _ ?_; clear hK K)
                      first | (refine wpRO_free rfl rfl _ (fun w' => by go_simp; exact Gives.mk _ _) (fun K hK => ?_); go_simp; refine hK _ ?_; clear hK K) | (refine wpRO_skipF rfl rfl (fun K hK => ?_); go_simp; refine hK _ ?_; clear hK K)
                      first | (refine wpRO_free rfl rfl _ (fun w' => by go_simp; exact Gives.mk _ _) (fun K hK => ?_); go_simp; refine hK _ ?_; clear hK K) | (refine wpRO_skipF rfl rfl (fun K hK => ?_); go_simp; refine hK _ ?_; clear hK K)
                      first | (refine wpRO_pure rfl rfl _ (fun w' hG => by obtain ⟨g0, g1, g2, g3, g4⟩ := hG; exact gives_agg2 rfl (by decide +kernel) rfl (by assumption) (by assumption)) (fun K hK => ?_); go_simp; refine hK _ ?_; clear hK K) | (refine wpRO_pure rfl rfl _ (fun w' hG => by obtain ⟨g0, g1, g2, g3, g4⟩ := hG; go_simp; exact Gives.mk _ _) (fun K hK => ?_); go_simp; refine hK _ ?_; clear hK K) | (refine wpRO_skip rfl rfl (fun K hK => ?_); go_simp; refine hK _ ?_; clear hK K)
                      first | (refine wpRO_free rfl rfl _ (fun w' => by go_simp; exact Gives.mk _ _) (fun K hK => ?_); go_simp; refine hK _ ?_; clear hK K) | (refine wpRO_skipF rfl rfl (fun K hK => ?_); go_simp; refine hK _ ?_; clear hK K)
                      first | (refine wpRO_pure rfl rfl _ (fun w' hG => by obtain ⟨g0, g1, g2, g3, g4⟩ := hG; exact gives_agg2 rfl (by decide +kernel) rfl (by assumption) (by assumption)) (fun K hK => ?_); go_simp; refine hK _ ?_; clear hK K) | (refine wpRO_pure rfl rfl _ (fun w' hG => by obtain ⟨g0, g1, g2, g3, g4⟩ := hG; go_simp; exact Gives.mk _ _) (fun K hK => ?_); go_simp; refine hK _ ?_; clear hK K) | (refine wpRO_skip rfl rfl (fun K hK => ?_); go_simp; refine hK _ ?_; clear hK K)
                      first | (refine wpRO_pure rfl rfl _ (fun w' hG => by obtain ⟨g0, g1, g2, g3, g4⟩ := hG; exact gives_agg2 rfl (by decide +kernel) rfl (by assumption) (by assumption)) (fun K hK => ?_); go_simp; refine hK _ ?_; clear hK K) | (refine wpRO_pure rfl rfl _ (fun w' hG => by obtain ⟨g0, g1, g2, g3, g4⟩ := hG; go_simp; exact Gives.mk _ _) (fun K hK => ?_); go_simp; refine hK _ ?_; clear hK K) | (refine wpRO_skip rfl rfl (fun K hK => ?_); go_simp; refine hK _ ?_; clear hK K)
                      first | (refine wpRO_free rfl rfl _ (fun w' => by go_simp; exact Gives.mk _ _) (fun K hK => ?_); go_simp; refine hK _ ?_; clear hK K) | (refine wpRO_skipF rfl rfl (fun K hK => ?_); go_simp; refine hK _ ?_; clear hK K)
                      first | (refine wpRO_pure rfl rfl _ (fun w' hG => by obtain ⟨g0, g1, g2, g3, g4⟩ := hG; exact gives_agg2 rfl (by decide +kernel) rfl (by assumption) (by assumption)) (fun K hK => ?_); go_simp; refine hK _ ?_; clear hK K) | (refine wpRO_pure rfl rfl _ (fun w' hG => by obtain ⟨g0, g1, g2, g3, g4⟩ := hG; go_simp; exact Gives.mk _ _) (fun K hK => ?_); go_simp; refine hK _ ?_; clear hK K) | (refine wpRO_skip rfl rfl (fun K hK => ?_); go_simp; refine hK _ ?_; clear hK K)
                      first | (refine wpRO_free rfl rfl _ (fun w' => by go_simp; exact Gives.mk _ _) (fun K hK => ?_); go_simp; refine hK _ ?_; clear hK K) | (refine wpRO_skipF rfl rfl (fun K hK => ?_); go_simp; refine hK _ ?_; clear hK K)
                      first | (refine wpRO_free rfl rfl _ (fun w' => by go_simp; exact Gives.mk _ _) (fun K hK => ?_); go_simp; refine hK _ ?_; clear hK K) | (refine wpRO_skipF rfl rfl (fun K hK => ?_); go_simp; refine hK _ ?_; clear hK K)
                      first | (refine wpRO_free rfl rfl _ (fun w' => by go_simp; exact Gives.mk _ _) (fun K hK => ?_); go_simp; refine hK _ ?_; clear hK K) | (refine wpRO_skipF rfl rfl (fun K hK => ?_); go_simp; refine hK _ ?_; clear hK K)
                      refine wpRO_fin ?_
                      clear hs1 hs2 c1 d0 d1 e0 e1
                      go_wp2_with fail
                      go_roundw
                      case rel => exact ⟨k + 1, by omega, by go_num, HKB.out.drew⟩
                      case measure => simp [intOf]; omega
                    · obtain rfl : k = sm.2.length := by omega
                      go_wp2_with fail
                      go_ret
                      exact ⟨rfl, (HM13.out.hK.trans HKA.out).trans HKB.out⟩
  · go_wp2_with fail
    go_ret
    exact ⟨rfl, HK1.out⟩

theorem SideSettles_walk (ro : Option Addr) (cr : Nat) (regs : List (Int × Int)) (ao : Option Addr) (ca : Nat) (wait : List (Int × Int)) (bo : Option Addr) (cb : Nat) (alive : List Int) (co : Option Addr) (cc : Nat) (leads : List (Int × Int)) (w : World)
    (h0 : Rd w ro (entV regs)) (l0 : regs.length ≤ maxLen) (_ : ∀ e ∈ regs, (-9223372036854775808 ≤ e.1 ∧ e.1 ≤ 9223372036854775807) ∧ -9223372036854775808 ≤ e.2 ∧ e.2 ≤ 9223372036854775807)
    (h1 : Rd w ao (entV wait)) (l1 : wait.length ≤ maxLen) (_ : ∀ e ∈ wait, (-9223372036854775808 ≤ e.1 ∧ e.1 ≤ 9223372036854775807) ∧ -9223372036854775808 ≤ e.2 ∧ e.2 ≤ 9223372036854775807)
    (h2 : Rd w bo (alive.map (Value.int .i64))) (l2 : alive.length ≤ maxLen) (_ : ∀ x ∈ alive, -9223372036854775808 ≤ x ∧ x ≤ 9223372036854775807)
    (h3 : Rd w co (entV leads)) (l3 : leads.length ≤ maxLen) (_ : ∀ e ∈ leads, (-9223372036854775808 ≤ e.1 ∧ e.1 ≤ 9223372036854775807) ∧ -9223372036854775808 ≤ e.2 ∧ e.2 ≤ 9223372036854775807)
    (hcl : ∀ a, co = some a → a.block < w.heap.size) :
    Calls Try.prog 5 #[.slice ro regs.length cr, .slice ao wait.length ca, .slice bo alive.length cb, .slice co leads.length cc] w fun e w' => e = .returned (.bool true) ∧ Below w.heap.size w w' :=
  (SideSettles_raw ro cr regs ao ca wait bo cb alive co cc leads w h0 l0 h1 l1 h2 l2 h3 l3 hcl).mono fun e w' h => ⟨h.1, h.2.below (fun _ _ h => h)⟩

end Go.Proofs.Ytjifdalflepcoaa
