/-
  Parts of the proof, merged: what the functions do, and plain laws.
-/
import Derived.Test.YtjifdalflepcoabMDesP4
import Derived.Test.YtjifdalflepcoabMDesP0
import Derived.Test.YtjifdalflepcoabMDesP1
namespace Go.Proofs.Ytjifdalflepcoab
open Go.RowKit
set_option linter.unusedVariables false
set_option linter.unusedSimpArgs false
section
variable {w w' : World} {h : BH} {O O' : Wo} {W W' : Wd}
theorem reg_no {O : Wo} {a c : Nat} (hn : ¬ ((O.ar.thingAt (O.rtA c)).2.2.2 = 0 ∧ (O.ar.thingAt (O.rtA a)).2.2.2 = 0 ∧ (O.ar.thingAt (O.rtA c)).2.1 = 5)) : (O.reg a c).1 ≠ 0 ∧ (O.reg a c).2 = O := by
 unfold Wo.reg
 split
 ·rename_i h1; exact ⟨h1,rfl⟩
 ·rename_i h1
  split
  ·exact ⟨by show (2 : Int) ≠ 0; decide,rfl⟩
  ·rename_i h2
   exfalso
   apply hn
   unfold Wo.isG at h2
   simp at h2
   exact ⟨h2.1,by simpa using h1,h2.2⟩
theorem reg_yes {O : Wo} {a c : Nat} (hn : (O.ar.thingAt (O.rtA c)).2.2.2 = 0 ∧ (O.ar.thingAt (O.rtA a)).2.2.2 = 0 ∧ (O.ar.thingAt (O.rtA c)).2.1 = 5) : O.reg a c = if 24 ≤ O.rg.length + O.wt.length then (3,O) else (0, { O with rg := O.rg ++ [(O.rtA c,O.rtA a)] }) := by
 unfold Wo.reg
 rw [if_neg (by rw [hn.2.1]; decide),if_neg (by unfold Wo.isG; simp [hn.1,hn.2.2])]
theorem Wo.ok.regs {O : Wo} (h : O.ok) {x y : Int} (hx : R64 x) (hy : R64 y) (hq : ¬ 24 ≤ O.rg.length + O.wt.length) : Wo.ok { O with rg := O.rg ++ [(x,y)],wt := O.wt } := by
 refine ⟨h.ha,h.h12,h.hR,fun e he => ?_,h.hw,by simp; omega,h.hc⟩
 rcases List.mem_append.1 he with h1 | h1
 ·exact h.hg e h1
 ·simp at h1; subst h1; exact ⟨hx,hy⟩
set_option maxHeartbeats 16000000 in
set_option maxRecDepth 100000 in
theorem bothDo5_c (xa xb xc : Int) (B : BothAt w h O W) (hb : R64 xa) :
  Calls Try.prog 74 #[.pointer (some ⟨h.p,0,none⟩), .agg #[.int .i64 5, .int .i64 xa, .int .i64 xb, .int .i64 xc]] w (BothDoRet w h O W 5 xa xb (rootN xa) (rootN xc)) := by
 have ka := (Keeps.refl (fun _ => False) w).alloc (.cells #[.int .i64 5, .int .i64 xa, .int .i64 xb, .int .i64 xc] 112)
 have hs : Blk (w.alloc (.cells #[.int .i64 5, .int .i64 xa, .int .i64 xb, .int .i64 xc] 112)) w.heap.size [.int .i64 5, .int .i64 xa, .int .i64 xb, .int .i64 xc] 112 := Blk.newAt _ rfl rfl
 have HB1 := Lib.hid (B.same ka); have SB := Lib.hid hs; have K1 := Lib.hid ka; have HBB := Lib.hid hb
 clear ka hs B hb
 go_enter Try.func74,Try.ntmps74
 go_wp2_with fail
 generalize w.alloc (.cells #[.int .i64 5, .int .i64 xa, .int .i64 xb, .int .i64 xc] 112) = w1 at *
 generalize w.heap.size = sb at *
 have s0 := SB.out.cell 0; have s1 := SB.out.cell 1; have s2 := SB.out.cell 2; have s3 := SB.out.cell 3; have sl := SB.out.lt
 simp only [List.getElem?_cons_zero,List.getElem?_cons_succ] at s0 s1 s2 s3
 refine wp_region_ro (.free 0 (.free 3 (.pure 1 (.pure 4 (.run 2 (.run 5 (.swi [] (.free 6 (.free 7 (.fin)))))))))) [5,6,7] (fun w' => w'.cell? ⟨sb,1,none⟩ = some (.int .i64 xa) ∧ w'.cell? ⟨sb,3,none⟩ = some (.int .i64 xc)) (by kernel_rfl) (by kernel_rfl) ⟨s1,s3⟩ ?_
 iterate 4 first | (refine wpRO_free rfl rfl _ (fun w' => by go_simp; exact Gives.mk _ _) (fun K hK => ?_); go_simp; refine hK _ ?_; clear hK K) | (refine wpRO_skipF rfl rfl (fun K hK => ?_); go_simp; refine hK _ ?_; clear hK K) | (refine wpRO_pure rfl rfl _ (fun w' hG => by obtain ⟨s1,s3⟩ := hG; exact gives_agg2 rfl (by decide +kernel) rfl (by assumption) (by assumption)) (fun K hK => ?_); go_simp; refine hK _ ?_; clear hK K) | (refine wpRO_pure rfl rfl _ (fun w' hG => by obtain ⟨s1,s3⟩ := hG; go_simp; exact Gives.mk _ _) (fun K hK => ?_); go_simp; refine hK _ ?_; clear hK K) | (refine wpRO_skip rfl rfl (fun K hK => ?_); go_simp; refine hK _ ?_; clear hK K)
 refine wpRO_run rfl rfl (fun K hK => ?_); unfold gRun; go_simp
 refine (Root_c xa _).mono ?_
 rintro e w2 ⟨rfl,rfl⟩
 refine hK _ _ (fun hg => hg) ?_
 clear hK K
 refine wpRO_chg rfl rfl rfl (fun K hK => ?_); unfold gRun; go_simp
 refine (Root_c xc _).mono ?_
 rintro e w2 ⟨rfl,rfl⟩
 refine hK _ _ ?_
 clear hK K
 refine wpRO_swi (fun _ => True) trivial ?_
 iterate 2 first | (refine wpRO_free rfl rfl _ (fun w' => by go_simp; exact Gives.mk _ _) (fun K hK => ?_); go_simp; refine hK _ ?_; clear hK K) | (refine wpRO_skipF rfl rfl (fun K hK => ?_); go_simp; refine hK _ ?_; clear hK K)
 refine wpRO_fin ?_
 have ha12 := rootN_lt xa; have hc12 := rootN_lt xc
 generalize rootN xa = a at *
 generalize rootN xc = c at *
 have HB2 := Lib.hid (HB1.out.same ((Keeps.refl (fun _ => False) w1).drew)); have K2 := Lib.hid (K1.out.drew); have SB2 := Lib.hid (show Blk w1.drew sb _ _ from SB.out.drew)
 clear s0 s1 s2 s3 sl HB1 K1 SB
 generalize w1.drew = w2 at *
 have s0 := SB2.out.cell 0; have s1 := SB2.out.cell 1; have s2 := SB2.out.cell 2; have s3 := SB2.out.cell 3; have sl := SB2.out.lt
 simp only [List.getElem?_cons_zero,List.getElem?_cons_succ] at s0 s1 s2 s3
 have b0 := HB2.out.hp.cell 0; have b1 := HB2.out.hp.cell 1; have bl := HB2.out.hp.lt
 simp only [List.getElem?_cons_zero,List.getElem?_cons_succ] at b0 b1
 have hor12 := HB2.out.H.ok.h12
 obtain ⟨g,o,cap,hro,hown,hgl,q3,fz,rcs⟩ := HB2.out.H.roots
 obtain ⟨q0,q1,q2, -⟩ := HB2.out.H.ptrs
 have ra := rcs a (by omega); have rc := rcs c (by omega)
 have fc := fz (o + c)
 rw [hor12] at q3 hro
 have HRO := Lib.hid hro; have HOWN := Lib.hid hown; have HO12 := Lib.hid hor12; have HFZ := Lib.hid fz; have HRCS := Lib.hid rcs
 have ql := HB2.out.H.hp.lt
 clear hro hown hor12 fz rcs
 have yl : (O.ar.yng : Int) ≤ 1280 := by have := HB2.out.H.ok.ha.h1; have := HB2.out.H.ok.ha.h2; have := HB2.out.H.ok.ha.h3; have := HB2.out.H.ok.ha.h4; omega
 have ha12i : (a : Int) < 12 := by omega
 have hc12i : (c : Int) < 12 := by omega
 have HRc := Lib.hid (show R64 (O.rtA c) from HB2.out.H.ok.hR _ (by unfold Wo.rtA; rw [Int.toNat_natCast,List.getD_eq_getElem?_getD,List.getElem?_eq_getElem (by rw [HO12.out]; exact hc12)]; exact List.getElem_mem _))
 have HRa := Lib.hid (show R64 (O.rtA a) from HB2.out.H.ok.hR _ (by unfold Wo.rtA; rw [Int.toNat_natCast,List.getD_eq_getElem?_getD,List.getElem?_eq_getElem (by rw [HO12.out]; exact ha12)]; exact List.getElem_mem _))
 have ra : w2.cell? ⟨g,o + a,none⟩ = some (.int .i64 (O.rtA a)) := by unfold Wo.rtA; rw [Int.toNat_natCast]; exact ra
 have rc : w2.cell? ⟨g,o + c,none⟩ = some (.int .i64 (O.rtA c)) := by unfold Wo.rtA; rw [Int.toNat_natCast]; exact rc
 have HWO := Lib.hid (show woC O 5 xa xb a c = (if (O.reg a c).1 = 0 then 0 else 1,(O.reg a c).2) by unfold woC; rw [if_neg (by decide),if_neg (by decide),if_neg (by decide),if_neg (by decide),if_neg (by decide),if_pos rfl])
 have HWD := Lib.hid (show wdC W 5 xa xb a c = (if (W.do ⟨9,0,a,c,0,0⟩).1 = 0 then 0 else 1,(W.do ⟨9,0,a,c,0,0⟩).2) by unfold wdC; rw [if_neg (by decide),if_neg (by decide),if_neg (by decide),if_neg (by decide),if_neg (by decide),if_pos rfl])
 have hdo := fun w' (R : WorldAt w' h.b W) => WDoReg_c 0 a c 0 0 R
 have hdo2 := fun w' rh (R : WorldAt w' rh W) => WDoReg_c 0 a c 0 0 R
 have HRN := Lib.hid (fun h => reg_no (O := O) (a := a) (c := c) h); have HRY := Lib.hid (fun h => reg_yes (O := O) (a := a) (c := c) h)
 obtain ⟨⟨dc,W'⟩,hD⟩ : ∃ t,W.do ⟨9,0,a,c,0,0⟩ = t := ⟨_,rfl⟩
 rw [hD] at HWD
 simp only [hD] at hdo hdo2
 have HDO2 := Lib.hid hdo2
 clear hdo2
 have hk1 := fun w' (R : WoodAt w' h.a O) => Kind_c (O.rtA c) R
 have hk2 := fun w' (R : WoodAt w' h.a O) => Kind_c (O.rtA a) R
 generalize hva : O.rtA a = va at *
 generalize hvc : O.rtA c = vc at *
 have HVA := Lib.hid hva; have HVC := Lib.hid hvc
 clear hva hvc
 obtain ⟨⟨p1,kd,n1,e1⟩,hT1⟩ : ∃ t,O.ar.thingAt vc = t := ⟨_,rfl⟩
 obtain ⟨⟨p2,kd2,n2,e2⟩,hT2⟩ : ∃ t,O.ar.thingAt va = t := ⟨_,rfl⟩
 rw [hT1,hT2] at HRN HRY
 simp only [hT1] at hk1
 simp only [hT2] at hk2
 have HK1 := Lib.hid hk1; have HK2 := Lib.hid hk2
 have HDO := Lib.hid hdo
 clear hD hdo fc hT1 hT2 hk1 hk2
 go_wp2_with fail
 refine wp_region_ro (.free 0 (.free 1 (.free 2 (.free 4 (.free 5 (.free 6 (.free 11 (.pure 3 (.pure 7 (.free 8 (.free 9 (.pure 10 (.free 12 (.pure 13 (.run 14 (.swi [] (.free 15 (.free 16 (.free 17 (.free 18 (.free 19 (.free 20 (.free 21 (.fin)))))))))))))))))))))))) [14,15,16,17,18,19,20,21] (fun w' => w'.cell? ⟨h.p,0,none⟩ = some (.pointer (some ⟨h.a.p,0,none⟩)) ∧ w'.cell? ⟨h.a.p,3,none⟩ = some (.slice (some ⟨g,o,none⟩) 12 cap) ∧ w'.cell? ⟨g,o + c,none⟩ = some (.int .i64 vc)) (by kernel_rfl) (by kernel_rfl) ⟨b0,q3,rc⟩ ?_
 iterate 14 first | (refine wpRO_free rfl rfl _ (fun w' => by go_simp; exact Gives.mk _ _) (fun K hK => ?_); go_simp; refine hK _ ?_; clear hK K) | (refine wpRO_skipF rfl rfl (fun K hK => ?_); go_simp; refine hK _ ?_; clear hK K) | (refine wpRO_pure rfl rfl _ (fun w' hG => by obtain ⟨b0,q3,rc⟩ := hG; exact gives_agg2 rfl (by decide +kernel) rfl (by assumption) (by assumption)) (fun K hK => ?_); go_simp; refine hK _ ?_; clear hK K) | (refine wpRO_pure rfl rfl _ (fun w' hG => by obtain ⟨b0,q3,rc⟩ := hG; go_simp; exact Gives.mk _ _) (fun K hK => ?_); go_simp; refine hK _ ?_; clear hK K) | (refine wpRO_skip rfl rfl (fun K hK => ?_); go_simp; refine hK _ ?_; clear hK K)
 refine wpRO_chg rfl rfl rfl (fun K hK => ?_); unfold gRun; go_simp
 refine (HK1.out _ (HB2.out.same ((Keeps.refl (fun _ => False) w2).drew)).H).mono ?_
 rintro e3 w3 ⟨rfl,rfl⟩
 refine hK _ _ ?_
 clear hK K
 refine wpRO_swi (fun _ => True) trivial ?_
 iterate 7 first | (refine wpRO_free rfl rfl _ (fun w' => by go_simp; exact Gives.mk _ _) (fun K hK => ?_); go_simp; refine hK _ ?_; clear hK K) | (refine wpRO_skipF rfl rfl (fun K hK => ?_); go_simp; refine hK _ ?_; clear hK K)
 refine wpRO_fin ?_
 go_wp2_with fail
 refine wp_region_ro (.free 0 (.free 1 (.free 2 (.free 4 (.free 5 (.free 6 (.free 11 (.pure 3 (.pure 7 (.free 8 (.free 9 (.pure 10 (.free 12 (.pure 13 (.run 14 (.swi [] (.free 15 (.free 16 (.free 17 (.free 18 (.free 19 (.free 20 (.free 21 (.fin)))))))))))))))))))))))) [14,15,16,17,18,19,20,21] (fun w' => w'.cell? ⟨h.p,0,none⟩ = some (.pointer (some ⟨h.a.p,0,none⟩)) ∧ w'.cell? ⟨h.a.p,3,none⟩ = some (.slice (some ⟨g,o,none⟩) 12 cap) ∧ w'.cell? ⟨g,o + a,none⟩ = some (.int .i64 va)) (by kernel_rfl) (by kernel_rfl) ⟨b0,q3,ra⟩ ?_
 iterate 14 first | (refine wpRO_free rfl rfl _ (fun w' => by go_simp; exact Gives.mk _ _) (fun K hK => ?_); go_simp; refine hK _ ?_; clear hK K) | (refine wpRO_skipF rfl rfl (fun K hK => ?_); go_simp; refine hK _ ?_; clear hK K) | (refine wpRO_pure rfl rfl _ (fun w' hG => by obtain ⟨b0,q3,ra⟩ := hG; exact gives_agg2 rfl (by decide +kernel) rfl (by assumption) (by assumption)) (fun K hK => ?_); go_simp; refine hK _ ?_; clear hK K) | (refine wpRO_pure rfl rfl _ (fun w' hG => by obtain ⟨b0,q3,ra⟩ := hG; go_simp; exact Gives.mk _ _) (fun K hK => ?_); go_simp; refine hK _ ?_; clear hK K) | (refine wpRO_skip rfl rfl (fun K hK => ?_); go_simp; refine hK _ ?_; clear hK K)
 refine wpRO_chg rfl rfl rfl (fun K hK => ?_); unfold gRun; go_simp
 refine (HK2.out _ (HB2.out.same ((Keeps.refl (fun _ => False) w2).drew.drew)).H).mono ?_
 rintro e3 w3 ⟨rfl,rfl⟩
 refine hK _ _ ?_
 clear hK K
 refine wpRO_swi (fun _ => True) trivial ?_
 iterate 7 first | (refine wpRO_free rfl rfl _ (fun w' => by go_simp; exact Gives.mk _ _) (fun K hK => ?_); go_simp; refine hK _ ?_; clear hK K) | (refine wpRO_skipF rfl rfl (fun K hK => ?_); go_simp; refine hK _ ?_; clear hK K)
 refine wpRO_fin ?_
 have HB3 := Lib.hid (HB2.out.same ((Keeps.refl (fun _ => False) w2).drew.drew))
 have K3 := Lib.hid (K2.out.drew.drew.mono (fun _ _ h => h.elim) : Keeps h.Own w w2.drew.drew)
 have SB3 := Lib.hid (show Blk w2.drew.drew sb _ _ from SB2.out.drew.drew)
 have HHR := Lib.hid (HB2.out.H.hr.own (k := g) HOWN.out)
 clear HB2 K2 SB2 b0 b1 bl q0 q1 q2 q3 ql s0 s1 s2 s3 sl hgl ra rc HK1 HK2 HRCS HFZ
 generalize w2.drew.drew = w3 at *
 by_cases he1 : e1 = 0
 case neg =>
  have hd1 : (e1 == 0) = false := by simpa using he1
  have hno := HRN.out (fun e => he1 e.1)
  have HWO2 := Lib.hid (show woC O 5 xa xb a c = (1,O) by rw [HWO.out,if_neg hno.1,hno.2])
  clear he1 hno
  --<n1
  go_wp2_with fail
  refine wp_region_ro (.free 0 (.free 1 (.free 2 (.free 3 (.free 4 (.free 5 (.free 6 (.free 7 (.free 8 (.free 9 (.free 10 (.free 11 (.free 12 (.free 13 (.free 18 (.free 19 (.free 20 (.free 25 (.free 28 (.free 29 (.free 30 (.free 35 (.pure 14 (.free 15 (.free 16 (.pure 17 (.pure 21 (.free 22 (.free 23 (.pure 24 (.free 26 (.pure 27 (.pure 31 (.free 32 (.free 33 (.pure 34 (.free 36 (.pure 37 (.free 38 (.run 39 (.swi [] (.free 40 (.free 41 (.fin)))))))))))))))))))))))))))))))))))))))))))) [39,40,41] (fun w' => True) (by kernel_rfl) (by kernel_rfl) trivial ?_
  iterate 39 first | (refine wpRO_free rfl rfl _ (fun w' => by go_simp; exact Gives.mk _ _) (fun K hK => ?_); go_simp; refine hK _ ?_; clear hK K) | (refine wpRO_skipF rfl rfl (fun K hK => ?_); go_simp; refine hK _ ?_; clear hK K) | (refine wpRO_pure rfl rfl _ (fun w' hG => by obtain _ := hG; exact gives_agg2 rfl (by decide +kernel) rfl (by assumption) (by assumption)) (fun K hK => ?_); go_simp; refine hK _ ?_; clear hK K) | (refine wpRO_pure rfl rfl _ (fun w' hG => by obtain _ := hG; go_simp; exact Gives.mk _ _) (fun K hK => ?_); go_simp; refine hK _ ?_; clear hK K) | (refine wpRO_skip rfl rfl (fun K hK => ?_); go_simp; refine hK _ ?_; clear hK K)
  refine wpRO_skipR rfl rfl (fun K hK => ?_)
  go_simp
  refine hK _ ?_
  clear hK K
  refine wpRO_swi (fun _ => True) trivial ?_
  iterate 2 first | (refine wpRO_free rfl rfl _ (fun w' => by go_simp; exact Gives.mk _ _) (fun K hK => ?_); go_simp; refine hK _ ?_; clear hK K) | (refine wpRO_skipF rfl rfl (fun K hK => ?_); go_simp; refine hK _ ?_; clear hK K)
  refine wpRO_fin ?_
  have HB4 := Lib.hid (HB3.out.same ((Keeps.refl (fun _ => False) w3).drew))
  have K4 := Lib.hid (K3.out.drew)
  obtain ⟨b0,b1,bl⟩ := HB4.out.pcells
  go_wp2_with fail
  refine (HDO.out _ HB4.out.R).mono ?_
  rintro e5 w5 ⟨rfl,ht⟩
  have TO := Lib.hid (BothTo.from_keep K4.out (BothTo.world HB4.out ht))
  clear ht b0 b1 bl
  go_wp2_with fail
  go_ret
  unfold BothDoRet
  rw [HWO2.out,HWD.out]
  exact ⟨by by_cases hz : dc = 0 <;> simp [hz],TO.out⟩
  -->n1
 subst he1
 by_cases he2 : e2 = 0
 case neg =>
  have hd1 : (e2 == 0) = false := by simpa using he2
  have hno := HRN.out (fun e => he2 e.2.1)
  have HWO2 := Lib.hid (show woC O 5 xa xb a c = (1,O) by rw [HWO.out,if_neg hno.1,hno.2])
  clear he2 hno
  --<n2
  go_wp2_with fail
  refine wp_region_ro (.free 0 (.free 1 (.free 2 (.free 3 (.free 4 (.free 5 (.free 6 (.free 7 (.free 8 (.free 9 (.free 10 (.free 11 (.free 12 (.free 13 (.free 18 (.free 19 (.free 20 (.free 25 (.free 28 (.free 29 (.free 30 (.free 35 (.pure 14 (.free 15 (.free 16 (.pure 17 (.pure 21 (.free 22 (.free 23 (.pure 24 (.free 26 (.pure 27 (.pure 31 (.free 32 (.free 33 (.pure 34 (.free 36 (.pure 37 (.free 38 (.run 39 (.swi [] (.free 40 (.free 41 (.fin)))))))))))))))))))))))))))))))))))))))))))) [39,40,41] (fun w' => True) (by kernel_rfl) (by kernel_rfl) trivial ?_
  iterate 39 first | (refine wpRO_free rfl rfl _ (fun w' => by go_simp; exact Gives.mk _ _) (fun K hK => ?_); go_simp; refine hK _ ?_; clear hK K) | (refine wpRO_skipF rfl rfl (fun K hK => ?_); go_simp; refine hK _ ?_; clear hK K) | (refine wpRO_pure rfl rfl _ (fun w' hG => by obtain _ := hG; exact gives_agg2 rfl (by decide +kernel) rfl (by assumption) (by assumption)) (fun K hK => ?_); go_simp; refine hK _ ?_; clear hK K) | (refine wpRO_pure rfl rfl _ (fun w' hG => by obtain _ := hG; go_simp; exact Gives.mk _ _) (fun K hK => ?_); go_simp; refine hK _ ?_; clear hK K) | (refine wpRO_skip rfl rfl (fun K hK => ?_); go_simp; refine hK _ ?_; clear hK K)
  refine wpRO_skipR rfl rfl (fun K hK => ?_)
  go_simp
  refine hK _ ?_
  clear hK K
  refine wpRO_swi (fun _ => True) trivial ?_
  iterate 2 first | (refine wpRO_free rfl rfl _ (fun w' => by go_simp; exact Gives.mk _ _) (fun K hK => ?_); go_simp; refine hK _ ?_; clear hK K) | (refine wpRO_skipF rfl rfl (fun K hK => ?_); go_simp; refine hK _ ?_; clear hK K)
  refine wpRO_fin ?_
  have HB4 := Lib.hid (HB3.out.same ((Keeps.refl (fun _ => False) w3).drew))
  have K4 := Lib.hid (K3.out.drew)
  obtain ⟨b0,b1,bl⟩ := HB4.out.pcells
  go_wp2_with fail
  refine (HDO.out _ HB4.out.R).mono ?_
  rintro e5 w5 ⟨rfl,ht⟩
  have TO := Lib.hid (BothTo.from_keep K4.out (BothTo.world HB4.out ht))
  clear ht b0 b1 bl
  go_wp2_with fail
  go_ret
  unfold BothDoRet
  rw [HWO2.out,HWD.out]
  exact ⟨by by_cases hz : dc = 0 <;> simp [hz],TO.out⟩
  -->n2
 subst he2
 by_cases he5 : kd = 5
 case neg =>
  have hd1 : (kd == 5) = false := by simpa using he5
  have hno := HRN.out (fun e => he5 e.2.2)
  have HWO2 := Lib.hid (show woC O 5 xa xb a c = (1,O) by rw [HWO.out,if_neg hno.1,hno.2])
  clear he5 hno
  --<n3
  go_wp2_with fail
  refine wp_region_ro (.free 0 (.free 1 (.free 2 (.free 3 (.free 4 (.free 5 (.free 6 (.free 7 (.free 8 (.free 9 (.free 10 (.free 11 (.free 12 (.free 13 (.free 18 (.free 19 (.free 20 (.free 25 (.free 28 (.free 29 (.free 30 (.free 35 (.pure 14 (.free 15 (.free 16 (.pure 17 (.pure 21 (.free 22 (.free 23 (.pure 24 (.free 26 (.pure 27 (.pure 31 (.free 32 (.free 33 (.pure 34 (.free 36 (.pure 37 (.free 38 (.run 39 (.swi [] (.free 40 (.free 41 (.fin)))))))))))))))))))))))))))))))))))))))))))) [39,40,41] (fun w' => True) (by kernel_rfl) (by kernel_rfl) trivial ?_
  iterate 39 first | (refine wpRO_free rfl rfl _ (fun w' => by go_simp; exact Gives.mk _ _) (fun K hK => ?_); go_simp; refine hK _ ?_; clear hK K) | (refine wpRO_skipF rfl rfl (fun K hK => ?_); go_simp; refine hK _ ?_; clear hK K) | (refine wpRO_pure rfl rfl _ (fun w' hG => by obtain _ := hG; exact gives_agg2 rfl (by decide +kernel) rfl (by assumption) (by assumption)) (fun K hK => ?_); go_simp; refine hK _ ?_; clear hK K) | (refine wpRO_pure rfl rfl _ (fun w' hG => by obtain _ := hG; go_simp; exact Gives.mk _ _) (fun K hK => ?_); go_simp; refine hK _ ?_; clear hK K) | (refine wpRO_skip rfl rfl (fun K hK => ?_); go_simp; refine hK _ ?_; clear hK K)
  refine wpRO_skipR rfl rfl (fun K hK => ?_)
  go_simp
  refine hK _ ?_
  clear hK K
  refine wpRO_swi (fun _ => True) trivial ?_
  iterate 2 first | (refine wpRO_free rfl rfl _ (fun w' => by go_simp; exact Gives.mk _ _) (fun K hK => ?_); go_simp; refine hK _ ?_; clear hK K) | (refine wpRO_skipF rfl rfl (fun K hK => ?_); go_simp; refine hK _ ?_; clear hK K)
  refine wpRO_fin ?_
  have HB4 := Lib.hid (HB3.out.same ((Keeps.refl (fun _ => False) w3).drew))
  have K4 := Lib.hid (K3.out.drew)
  obtain ⟨b0,b1,bl⟩ := HB4.out.pcells
  go_wp2_with fail
  refine (HDO.out _ HB4.out.R).mono ?_
  rintro e5 w5 ⟨rfl,ht⟩
  have TO := Lib.hid (BothTo.from_keep K4.out (BothTo.world HB4.out ht))
  clear ht b0 b1 bl
  go_wp2_with fail
  go_ret
  unfold BothDoRet
  rw [HWO2.out,HWD.out]
  exact ⟨by by_cases hz : dc = 0 <;> simp [hz],TO.out⟩
  -->n3
 subst he5
 have HRG := Lib.hid (HRY.out ⟨rfl,rfl,rfl⟩)
 clear HRY HRN
 obtain ⟨b0,b1,bl⟩ := HB3.out.pcells
 obtain ⟨q0,q3,ql,gl,gf,gc⟩ := HB3.out.rcells HRO.out hc12
 obtain ⟨_,_,_,_,_,ga⟩ := HB3.out.rcells HRO.out ha12
 have q2 := HB3.out.H.ptrs.2.2.1
 rw [HVC.out] at gc
 rw [HVA.out] at ga
 have h24l := HB3.out.H.ok.hq
 have hsd := HB3.out.H.hs
 by_cases h24 : 24 ≤ O.rg.length + O.wt.length
 ·have HWO2 := Lib.hid (show woC O 5 xa xb a c = (1,O) by rw [HWO.out,HRG.out,if_pos h24]; rfl)
  have hreg := Reg_full h.a.ps h.a.rv h.a.wv O.rg O.wt vc va (w3.drew) (hsd.keep (Keeps.refl (fun _ => False) w3).drew (fun _ _ h => h)) (by omega) (by omega) h24
  have HREG := Lib.hid hreg
  clear hreg hsd h24
  go_wp2_with fail
  refine wp_region_ro (.free 0 (.free 1 (.free 2 (.free 3 (.free 4 (.free 5 (.free 6 (.free 7 (.free 8 (.free 9 (.free 10 (.free 11 (.free 12 (.free 13 (.free 18 (.free 19 (.free 20 (.free 25 (.free 28 (.free 29 (.free 30 (.free 35 (.pure 14 (.free 15 (.free 16 (.pure 17 (.pure 21 (.free 22 (.free 23 (.pure 24 (.free 26 (.pure 27 (.pure 31 (.free 32 (.free 33 (.pure 34 (.free 36 (.pure 37 (.free 38 (.run 39 (.swi [] (.free 40 (.free 41 (.fin)))))))))))))))))))))))))))))))))))))))))))) [39,40,41] (fun w' => w'.cell? ⟨h.p,0,none⟩ = some (.pointer (some ⟨h.a.p,0,none⟩)) ∧ w'.cell? ⟨h.a.p,3,none⟩ = some (.slice (some ⟨g,o,none⟩) 12 cap) ∧ w'.cell? ⟨g,o + c,none⟩ = some (.int .i64 vc) ∧ w'.cell? ⟨g,o + a,none⟩ = some (.int .i64 va) ∧ w'.cell? ⟨h.a.p,2,none⟩ = some (.pointer (some ⟨h.a.ps,0,none⟩))) (by kernel_rfl) (by kernel_rfl) ⟨b0,q3,gc,ga,q2⟩ ?_
  iterate 39 first | (refine wpRO_free rfl rfl _ (fun w' => by go_simp; exact Gives.mk _ _) (fun K hK => ?_); go_simp; refine hK _ ?_; clear hK K) | (refine wpRO_skipF rfl rfl (fun K hK => ?_); go_simp; refine hK _ ?_; clear hK K) | (refine wpRO_pure rfl rfl _ (fun w' hG => by obtain ⟨b0,q3,gc,ga,q2⟩ := hG; exact gives_agg2 rfl (by decide +kernel) rfl (by assumption) (by assumption)) (fun K hK => ?_); go_simp; refine hK _ ?_; clear hK K) | (refine wpRO_pure rfl rfl _ (fun w' hG => by obtain ⟨b0,q3,gc,ga,q2⟩ := hG; go_simp; exact Gives.mk _ _) (fun K hK => ?_); go_simp; refine hK _ ?_; clear hK K) | (refine wpRO_skip rfl rfl (fun K hK => ?_); go_simp; refine hK _ ?_; clear hK K)
  refine wpRO_chg rfl rfl rfl (fun K hK => ?_); unfold gRun; go_simp
  refine HREG.out.mono ?_
  rintro e5 w5 ⟨rfl,hk⟩
  refine hK _ _ ?_
  clear hK K
  refine wpRO_swi (fun _ => True) trivial ?_
  iterate 2 first | (refine wpRO_free rfl rfl _ (fun w' => by go_simp; exact Gives.mk _ _) (fun K hK => ?_); go_simp; refine hK _ ?_; clear hK K) | (refine wpRO_skipF rfl rfl (fun K hK => ?_); go_simp; refine hK _ ?_; clear hK K)
  refine wpRO_fin ?_
  have kk : Keeps (fun _ => False) w3 w5 := (Keeps.refl (fun _ => False) w3).drew.trans hk
  have HB4 := Lib.hid (HB3.out.same kk)
  have K4 := Lib.hid (K3.out.trans (kk.mono (fun _ _ h => h.elim)))
  clear hk kk b0 b1 bl q0 q2 q3 ql gl gf gc ga
  obtain ⟨b0,b1,bl⟩ := HB4.out.pcells
  go_wp2_with fail
  refine (HDO.out _ HB4.out.R).mono ?_
  rintro e6 w6 ⟨rfl,ht⟩
  have TO := Lib.hid (BothTo.from_keep K4.out (BothTo.world HB4.out ht))
  clear ht b0 b1 bl
  go_wp2_with fail
  go_ret
  unfold BothDoRet
  rw [HWO2.out,HWD.out]
  exact ⟨by by_cases hz : dc = 0 <;> simp [hz],TO.out⟩
 ·have HWO2 := Lib.hid (show woC O 5 xa xb a c = (0, { O with rg := O.rg ++ [(vc,va)] }) by rw [HWO.out,HRG.out,if_neg h24]; rfl)
  have HOK := Lib.hid (HB3.out.H.ok.regs HRc.out HRa.out h24)
  have hreg := Reg_room h.a.ps h.a.rv h.a.wv O.rg O.wt vc va (w3.drew) (hsd.keep (Keeps.refl (fun _ => False) w3).drew (fun _ _ h => h)) (by omega) (by omega) h24
  have HREG := Lib.hid hreg
  clear hreg hsd h24
  go_wp2_with fail
  refine wp_region_ro (.free 0 (.free 1 (.free 2 (.free 3 (.free 4 (.free 5 (.free 6 (.free 7 (.free 8 (.free 9 (.free 10 (.free 11 (.free 12 (.free 13 (.free 18 (.free 19 (.free 20 (.free 25 (.free 28 (.free 29 (.free 30 (.free 35 (.pure 14 (.free 15 (.free 16 (.pure 17 (.pure 21 (.free 22 (.free 23 (.pure 24 (.free 26 (.pure 27 (.pure 31 (.free 32 (.free 33 (.pure 34 (.free 36 (.pure 37 (.free 38 (.run 39 (.swi [] (.free 40 (.free 41 (.fin)))))))))))))))))))))))))))))))))))))))))))) [39,40,41] (fun w' => w'.cell? ⟨h.p,0,none⟩ = some (.pointer (some ⟨h.a.p,0,none⟩)) ∧ w'.cell? ⟨h.a.p,3,none⟩ = some (.slice (some ⟨g,o,none⟩) 12 cap) ∧ w'.cell? ⟨g,o + c,none⟩ = some (.int .i64 vc) ∧ w'.cell? ⟨g,o + a,none⟩ = some (.int .i64 va) ∧ w'.cell? ⟨h.a.p,2,none⟩ = some (.pointer (some ⟨h.a.ps,0,none⟩))) (by kernel_rfl) (by kernel_rfl) ⟨b0,q3,gc,ga,q2⟩ ?_
  iterate 39 first | (refine wpRO_free rfl rfl _ (fun w' => by go_simp; exact Gives.mk _ _) (fun K hK => ?_); go_simp; refine hK _ ?_; clear hK K) | (refine wpRO_skipF rfl rfl (fun K hK => ?_); go_simp; refine hK _ ?_; clear hK K) | (refine wpRO_pure rfl rfl _ (fun w' hG => by obtain ⟨b0,q3,gc,ga,q2⟩ := hG; exact gives_agg2 rfl (by decide +kernel) rfl (by assumption) (by assumption)) (fun K hK => ?_); go_simp; refine hK _ ?_; clear hK K) | (refine wpRO_pure rfl rfl _ (fun w' hG => by obtain ⟨b0,q3,gc,ga,q2⟩ := hG; go_simp; exact Gives.mk _ _) (fun K hK => ?_); go_simp; refine hK _ ?_; clear hK K) | (refine wpRO_skip rfl rfl (fun K hK => ?_); go_simp; refine hK _ ?_; clear hK K)
  refine wpRO_chg rfl rfl rfl (fun K hK => ?_); unfold gRun; go_simp
  refine HREG.out.mono ?_
  rintro e5 w5 ⟨rfl,hs5⟩
  refine hK _ _ ?_
  clear hK K
  refine wpRO_swi (fun _ => True) trivial ?_
  iterate 2 first | (refine wpRO_free rfl rfl _ (fun w' => by go_simp; exact Gives.mk _ _) (fun K hK => ?_); go_simp; refine hK _ ?_; clear hK K) | (refine wpRO_skipF rfl rfl (fun K hK => ?_); go_simp; refine hK _ ?_; clear hK K)
  refine wpRO_fin ?_
  have hto := BothTo.wood (HB3.out.same (Keeps.refl (fun _ => False) w3).drew) ((HB3.out.H.keep (Keeps.refl (fun _ => False) w3).drew (fun _ _ h => h)).sideTo hs5 HOK.out)
  obtain ⟨h4,B4,ep,k4,o4⟩ := BothTo.from_keep K3.out.drew hto
  have HB4 := Lib.hid B4; have K4 := Lib.hid k4; have O4 := Lib.hid o4; have EP := Lib.hid ep
  clear hto B4 k4 o4 hs5 b0 b1 bl q0 q2 q3 ql gl gf gc ga
  obtain ⟨b0,b1,bl⟩ := HB4.out.pcells
  rw [ep] at b0 b1 bl
  clear ep
  go_wp2_with fail
  refine (HDO2.out _ _ HB4.out.R).mono ?_
  rintro e6 w6 ⟨rfl,ht⟩
  have TO := Lib.hid (BothTo.world HB4.out ht)
  clear ht b0 b1 bl
  go_wp2_with fail
  go_ret
  unfold BothDoRet
  rw [HWO2.out,HWD.out]
  refine ⟨by by_cases hz : dc = 0 <;> simp [hz], ?_⟩
  obtain ⟨h6,B6,ep6,k6,o6⟩ := TO.out
  refine ⟨h6,B6,ep6.trans EP.out,K4.out.then k6 O4.out,fun b hb => ?_⟩
  rcases o6 b hb with h1 | h1
  ·exact O4.out b h1
  ·exact .inr (Nat.le_trans K4.out.size h1)
end
end Go.Proofs.Ytjifdalflepcoab
namespace Go.Proofs.Ytjifdalflepcoab
open Go.RowKit
set_option linter.unusedVariables false
set_option linter.unusedSimpArgs false
def Apart (F : Nat → Prop) (p : Nat) (rv wv : Value) : Prop := ∀ k,¬ (F k ∧ SideFp p rv wv k)
structure Liv (P : Program) (p : Nat) (τ : Type) where
 J : World → τ → (Nat → Prop) → Prop
 D : τ → Int → Prop
 DK : τ → Int → Prop
 alive : τ → Int → Bool
 keep : τ → List (Int × Int) → Int → τ × List (Int × Int) × Int
 now : τ → Int → Int
 fa : FuncId
 fk : FuncId
 fn : FuncId
 a1 : Array Value
 a2 : Array Value
 k1 : Array Value
 k2 : Array Value
 n1 : Array Value
 n2 : Array Value
 ea : ∀ (args : Array Value) (w : World),(callFunc fa args).run P w = .ok (.enter fa args) w
 ek : ∀ (args : Array Value) (w : World),(callFunc fk args).run P w = .ok (.enter fk args) w
 en : ∀ (args : Array Value) (w : World),(callFunc fn args).run P w = .ok (.enter fn args) w
 J_keep : ∀ {w w' t F S},J w t F → Keeps S w w' → (∀ k,F k → ¬ S k) → J w' t F
 J_lt : ∀ {w t F k},J w t F → F k → k < w.heap.size
 alive_c : ∀ (w t F x),J w t F → D t x → Calls P fa (a1.push (.int .i64 x) ++ a2) w fun e w' => e = .returned (.bool (alive t x)) ∧ Keeps (fun _ => False) w w'
 now_c : ∀ (w t F x),J w t F → D t x → Calls P fn (n1.push (.int .i64 x) ++ n2) w fun e w' => e = .returned (.int .i64 (now t x)) ∧ Keeps (fun _ => False) w w'
 keep_c : ∀ (w t F rv wv regs wait x),J w t F → SideAt w p rv wv regs wait → Apart F p rv wv → DK t x → (∀ e ∈ wait,D t e.1 ∧ D t e.2) → wait.length ≤ 1000000 →
  Calls P fk (k1.push (.int .i64 x) ++ k2) w fun e w' => e = .returned (.int .i64 (keep t wait x).2.2) ∧ ∃ F',J w' (keep t wait x).1 F' ∧ SideAt w' p rv wv regs (keep t wait x).2.1 ∧ Apart F' p rv wv ∧
   Keeps (fun k => F k ∨ SideFp p rv wv k) w w' ∧ ∀ k,F' k → F k ∨ w.heap.size ≤ k
 DK_D : ∀ {t x},DK t x → D t x
 DK_keep : ∀ {t wait x y},DK t x → DK t y → DK (keep t wait x).1 y
 D_keep : ∀ {t wait x y},DK t x → D t y → D (keep t wait x).1 y
 D_new : ∀ {t wait x},DK t x → D (keep t wait x).1 (keep t wait x).2.2
 D_wait : ∀ {t wait x},DK t x → (∀ e ∈ wait,D t e.1 ∧ D t e.2) → ∀ e ∈ (keep t wait x).2.1,D (keep t wait x).1 e.1 ∧ D (keep t wait x).1 e.2
 keep_len : ∀ {t wait x},(keep t wait x).2.1.length = wait.length
def Liv.val {P : Program} {p : Nat} {τ : Type} (L : Liv P p τ) : Value :=
 .agg #[.func (.func L.fa) L.a1 L.a2, .func (.func L.fk) L.k1 L.k2, .func (.func L.fn) L.n1 L.n2]
variable {τ : Type}
theorem entV_app (a b : List (Int × Int)) : entV (a ++ b) = entV a ++ entV b := by simp [entV]
theorem entV_set (pre rest : List (Int × Int)) (v : Int × Int) (x : Int) : entV (pre ++ (v.1,x) :: rest) = (entV (pre ++ v :: rest)).set (pre.length * 2 + 1) (.int .i64 x) := by
 rw [entV_app,entV_app,entV_cons,entV_cons,List.set_append_right _ _ (by rw [entV_length]; omega),entV_length,show pre.length * 2 + 1 - pre.length * 2 = 1 by omega]
 rfl
theorem SideAt.setThing {w : World} {p g o cap n : Nat} {rv : Value} {regs pre rest : List (Int × Int)} {v : Int × Int} (x : Int) (h : SideAt w p rv (.slice (some ⟨g,o,none⟩) n cap) regs (pre ++ v :: rest)) :
  SideAt (w.setCell ⟨g,o + pre.length * 2 + 1,none⟩ (.int .i64 x)) p rv (.slice (some ⟨g,o,none⟩) n cap) regs (pre ++ (v.1,x) :: rest) := by
 have hpg : p ≠ g := fun e => h.pw (by subst e; rfl)
 have hk := (Keeps.refl (· = g) w).setCell (p := ⟨g,o + pre.length * 2 + 1,none⟩) (.inl rfl) (.int .i64 x)
 refine ⟨h.hp.setOther (a := ⟨g,_,none⟩) hpg _,h.hr.keep hk (by rintro b hb rfl; exact h.ap b ⟨hb,rfl⟩), ?_,h.ap⟩
 have hlen : (pre ++ (v.1,x) :: rest).length = (pre ++ v :: rest).length := by simp
 obtain ⟨g',o',cap',cur,e,hb,h1,h2,h3,h4⟩ := h.hw.laid (by simp; omega)
 cases e
 rw [hlen]
 refine ⟨by rw [entV_length,hlen], .inr ⟨g,o,cap,_,rfl,hb.setSame _ _,h1,h2,by simpa using h3, ?_⟩⟩
 rw [entV_set, ← h4]
 apply List.ext_getElem?
 intro j
 simp only [List.getElem?_take,List.getElem?_drop,List.getElem?_set,List.length_set,List.length_take,List.length_drop]
 by_cases hj : j < (pre ++ v :: rest).length * 2
 ·rw [if_pos hj,if_pos hj]
  by_cases e : pre.length * 2 + 1 = j
  ·subst e
   have hl : (pre ++ v :: rest).length = pre.length + 1 + rest.length := by simp; omega
   rw [if_pos (by omega),if_pos rfl,if_pos (by omega),if_pos (by omega)]
  ·rw [if_neg (by omega),if_neg e]
 ·rw [if_neg hj]
  by_cases e : pre.length * 2 + 1 = j
  ·rw [if_pos e,if_neg (by omega)]
  ·rw [if_neg e,if_neg hj]
def WakeIn {P : Program} {p : Nat} (L : Liv P p τ) (kp : τ → Int → τ × Int) (t : τ) (F : Nat → Prop) (rv wv : Value) (regs wait : List (Int × Int)) (w wr : World) (k : Nat) (woke : Bool) : Prop :=
 ∃ tk Fk pre,pre.length = k ∧ L.J wr tk Fk ∧ SideAt wr p rv wv regs (pre ++ wait.drop k) ∧ Apart Fk p rv wv ∧ Keeps (fun b => F b ∨ SideFp p rv wv b) w wr ∧ (∀ b,Fk b → F b ∨ w.heap.size ≤ b) ∧
  (∀ e ∈ pre ++ wait.drop k,L.D tk e.1 ∧ L.D tk e.2) ∧
  wakeM L.alive kp t wait = ((wakeM L.alive kp tk (wait.drop k)).1,pre ++ (wakeM L.alive kp tk (wait.drop k)).2.1,woke || (wakeM L.alive kp tk (wait.drop k)).2.2)
def WakeTo {P : Program} {p : Nat} (L : Liv P p τ) (kp : τ → Int → τ × Int) (t : τ) (F : Nat → Prop) (rv wv : Value) (regs wait : List (Int × Int)) (w : World) (e : Ending) (w' : World) : Prop :=
 e = .returned (.bool (wakeM L.alive kp t wait).2.2) ∧ ∃ F',L.J w' (wakeM L.alive kp t wait).1 F' ∧ SideAt w' p rv wv regs (wakeM L.alive kp t wait).2.1 ∧ Apart F' p rv wv ∧ Keeps (fun b => F b ∨ SideFp p rv wv b) w w' ∧ (∀ b,F' b → F b ∨ w.heap.size ≤ b) ∧
  (∀ e ∈ (wakeM L.alive kp t wait).2.1,L.D (wakeM L.alive kp t wait).1 e.1 ∧ L.D (wakeM L.alive kp t wait).1 e.2)
theorem WakeIn.skip {P : Program} {p : Nat} {L : Liv P p τ} {kp : τ → Int → τ × Int} {t tk : τ} {F Fk : Nat → Prop} {rv wv : Value} {regs wait pre : List (Int × Int)} {v : Int × Int} {w wr w2 : World} {k : Nat} {woke : Bool}
  (hpk : pre.length = k) (hdr : wait.drop k = v :: wait.drop (k + 1)) (hJ : L.J wr tk Fk) (hS : SideAt wr p rv wv regs (pre ++ v :: wait.drop (k + 1))) (hA : Apart Fk p rv wv) (hK : Keeps (fun b => F b ∨ SideFp p rv wv b) w wr) (hF : ∀ b,Fk b → F b ∨ w.heap.size ≤ b)
  (hD : ∀ e ∈ pre ++ v :: wait.drop (k + 1),L.D tk e.1 ∧ L.D tk e.2)
  (hM : wakeM L.alive kp t wait = ((wakeM L.alive kp tk (v :: wait.drop (k + 1))).1,pre ++ (wakeM L.alive kp tk (v :: wait.drop (k + 1))).2.1,woke || (wakeM L.alive kp tk (v :: wait.drop (k + 1))).2.2))
  (hk2 : Keeps (fun _ => False) wr w2) (hc : (L.alive tk v.1 && !L.alive tk v.2) = false) : WakeIn L kp t F rv wv regs wait w w2 (k + 1) woke := by
 have e : pre ++ v :: wait.drop (k + 1) = (pre ++ [v]) ++ wait.drop (k + 1) := by simp
 refine ⟨tk,Fk,pre ++ [v],by simp [hpk],L.J_keep hJ hk2 (fun _ _ h => h), ?_,hA,hK.trans (hk2.mono fun _ _ h => h.elim),hF, ?_, ?_⟩
 ·rw [← e]; exact hS.keep hk2 (fun _ _ h => h)
 ·rw [← e]; exact hD
 ·rw [hM]
  simp only [wakeM,hc,if_neg (show ¬ (false = true) by decide),List.append_assoc,List.cons_append,List.nil_append]
theorem WakeIn.kept {P : Program} {p : Nat} {L : Liv P p τ} {kp : τ → Int → τ × Int} {t tk : τ} {F Fk F2 : Nat → Prop} {rv wv : Value} {regs wait pre : List (Int × Int)} {v : Int × Int} {w wr w2 : World} {k : Nat} {woke : Bool}
  (hpk : pre.length = k) (hK : Keeps (fun b => F b ∨ SideFp p rv wv b) w wr) (hF : ∀ b,Fk b → F b ∨ w.heap.size ≤ b)
  (hM : wakeM L.alive kp t wait = ((wakeM L.alive kp tk (v :: wait.drop (k + 1))).1,pre ++ (wakeM L.alive kp tk (v :: wait.drop (k + 1))).2.1,woke || (wakeM L.alive kp tk (v :: wait.drop (k + 1))).2.2))
  (hJ : L.J w2 (kp tk v.2).1 F2) (hS : SideAt w2 p rv wv regs (pre ++ (v.1,(kp tk v.2).2) :: wait.drop (k + 1))) (hA : Apart F2 p rv wv) (hk2 : Keeps (fun b => Fk b ∨ SideFp p rv wv b) wr w2) (hF2 : ∀ b,F2 b → Fk b ∨ wr.heap.size ≤ b)
  (hD : ∀ e ∈ pre ++ (v.1,(kp tk v.2).2) :: wait.drop (k + 1),L.D (kp tk v.2).1 e.1 ∧ L.D (kp tk v.2).1 e.2)
  (hc : (L.alive tk v.1 && !L.alive tk v.2) = true) : WakeIn L kp t F rv wv regs wait w w2 (k + 1) true := by
 have e : pre ++ (v.1,(kp tk v.2).2) :: wait.drop (k + 1) = (pre ++ [(v.1,(kp tk v.2).2)]) ++ wait.drop (k + 1) := by simp
 refine ⟨_,F2,pre ++ [(v.1,(kp tk v.2).2)],by simp [hpk],hJ, ?_,hA,hK.then hk2 ?_, ?_, ?_, ?_⟩
 ·rw [← e]; exact hS
 ·rintro b (h | h)
  ·rcases hF b h with h | h
   ·exact .inl (.inl h)
   ·exact .inr h
  ·exact .inl (.inr h)
 ·intro b hb
  rcases hF2 b hb with h | h
  ·exact hF b h
  ·exact .inr (Nat.le_trans hK.size h)
 ·rw [← e]; exact hD
 ·rw [hM]
  simp only [wakeM,hc,if_true,List.append_assoc,List.cons_append,List.nil_append,Bool.or_true,Bool.true_or]
set_option maxHeartbeats 4000000 in
set_option maxRecDepth 100000 in
theorem Wake_c (p : Nat) (L : Liv Try.prog p τ) (kp : τ → Int → τ × Int) (hsame : ∀ t l x,L.keep t l x = ((kp t x).1,l,(kp t x).2)) (t : τ) (F : Nat → Prop) (rv wv : Value) (regs wait : List (Int × Int)) (w : World)
  (hdk : ∀ t x,L.D t x → L.alive t x = false → L.DK t x) (hJ : L.J w t F) (h : SideAt w p rv wv regs wait) (hap : Apart F p rv wv) (hl : wait.length ≤ 1000000) (hD : ∀ e ∈ wait,L.D t e.1 ∧ L.D t e.2) :
  Calls Try.prog 149 #[.pointer (some ⟨p,0,none⟩),L.val] w fun e w' => WakeTo L kp t F rv wv regs wait w e w' := by
 obtain ⟨wo,wc,rfl,hrd,_,_⟩ := h.hw.rd
 have c1 := h.hp.cell 1
 simp only [List.getElem?_cons_zero,List.getElem?_cons_succ] at c1
 have hpl := h.hp.lt
 have H := Lib.hid h
 have HSM := Lib.hid hsame; have HDK := Lib.hid hdk; have HJ := Lib.hid hJ; have HA := Lib.hid hap; have HD := Lib.hid hD
 clear h hrd hsame hdk hJ hap hD
 have ea := L.ea; have ek := L.ek; have en := L.en
 generalize hbox : w.alloc (.cells #[.func (.func L.fa) L.a1 L.a2, .func (.func L.fk) L.k1 L.k2, .func (.func L.fn) L.n1 L.n2] 178) = wb
 have hkb : Keeps (fun b => F b ∨ SideFp p rv (.slice wo wait.length wc) b) w wb := by rw [← hbox]; exact (Keeps.refl _ _).alloc _
 have hbb : Blk wb w.heap.size [.func (.func L.fa) L.a1 L.a2, .func (.func L.fk) L.k1 L.k2, .func (.func L.fn) L.n1 L.n2] 178 := by rw [← hbox]; exact Blk.newAt _ rfl rfl
 have hszb : wb.heap.size = w.heap.size + 1 := by rw [← hbox]; simp
 have hkb0 : Keeps (fun _ => False) w wb := by rw [← hbox]; exact (Keeps.refl _ _).alloc _
 have HI : WakeIn L kp t F rv (.slice wo wait.length wc) regs wait wb wb 0 false :=
  ⟨t,F,[],rfl,L.J_keep HJ.out hkb0 (fun _ _ h => h),H.out.keep hkb0 (fun _ _ h => h),HA.out,Keeps.refl _ _,fun b hb => .inl hb,by simpa using HD.out,by simp⟩
 have HKB := Lib.hid hkb; have HBB := Lib.hid hbb; have HSZ := Lib.hid hszb; have HBX := Lib.hid hbox
 clear hkb hbb hszb hkb0 hbox
 unfold Liv.val
 go_enter Try.func149,Try.ntmps149
 go_wp2_with fail
 rw [HBX.out]
 go_loopw [5,14] (fun v i wr => ∃ (k : Nat) (woke : Bool),k ≤ wait.length ∧ i = .int .i64 k ∧ v = .bool woke ∧ WakeIn L kp t F rv (.slice wo wait.length wc) regs wait wb wr k woke) (fun _ i _ => wait.length - (intOf i).toNat)
 case atStart => exact ⟨0,false,Nat.zero_le _,rfl,rfl,HI⟩
 case round =>
  clear HI c1
  obtain ⟨k,woke,hk,rfl,rfl,tk,Fk,pre,hpk,hJ,hS,hA,hK,hFk,hDk,hM⟩ := hrel
  have GJ := Lib.hid hJ; have GS := Lib.hid hS; have GA := Lib.hid hA; have GK := Lib.hid hK; have GF := Lib.hid hFk; have GD := Lib.hid hDk; have GM := Lib.hid hM; have GP := Lib.hid hpk
  clear hJ hS hA hK hFk hDk hM hpk
  by_cases hlt : k < wait.length
  ·have hdr : wait.drop k = wait.getD k (0,0) :: wait.drop (k + 1) := by
    rw [List.drop_eq_getElem_cons hlt]; simp [List.getD,hlt]
   have hm := GM.out; have hs := GS.out; have hd := GD.out
   have HDR := Lib.hid hdr
   rw [hdr] at hm hs hd
   have hvd := hd (wait.getD k (0,0)) (by simp)
   have hgt : (pre ++ wait.getD k (0,0) :: wait.drop (k + 1)).getD k (0,0) = wait.getD k (0,0) := by
    simp [List.getD,GP.out]
   have hln : (pre ++ wait.getD k (0,0) :: wait.drop (k + 1)).length = wait.length := by simp [GP.out]; omega
   generalize wait.getD k (0,0) = v at *
   obtain ⟨g,o,cap,cur,he,hb,_,_,_,_⟩ := hs.hw.laid (by omega)
   rw [hln] at he
   cases he
   obtain ⟨_,_,e',hrd,_,_⟩ := hs.hw.rd
   rw [hln] at e'
   cases e'
   obtain ⟨g',o',e',hgl,d0,d1⟩ := hrd.ent k (by omega)
   cases e'
   rw [hgt] at d0 d1
   have hbw : w.heap.size < wb.heap.size := by rw [HSZ.out]; omega
   have hbn : ∀ b,(F b ∨ SideFp p rv (.slice (some ⟨g,o,none⟩) wait.length wc) b) → ¬ b = w.heap.size := by
    rintro b (h | h) rfl
    ·have := L.J_lt HJ.out h; omega
    ·have := H.out.fp_lt h; omega
   have hbx : Blk wr w.heap.size _ _ := GK.out.blk HBB.out (fun h => hbn _ h rfl)
   have HX := Lib.hid hbx; have HM := Lib.hid hm; have HS := Lib.hid hs; have HD := Lib.hid hd; have HV := Lib.hid hvd; have HN := Lib.hid hbn
   have b0 := hbx.cell 0; have b1 := hbx.cell 1
   have bl := hbx.lt
   simp only [List.getElem?_cons_zero,List.getElem?_cons_succ] at b0 b1
   clear hm hs hd hvd hbx hbn hb hrd hgt hdr
   have ALL : Hid (∀ w2,Keeps (fun _ => False) wr w2 → (L.alive tk v.1 && !L.alive tk v.2) = false → WakeIn L kp t F rv (.slice (some ⟨g,o,none⟩) wait.length wc) regs wait wb w2 (k + 1) woke) := fun w2 h1 h2 => WakeIn.skip GP.out HDR.out GJ.out HS.out GA.out GK.out GF.out HD.out HM.out h1 h2
   go_wp2_with fail
   have hk0 := (Keeps.refl (fun _ => False) wr).alloc (.cells #[Value.int IntKind.i64 v.fst,Value.int IntKind.i64 v.snd] 170)
   refine (L.alive_c _ tk Fk v.1 (L.J_keep GJ.out hk0 (fun _ _ h => h)) HV.out.1).mono ?_
   rintro e w1 ⟨rfl,hk1⟩
   have HK1 := Lib.hid (hk0.trans hk1)
   have HE1 := Lib.hid (hk1.blk (Blk.newAt (w := wr) _ rfl rfl) (fun h => h))
   have x0 := (HK1.out.blk HX.out (fun h => h)).cell 0
   have xl := (HK1.out.blk HX.out (fun h => h)).lt
   have e1 := HE1.out.cell 1
   have el := HE1.out.lt
   simp only [List.getElem?_cons_zero,List.getElem?_cons_succ] at x0 e1
   clear hk0 hk1
   cases ha : L.alive tk v.1
   ·go_wp2_with fail
    go_roundw
    case rel => exact ⟨k + 1,woke,by omega,by go_num,rfl,ALL.out _ HK1.out (by rw [ha]; rfl)⟩
    case measure => simp [intOf]; omega
   ·go_wp2_with fail
    refine (L.alive_c _ tk Fk v.2 (L.J_keep GJ.out HK1.out (fun _ _ h => h)) HV.out.2).mono ?_
    rintro e w2 ⟨rfl,hk2⟩
    have HK2 := Lib.hid (HK1.out.trans hk2)
    have HE2 := Lib.hid (hk2.blk HE1.out (fun h => h))
    clear x0 xl e1 el
    have x0 := (HK2.out.blk HX.out (fun h => h)).cell 1
    have xl := (HK2.out.blk HX.out (fun h => h)).lt
    have e1 := HE2.out.cell 1
    have el := HE2.out.lt
    simp only [List.getElem?_cons_zero,List.getElem?_cons_succ] at x0 e1
    clear hk2
    cases hb : L.alive tk v.2
    ·go_wp2_with fail
     refine (L.keep_c _ tk Fk rv _ regs _ v.2 (L.J_keep GJ.out HK2.out (fun _ _ h => h)) (HS.out.keep HK2.out (fun _ _ h => h)) GA.out (HDK.out _ _ HV.out.2 hb) HD.out (by omega)).mono ?_
     rintro e w3 ⟨rfl,F3,hJ3,hS3,hA3,hk3,hF3⟩
     have hdk : ∀ e ∈ pre ++ v :: wait.drop (k + 1),L.D (kp tk v.2).1 e.1 ∧ L.D (kp tk v.2).1 e.2 := by
      intro e he
      have := HD.out e he
      have a1 := L.D_keep (wait := pre ++ v :: wait.drop (k + 1)) (HDK.out _ _ HV.out.2 hb) this.1
      have a2 := L.D_keep (wait := pre ++ v :: wait.drop (k + 1)) (HDK.out _ _ HV.out.2 hb) this.2
      rw [HSM.out] at a1 a2
      exact ⟨a1,a2⟩
     have hdn := L.D_new (wait := pre ++ v :: wait.drop (k + 1)) (HDK.out _ _ HV.out.2 hb)
     have e3 : (L.keep tk (pre ++ v :: wait.drop (k + 1)) v.2).2.2 = (kp tk v.2).2 := by rw [HSM.out]
     rw [e3]
     rw [HSM.out] at hJ3 hS3 hdn
     replace hJ3 : L.J w3 (kp tk v.2).1 F3 := hJ3
     replace hS3 : SideAt w3 p rv (.slice (some ⟨g,o,none⟩) wait.length wc) regs (pre ++ v :: wait.drop (k + 1)) := hS3
     replace hdn : L.D (kp tk v.2).1 (kp tk v.2).2 := hdn
     clear e3
     have hpg : p ≠ g := fun e => hS3.pw (by subst e; rfl)
     obtain ⟨g3,o3,cap3,cur3,he3,hb3,_,_,_,_⟩ := hS3.hw.laid (by omega)
     rw [hln] at he3
     cases he3
     have HS3 := Lib.hid (hS3.setThing (kp tk v.2).2)
     have hk3' : Keeps (fun b => Fk b ∨ SideFp p rv (.slice (some ⟨g,o,none⟩) wait.length wc) b) wr w3 := (HK2.out.mono fun _ _ h => h.elim).trans hk3
     have HF3 : Hid (∀ b,F3 b → Fk b ∨ wr.heap.size ≤ b) := fun b hb => by
      rcases hF3 b hb with h | h
      ·exact .inl h
      ·exact .inr (Nat.le_trans HK2.out.size h)
     have hng : ¬ F3 g := fun h => hA3 g ⟨h, .inr (.inr rfl)⟩
     have HJ3 := Lib.hid (L.J_keep hJ3 ((Keeps.refl (· = g) w3).setCell (p := ⟨g,o + pre.length * 2 + 1,none⟩) (.inl rfl) (.int .i64 (kp tk v.2).2)) (by rintro b hb rfl; exact hng hb))
     have HK3 := Lib.hid (hk3'.setCell (p := ⟨g,o + pre.length * 2 + 1,none⟩) (.inl (.inr (.inr (.inr rfl)))) (.int .i64 (kp tk v.2).2))
     have HA3 := Lib.hid hA3
     have p1 := hS3.hp.cell 1
     have fz := hb3.free (o + k * 2 + 1)
     obtain ⟨_,_,e3,hrd3,_,_⟩ := hS3.hw.rd
     rw [hln] at e3
     cases e3
     obtain ⟨g3,o3,e3,_,q0,q1⟩ := hrd3.ent k (by omega)
     cases e3
     have gl := hb3.lt
     have pl := hS3.hp.lt
     simp only [List.getElem?_cons_zero,List.getElem?_cons_succ] at p1
     rw [GP.out] at HJ3 HK3 HS3
     have HDN : Hid (∀ e ∈ pre ++ (v.1,(kp tk v.2).2) :: wait.drop (k + 1),L.D (kp tk v.2).1 e.1 ∧ L.D (kp tk v.2).1 e.2) := by
      intro e he
      simp only [List.mem_append,List.mem_cons] at he
      rcases he with he | rfl | he
      ·exact hdk e (by simp [he])
      ·exact ⟨(hdk v (by simp)).1,hdn⟩
      ·exact hdk e (by simp [he])
     have HX3 : Hid (w.heap.size < w3.heap.size) := Nat.lt_of_lt_of_le xl hk3.size
     have hx3 := HX3.out
     clear hrd3 hJ3 hS3 hA3 hk3 hF3 hdk hdn hk3' hng hb3 x0 xl e1 el
     clear HX3
     go_wp2_with fail
     go_roundw
     case rel => exact ⟨k + 1,true,by omega,by go_num,rfl,WakeIn.kept GP.out GK.out GF.out HM.out HJ3.out HS3.out HA3.out HK3.out HF3.out HDN.out (by rw [ha,hb]; rfl)⟩
     case measure => simp [intOf]; omega
    ·go_wp2_with fail
     go_roundw
     case rel => exact ⟨k + 1,woke,by omega,by go_num,rfl,ALL.out _ HK2.out (by rw [ha,hb]; rfl)⟩
     case measure => simp [intOf]; omega
  ·obtain rfl : k = wait.length := by omega
   go_wp2_with fail
   go_ret
   have hm := GM.out
   have hs := GS.out
   have hd := GD.out
   rw [List.drop_length] at hm hs hd
   simp only [wakeM,List.append_nil,Bool.or_false] at hm hs hd
   refine ⟨by rw [hm]; rfl,Fk,by rw [hm]; exact GJ.out,by rw [hm]; exact hs,GA.out,HKB.out.trans GK.out,fun b hb => ?_,by rw [hm]; exact hd⟩
   rcases GF.out b hb with h | h
   ·exact .inl h
   ·exact .inr (by rw [HSZ.out] at h; omega)
end Go.Proofs.Ytjifdalflepcoab
namespace Go.Proofs.Ytjifdalflepcoab
open Go.RowKit
set_option linter.unusedVariables false
set_option linter.unusedSimpArgs false
variable {τ : Type}
def cntF (w : World) (b : Nat) : Nat := match w.heap[b]? with
 | some (.cells c _ _) => (c.toList.filter fun v => match v with | .bool false => true | _ => false).length
 | _ => 0
theorem cntF_blk {w : World} {b : Nat} {l : List It} {T : TypeId} (h : Blk w b (l.map fun i => .bool i.2.2) T) : cntF w b = unN l := by
 unfold Blk at h
 unfold cntF unN
 rw [h]
 simp only [List.filter_map,List.length_map]
 congr 2
 funext i
 simp only [Function.comp]
 cases i.2.2 <;> rfl
def Liv.cells {P : Program} {p : Nat} (L : Liv P p τ) : List Value := [.func (.func L.fa) L.a1 L.a2, .func (.func L.fk) L.k1 L.k2, .func (.func L.fn) L.n1 L.n2]
structure Mid {P : Program} {p : Nat} (L : Liv P p τ) (w : World) (F : Nat → Prop) (rv wv : Value) (b0 b1 b2 : Nat) (items : List It) (q : List (Int × Int)) (t' : τ) (F' : Nat → Prop) (wv' : Value) (wr : World) : Prop where
 hJ : L.J wr t' F'
 hS : SideAt wr p rv wv' (items.map (·.1)) q
 hA : Apart F' p rv wv'
 hK : Keeps (fun b => F b ∨ SideFp p rv wv b) w wr
 hF : ∀ b,F' b → F b ∨ w.heap.size ≤ b
 hO : ∀ b,ownB wv' b → ownB wv b ∨ w.heap.size ≤ b
 h0 : Blk wr b0 L.cells 178
 h1 : Blk wr b1 (items.map fun i => .bool i.2.1) 4
 h2 : Blk wr b2 (items.map fun i => .bool i.2.2) 4
 n0 : ¬ F' b0
 n1 : ¬ F' b1
 n2 : ¬ F' b2
 g0 : w.heap.size ≤ b0
 g1 : w.heap.size ≤ b1
 g2 : w.heap.size ≤ b2
 b12 : b1 ≠ b2
 hq : ∀ e ∈ q,L.D t' e.1 ∧ L.D t' e.2
 hr : ∀ i ∈ items,L.D t' i.1.1 ∧ L.DK t' i.1.2
theorem SideAt.nfp {w : World} {p b : Nat} {rv wv : Value} {regs wait : List (Int × Int)} {c : List Value} {T : TypeId} (h : SideAt w p rv wv regs wait) (hb : Blk w b c T) (h1 : T ≠ 129) (h2 : T ≠ 170) : ¬ SideFp p rv wv b := by
 rintro (rfl | h' | h')
 ·exact hb.ne h.hp h1 rfl
 ·obtain ⟨_,cur,hc⟩ := h.hr.own h'
  exact hb.ne hc h2 rfl
 ·obtain ⟨_,cur,hc⟩ := h.hw.own h'
  exact hb.ne hc h2 rfl
section
variable {P : Program} {p : Nat} {L : Liv P p τ} {w : World} {F : Nat → Prop} {rv wv : Value} {b0 b1 b2 : Nat} {items : List It} {q : List (Int × Int)} {t' : τ} {F' : Nat → Prop} {wv' : Value} {wr : World}
theorem Mid.keep {w2 : World} (h : Mid L w F rv wv b0 b1 b2 items q t' F' wv' wr) (k : Keeps (fun _ => False) wr w2) : Mid L w F rv wv b0 b1 b2 items q t' F' wv' w2 :=
 ⟨L.J_keep h.hJ k (fun _ _ h => h),h.hS.keep k (fun _ _ h => h),h.hA,h.hK.trans (k.mono fun _ _ h => h.elim),h.hF,h.hO,k.blk h.h0 (fun h => h),k.blk h.h1 (fun h => h),k.blk h.h2 (fun h => h),h.n0,h.n1,h.n2,h.g0,h.g1,h.g2,h.b12,h.hq,h.hr⟩
theorem Mid.move {i : It} {a b : List It} (h : Mid L w F rv wv b0 b1 b2 (a ++ i :: b) q t' F' wv' wr) : Mid L w F rv wv b0 b1 b2 (a ++ (i.1,i.2.1,true) :: b) q t' F' wv' (wr.setCell ⟨b2,a.length,none⟩ (.bool true)) := by
 have k := (Keeps.refl (· = b2) wr).setCell (p := ⟨b2,a.length,none⟩) (.inl rfl) (.bool true)
 have hn : ¬ SideFp p rv wv' b2 := h.hS.nfp h.h2 (by decide) (by decide)
 refine ⟨L.J_keep h.hJ k (by rintro b hb rfl; exact h.n2 hb), ?_,h.hA,h.hK.setCell (p := ⟨b2,a.length,none⟩) (.inr h.g2) _,h.hF,h.hO,k.blk h.h0 (fun e => ?_), ?_, ?_,h.n0,h.n1,h.n2,h.g0,h.g1,h.g2,h.b12,h.hq, ?_⟩
 ·have := h.hS.keep k (by rintro b hb rfl; exact hn hb)
  simpa using this
 ·subst e; exact h.h0.ne h.h2 (by decide) rfl
 ·have := k.blk h.h1 h.b12
  simpa using this
 ·have := h.h2.setSame a.length (.bool true)
  simpa using this
 ·intro j hj
  simp only [List.mem_append,List.mem_cons] at hj
  rcases hj with hj | rfl | hj
  ·exact h.hr j (by simp [hj])
  ·exact h.hr i (by simp)
  ·exact h.hr j (by simp [hj])
theorem Mid.kept {x : Int} {w2 : World} {F2 : Nat → Prop} (h : Mid L w F rv wv b0 b1 b2 items q t' F' wv' wr) (hx : L.DK t' x)
  (hJ : L.J w2 (L.keep t' q x).1 F2) (hS : SideAt w2 p rv wv' (items.map (·.1)) (L.keep t' q x).2.1) (hA : Apart F2 p rv wv') (hk : Keeps (fun k => F' k ∨ SideFp p rv wv' k) wr w2) (hF2 : ∀ k,F2 k → F' k ∨ wr.heap.size ≤ k) :
  Mid L w F rv wv b0 b1 b2 items (L.keep t' q x).2.1 (L.keep t' q x).1 F2 wv' w2 := by
 have out : ∀ {b : Nat} {c : List Value} {T : TypeId},Blk wr b c T → ¬ F' b → T ≠ 129 → T ≠ 170 → Blk w2 b c T ∧ ¬ F2 b := fun {b c T} hb hn h1 h2 =>
  ⟨hk.blk hb (by rintro (h3 | h3); exact hn h3; exact h.hS.nfp hb h1 h2 h3),fun h3 => by
   rcases hF2 _ h3 with h4 | h4
   ·exact hn h4
   ·have := hb.lt; omega⟩
 refine ⟨hJ,hS,hA,h.hK.then hk ?_, ?_,h.hO,(out h.h0 h.n0 (by decide) (by decide)).1,(out h.h1 h.n1 (by decide) (by decide)).1,(out h.h2 h.n2 (by decide) (by decide)).1,
  (out h.h0 h.n0 (by decide) (by decide)).2,(out h.h1 h.n1 (by decide) (by decide)).2,(out h.h2 h.n2 (by decide) (by decide)).2,h.g0,h.g1,h.g2,h.b12,L.D_wait hx h.hq,fun i hi => ⟨L.D_keep hx (h.hr i hi).1,L.DK_keep hx (h.hr i hi).2⟩⟩
 ·rintro b (hb | hb | hb | hb)
  ·rcases h.hF b hb with h1 | h1
   ·exact .inl (.inl h1)
   ·exact .inr h1
  ·exact .inl (.inr (.inl hb))
  ·exact .inl (.inr (.inr (.inl hb)))
  ·rcases h.hO b hb with h1 | h1
   ·exact .inl (.inr (.inr (.inr h1)))
   ·exact .inr h1
 ·intro b hb
  rcases hF2 b hb with h1 | h1
  ·exact h.hF b h1
  ·exact .inr (Nat.le_trans h.hK.size h1)
theorem Mid.app {e : Int × Int} {w2 : World} {v2 : Value} (h : Mid L w F rv wv b0 b1 b2 items q t' F' wv' wr) (he : L.D t' e.1 ∧ L.D t' e.2)
  (hs : Sl w2 170 2 v2 (q ++ [e]).length (entV (q ++ [e]))) (hk : Keeps (ownB wv') wr w2) (ho : ∀ k,ownB v2 k → ownB wv' k ∨ wr.heap.size ≤ k) :
  Mid L w F rv wv b0 b1 b2 items (q ++ [e]) t' F' v2 (w2.setCell ⟨p,1,none⟩ v2) := by
 have hkp := (Keeps.refl (· = p) w2).setCell (p := ⟨p,1,none⟩) (.inl rfl) v2
 have hpw := h.hS.pw
 have hp2 := hk.blk h.hS.hp hpw
 have hFp : ¬ F' p := fun hb => h.hA p ⟨hb, .inl rfl⟩
 have out : ∀ {b : Nat} {c : List Value} {T : TypeId},Blk wr b c T → T ≠ 129 → T ≠ 170 → Blk (w2.setCell ⟨p,1,none⟩ v2) b c T := fun {b c T} hb h1 h2 => by
  have hn := h.hS.nfp hb h1 h2
  exact hkp.blk (hk.blk hb (fun h3 => hn (.inr (.inr h3)))) (fun h3 => hn (.inl h3))
 have hv2p : ¬ ownB v2 p := fun hb => by
  obtain ⟨_,cur,hc⟩ := hs.own hb
  exact hp2.ne hc (by decide) rfl
 refine ⟨L.J_keep (L.J_keep h.hJ hk (fun b hb h1 => h.hA b ⟨hb, .inr (.inr h1)⟩)) hkp (by rintro b hb rfl; exact hFp hb),⟨by simpa using hp2.setSame 1 v2, ?_, ?_, ?_⟩, ?_, ?_,h.hF, ?_,out h.h0 (by decide) (by decide),out h.h1 (by decide) (by decide),out h.h2 (by decide) (by decide),
  h.n0,h.n1,h.n2,h.g0,h.g1,h.g2,h.b12, ?_,h.hr⟩
 ·exact (h.hS.hr.keep hk (fun b hb h1 => h.hS.ap b ⟨hb,h1⟩)).keep hkp (by rintro b hb rfl; exact h.hS.pr hb)
 ·exact hs.keep hkp (by rintro b hb rfl; exact hv2p hb)
 ·rintro b ⟨h1,h2⟩
  rcases ho b h2 with h3 | h3
  ·exact h.hS.ap b ⟨h1,h3⟩
  ·have := (h.hS.hr.own h1).1; omega
 ·rintro b ⟨h1,h2 | h2 | h2⟩
  ·exact h.hA b ⟨h1, .inl h2⟩
  ·exact h.hA b ⟨h1, .inr (.inl h2)⟩
  ·rcases ho b h2 with h3 | h3
   ·exact h.hA b ⟨h1, .inr (.inr h3)⟩
   ·have := L.J_lt h.hJ h1; omega
 ·refine (h.hK.then hk (fun b hb => ?_)).setCell (p := ⟨p,1,none⟩) (.inl (.inr (.inl rfl))) _
  rcases h.hO b hb with h1 | h1
  ·exact .inl (.inr (.inr (.inr h1)))
  ·exact .inr h1
 ·intro b hb
  rcases ho b hb with h1 | h1
  ·exact h.hO b h1
  ·exact .inr (Nat.le_trans h.hK.size h1)
 ·intro e' he'
  simp only [List.mem_append,List.mem_singleton] at he'
  rcases he' with he' | rfl
  ·exact h.hq _ he'
  ·exact he
end
def ScanIn {P : Program} {p : Nat} (L : Liv P p τ) (w : World) (F : Nat → Prop) (rv wv : Value) (b0 b1 b2 : Nat) (t1 : τ) (q1 : List (Int × Int)) (items : List It) (N : Nat) (wr : World) (k : Nat) (more : Bool) : Prop :=
 ∃ t' q' F' wv' done,done.length = k ∧ Mid L w F rv wv b0 b1 b2 (done ++ items.drop k) q' t' F' wv' wr ∧ q'.length + unN (done ++ items.drop k) ≤ N ∧
  scanM L.alive L.keep t1 q1 items = ((scanM L.alive L.keep t' q' (items.drop k)).1,(scanM L.alive L.keep t' q' (items.drop k)).2.1,done ++ (scanM L.alive L.keep t' q' (items.drop k)).2.2.1,more || (scanM L.alive L.keep t' q' (items.drop k)).2.2.2)
theorem ScanIn.skip {P : Program} {p : Nat} {L : Liv P p τ} {w : World} {F : Nat → Prop} {rv wv : Value} {b0 b1 b2 : Nat} {t1 : τ} {q1 : List (Int × Int)} {items : List It} {N : Nat} {wr w2 : World} {k : Nat} {more : Bool}
  {t' : τ} {q' : List (Int × Int)} {F' : Nat → Prop} {wv' : Value} {done : List It} {i : It} (hd : done.length = k) (hdr : items.drop k = i :: items.drop (k + 1)) (hm : Mid L w F rv wv b0 b1 b2 (done ++ i :: items.drop (k + 1)) q' t' F' wv' wr) (hN : q'.length + unN (done ++ i :: items.drop (k + 1)) ≤ N)
  (he : scanM L.alive L.keep t1 q1 items = ((scanM L.alive L.keep t' q' (i :: items.drop (k + 1))).1,(scanM L.alive L.keep t' q' (i :: items.drop (k + 1))).2.1,done ++ (scanM L.alive L.keep t' q' (i :: items.drop (k + 1))).2.2.1,more || (scanM L.alive L.keep t' q' (i :: items.drop (k + 1))).2.2.2))
  (hk2 : Keeps (fun _ => False) wr w2) (hc : ((i.2.1 && !i.2.2) && L.alive t' i.1.1) = false) : ScanIn L w F rv wv b0 b1 b2 t1 q1 items N w2 (k + 1) more := by
 have e : done ++ i :: items.drop (k + 1) = (done ++ [i]) ++ items.drop (k + 1) := by simp
 refine ⟨t',q',F',wv',done ++ [i],by simp [hd], ?_, ?_, ?_⟩
 ·rw [← e]; exact hm.keep hk2
 ·rw [← e]; exact hN
 ·rw [he]
  simp only [scanM,hc,if_neg (show ¬ (false = true) by decide),List.append_assoc,List.cons_append,List.nil_append]
theorem ScanIn.took {P : Program} {p : Nat} {L : Liv P p τ} {w : World} {F : Nat → Prop} {rv wv : Value} {b0 b1 b2 : Nat} {t1 : τ} {q1 : List (Int × Int)} {items : List It} {N : Nat} {w2 : World} {k : Nat} {more : Bool}
  {t' : τ} {q' : List (Int × Int)} {F2 : Nat → Prop} {v2 : Value} {done : List It} {i : It} (hd : done.length = k) (hN : q'.length + unN (done ++ i :: items.drop (k + 1)) ≤ N)
  (he : scanM L.alive L.keep t1 q1 items = ((scanM L.alive L.keep t' q' (i :: items.drop (k + 1))).1,(scanM L.alive L.keep t' q' (i :: items.drop (k + 1))).2.1,done ++ (scanM L.alive L.keep t' q' (i :: items.drop (k + 1))).2.2.1,more || (scanM L.alive L.keep t' q' (i :: items.drop (k + 1))).2.2.2))
  (hm : Mid L w F rv wv b0 b1 b2 (done ++ (i.1,i.2.1,true) :: items.drop (k + 1)) ((L.keep t' q' i.1.2).2.1 ++ [(i.1.1,(L.keep t' q' i.1.2).2.2)]) (L.keep t' q' i.1.2).1 F2 v2 w2)
  (hc : ((i.2.1 && !i.2.2) && L.alive t' i.1.1) = true) : ScanIn L w F rv wv b0 b1 b2 t1 q1 items N w2 (k + 1) true := by
 have e : done ++ (i.1,i.2.1,true) :: items.drop (k + 1) = (done ++ [(i.1,i.2.1,true)]) ++ items.drop (k + 1) := by simp
 refine ⟨(L.keep t' q' i.1.2).1,(L.keep t' q' i.1.2).2.1 ++ [(i.1.1,(L.keep t' q' i.1.2).2.2)],F2,v2,done ++ [(i.1,i.2.1,true)],by simp [hd], ?_, ?_, ?_⟩
 ·rw [← e]; exact hm
 ·rw [← e]
  simp only [Bool.and_eq_true,Bool.not_eq_true'] at hc
  simp only [List.length_append,L.keep_len,unN_app,unN_cons,hc.1.2] at hN ⊢
  simp at hN ⊢
  omega
 ·rw [he]
  simp only [scanM,hc,if_true,List.append_assoc,List.cons_append,List.nil_append,Bool.or_true,Bool.true_or]
end Go.Proofs.Ytjifdalflepcoab
namespace Go.Proofs.Ytjifdalflepcoab
open Go.RowKit
set_option linter.unusedVariables false
set_option linter.unusedSimpArgs false
variable {τ : Type}
def SettleTo {P : Program} {p : Nat} (L : Liv P p τ) (t : τ) (F : Nat → Prop) (rv wv : Value) (regs wait : List (Int × Int)) (w : World) (e : Ending) (w' : World) : Prop :=
 e = .returned (.tuple #[]) ∧ ∃ F' rv' wv',L.J w' (passM L.alive L.keep t regs wait).1 F' ∧
  SideAt w' p rv' wv' (newRegs L.alive L.now (passM L.alive L.keep t regs wait).1 (passM L.alive L.keep t regs wait).2.2) (newWait L.alive L.now (passM L.alive L.keep t regs wait).1 (passM L.alive L.keep t regs wait).2.1) ∧
  Apart F' p rv' wv' ∧ Keeps (fun b => F b ∨ SideFp p rv wv b) w w' ∧ (∀ b,F' b → F b ∨ w.heap.size ≤ b) ∧ (∀ b,SideFp p rv' wv' b → SideFp p rv wv b ∨ w.heap.size ≤ b)
def MoreIn {P : Program} {p : Nat} (L : Liv P p τ) (w : World) (F : Nat → Prop) (rv wv : Value) (b0 b1 b2 : Nat) (t : τ) (regs wait : List (Int × Int)) (N : Nat) (wr : World) (more : Bool) (items : List It) : Prop :=
 ∃ n t' q' F' wv',Mid L w F rv wv b0 b1 b2 items q' t' F' wv' wr ∧ items.map (·.1) = regs ∧ q'.length + unN items ≤ N ∧ (more = true → unN items < n) ∧
  passM L.alive L.keep t regs wait = if more then roundsM L.alive L.keep n t' q' items else (t',q',items)
def deadL (alive : τ → Int → Bool) (t : τ) (regs : List (Int × Int)) (k : Nat) : List Value := ((regs.take k).map fun e => .bool (!alive t e.2)) ++ List.replicate (regs.length - k) (.bool false)
theorem deadL_set {alive : τ → Int → Bool} {t : τ} {regs : List (Int × Int)} {k : Nat} (h : k < regs.length) : deadL alive t regs (k + 1) = (deadL alive t regs k).set k (.bool (!alive t (regs.getD k (0,0)).2)) := by
 unfold deadL
 rw [List.take_succ_eq_append_getElem h,List.map_append,List.set_append_right _ _ (by simp; omega)]
 have hr : List.replicate (regs.length - k) (Value.bool false) = .bool false :: List.replicate (regs.length - (k + 1)) (.bool false) := by
  rw [show regs.length - k = (regs.length - (k + 1)) + 1 by omega,List.replicate_succ]
 rw [hr]
 have hg : regs.getD k (0,0) = regs[k] := by simp [List.getD,h]
 rw [hg]
 have h0 : k - (List.map (fun e => Value.bool (!alive t e.2)) (regs.take k)).length = 0 := by simp; omega
 rw [h0]
 simp
theorem deadL_length {alive : τ → Int → Bool} {t : τ} {regs : List (Int × Int)} {k : Nat} (h : k ≤ regs.length) : (deadL alive t regs k).length = regs.length := by
 unfold deadL; simp; omega
theorem deadL_full (alive : τ → Int → Bool) (t : τ) (regs : List (Int × Int)) : deadL alive t regs regs.length = (itemsM alive t regs).map fun i => .bool i.2.1 := by
 unfold deadL itemsM; simp
theorem itemsM_fst (alive : τ → Int → Bool) (t : τ) (regs : List (Int × Int)) : (itemsM alive t regs).map (·.1) = regs := by
 simp [itemsM,List.map_map,Function.comp_def]
theorem itemsM_un (alive : τ → Int → Bool) (t : τ) (regs : List (Int × Int)) : unN (itemsM alive t regs) = regs.length := by
 unfold itemsM unN; rw [List.filter_map,List.length_map]
 congr 1
 apply List.filter_eq_self.2
 intro a _; rfl
theorem itemsM_moved (alive : τ → Int → Bool) (t : τ) (regs : List (Int × Int)) : List.replicate regs.length (Value.bool false) = (itemsM alive t regs).map fun i => .bool i.2.2 := by
 unfold itemsM; rw [List.map_map]
 apply List.ext_getElem (by simp)
 intro i h1 h2
 simp
theorem MoreIn.start {P : Program} {p : Nat} {L : Liv P p τ} {w : World} {F : Nat → Prop} {rv wv : Value} {t : τ} {regs wait : List (Int × Int)} {wr wm : World}
  (hJ : L.J w t F) (h : SideAt w p rv wv regs wait) (hap : Apart F p rv wv) (hD1 : ∀ e ∈ regs,L.D t e.1 ∧ L.DK t e.2) (hD : ∀ e ∈ wait,L.D t e.1 ∧ L.D t e.2)
  (hk : Keeps (fun b => w.heap.size ≤ b) w wr) (h0 : Blk wr w.heap.size L.cells 178) (h1 : Blk wr (w.heap.size + 1) (deadL L.alive t regs regs.length) 4)
  (hkm : Keeps (fun _ => False) wr wm) (h2 : Blk wm wr.heap.size (List.replicate regs.length (.bool false)) 4) : MoreIn L w F rv wv w.heap.size (w.heap.size + 1) wr.heap.size t regs wait (wait.length + regs.length) wm true (itemsM L.alive t regs) := by
 have k2 : Keeps (fun b => w.heap.size ≤ b) w wm := hk.trans (hkm.mono fun _ _ h => h.elim)
 have l1 := h1.lt
 have hF : ∀ b,w.heap.size ≤ b → ¬ F b := fun b hb hf => by have := L.J_lt hJ hf; omega
 refine ⟨regs.length + 1,t,wait,F,wv,⟨L.J_keep hJ k2 (fun b hb hw => hF b hw hb), ?_,hap, ?_,fun b hb => .inl hb,fun b hb => .inl hb,hkm.blk h0 (fun h => h), ?_, ?_,hF _ (Nat.le_refl _),hF _ (by omega),hF _ (by omega),Nat.le_refl _,by omega,by omega,by omega,hD, ?_⟩,itemsM_fst _ _ _, ?_, ?_, ?_⟩
 ·rw [itemsM_fst]; exact h.keep k2 (fun b hb hw => by have := h.fp_lt hb; omega)
 ·exact ⟨k2.os,k2.tape,k2.output,k2.size,fun b hb hn => k2.block b hb (by omega)⟩
 ·rw [← deadL_full]; exact hkm.blk h1 (fun h => h)
 ·rw [← itemsM_moved]; exact h2
 ·intro i hi
  unfold itemsM at hi
  simp only [List.mem_map] at hi
  obtain ⟨e,he,rfl⟩ := hi
  exact hD1 e he
 ·rw [itemsM_un]; exact Nat.le_refl _
 ·intro _; rw [itemsM_un]; omega
 ·rfl
theorem MoreIn.next {P : Program} {p : Nat} {L : Liv P p τ} {w : World} {F : Nat → Prop} {rv wv : Value} {b0 b1 b2 : Nat} {t : τ} {regs wait : List (Int × Int)} {N n : Nat} {t' : τ} {q' : List (Int × Int)} {items : List It} {w2 : World} {more : Bool}
  (hf : items.map (·.1) = regs) (hn : unN items < n) (he : passM L.alive L.keep t regs wait = roundsM L.alive L.keep n t' q' items) (hs : ScanIn L w F rv wv b0 b1 b2 t' q' items N w2 regs.length more) :
  ∃ done,MoreIn L w F rv wv b0 b1 b2 t regs wait N w2 more done ∧ unN done ≤ unN items ∧ (more = true → unN done < unN items) ∧ Blk w2 b2 (done.map fun i => .bool i.2.2) 4 := by
 obtain ⟨t2,q2,F2,v2,done,hd,hm,hN,hE⟩ := hs
 have hl : items.length = regs.length := by rw [← hf]; simp
 rw [← hl,List.drop_length,List.append_nil] at hm hN
 rw [← hl,List.drop_length] at hE
 simp only [scanM,List.append_nil,Bool.or_false] at hE
 obtain ⟨m,rfl⟩ : ∃ m,n = m + 1 := ⟨n - 1,by omega⟩
 have hu := scanM_un L.alive L.keep items t' q'
 have hfs := scanM_fst L.alive L.keep items t' q'
 rw [hE] at hu hfs
 simp only at hu hfs
 refine ⟨done,⟨m,t2,q2,F2,v2,hm, ?_,hN,fun h => by have := hu.2 h; omega, ?_⟩,hu.1,hu.2,hm.h2⟩
 ·have := congrArg (List.map (fun x : (Int × Int) × Bool => x.1)) hfs
  simp only [List.map_map] at this
  rw [← hf]
  exact this
 ·rw [he]
  simp only [roundsM,hE]
def bit (v : Value) : Nat := match v with | .bool true => 1 | _ => 0
theorem newRegs_step {alive : τ → Int → Bool} {now : τ → Int → Int} {t : τ} {l : List It} {k : Nat} (h : k < l.length) : newRegs alive now t (l.take (k + 1)) = newRegs alive now t (l.take k) ++ if (!l[k].2.1 && alive t l[k].1.1) = true then [(now t l[k].1.1,now t l[k].1.2)] else [] := by
 unfold newRegs
 rw [List.take_succ_eq_append_getElem h,List.filter_append,List.map_append]
 congr 1
 cases hc : (!l[k].2.1 && alive t l[k].1.1) <;> simp [List.filter_cons,hc]
theorem newRegs_le {alive : τ → Int → Bool} {now : τ → Int → Int} {t : τ} {l : List It} : (newRegs alive now t l).length ≤ l.length := by
 unfold newRegs; rw [List.length_map]; exact List.length_filter_le _ _
theorem newWait_step {alive : τ → Int → Bool} {now : τ → Int → Int} {t : τ} {l : List (Int × Int)} {k : Nat} (h : k < l.length) : newWait alive now t (l.take (k + 1)) = newWait alive now t (l.take k) ++ if alive t (l.getD k (0,0)).1 = true then [(now t (l.getD k (0,0)).1,now t (l.getD k (0,0)).2)] else [] := by
 have hg : l.getD k (0,0) = l[k] := by simp [List.getD,h]
 rw [hg]
 unfold newWait
 rw [List.take_succ_eq_append_getElem h,List.filter_append,List.map_append]
 congr 1
 cases hc : alive t l[k].1 <;> simp [List.filter_cons,hc]
theorem newWait_le {alive : τ → Int → Bool} {now : τ → Int → Int} {t : τ} {l : List (Int × Int)} : (newWait alive now t l).length ≤ l.length := by
 unfold newWait; rw [List.length_map]; exact List.length_filter_le _ _
def NewL (w wr : World) (v : Value) (l : List (Int × Int)) : Prop := Sl wr 170 2 v l.length (entV l) ∧ Keeps (fun _ => False) w wr ∧ ∀ b,ownB v b → w.heap.size ≤ b
theorem NewL.nil (w : World) : NewL w w (.slice none 0 0) [] := ⟨Sl.nil w 170 2,Keeps.refl _ _,by intro k hk; simp [ownB,Value.ownBlock] at hk⟩
theorem NewL.keep {w wr w2 : World} {v : Value} {l : List (Int × Int)} (h : NewL w wr v l) (k : Keeps (fun _ => False) wr w2) : NewL w w2 v l := ⟨h.1.keep k (fun _ _ h => h),h.2.1.trans k,h.2.2⟩
theorem NewL.app {w wr w1 w2 : World} {v v2 : Value} {l : List (Int × Int)} {e : Int × Int} (h : NewL w wr v l) (k1 : Keeps (fun _ => False) wr w1) (hs : Sl w2 170 2 v2 (l.length + 1) (entV l ++ [.int .i64 e.1, .int .i64 e.2])) (hk : Keeps (ownB v) w1 w2) (ho : ∀ b,ownB v2 b → ownB v b ∨ w1.heap.size ≤ b) : NewL w w2 v2 (l ++ [e]) := by
 refine ⟨by simpa [entV] using hs,(h.2.1.trans k1).then hk (fun b hb => .inr (h.2.2 b hb)),fun b hb => ?_⟩
 rcases ho b hb with h1 | h1
 ·exact h.2.2 b h1
 ·exact Nat.le_trans (Nat.le_trans h.2.1.size k1.size) h1
theorem SettleTo.done {P : Program} {p : Nat} {L : Liv P p τ} {w : World} {F : Nat → Prop} {rv wv : Value} {b0 b1 b2 : Nat} {t : τ} {regs wait : List (Int × Int)} {t' : τ} {q' : List (Int × Int)} {items : List It} {F' : Nat → Prop} {wv' : Value} {wr w1 w2 : World} {v1 v2 : Value}
  (he : passM L.alive L.keep t regs wait = (t',q',items)) (h : Mid L w F rv wv b0 b1 b2 items q' t' F' wv' wr) (n1 : NewL wr w1 v1 (newRegs L.alive L.now t' items)) (n2 : NewL w1 w2 v2 (newWait L.alive L.now t' q')) :
  SettleTo L t F rv wv regs wait w (.returned (.tuple #[])) ((w2.setCell ⟨p,0,none⟩ v1).setCell ⟨p,1,none⟩ v2) := by
 have hm2 := (h.keep n1.2.1).keep n2.2.1
 have kset := ((Keeps.refl (· = p) w2).setCell (p := ⟨p,0,none⟩) (.inl rfl) v1).setCell (p := ⟨p,1,none⟩) (.inl rfl) v2
 have hpl := h.hS.hp.lt
 have s1 := n1.2.1.size
 have s0 := h.hK.size
 have o1 : ¬ ownB v1 p := fun hb => by have := n1.2.2 p hb; omega
 have o2 : ¬ ownB v2 p := fun hb => by have := n2.2.2 p hb; omega
 unfold SettleTo
 rw [he]
 refine ⟨rfl,F',v1,v2,L.J_keep hm2.hJ kset (by rintro b hb rfl; exact h.hA b ⟨hb, .inl rfl⟩),⟨by simpa using (hm2.hS.hp.setSame 0 v1).setSame 1 v2,(n1.1.keep n2.2.1 (fun _ _ h => h)).keep kset (by rintro b hb rfl; exact o1 hb),n2.1.keep kset (by rintro b hb rfl; exact o2 hb), ?_⟩, ?_,
  (hm2.hK.setCell (p := ⟨p,0,none⟩) (.inl (.inr (.inl rfl))) v1).setCell (p := ⟨p,1,none⟩) (.inl (.inr (.inl rfl))) v2,h.hF, ?_⟩
 ·rintro b ⟨h1,h2⟩
  have := (n1.1.own h1).1
  have := n2.2.2 b h2
  omega
 ·rintro b ⟨h1,h2 | h2 | h2⟩
  ·exact h.hA b ⟨h1, .inl h2⟩
  ·have := L.J_lt h.hJ h1
   have := n1.2.2 b h2
   omega
  ·have := L.J_lt h.hJ h1
   have := n2.2.2 b h2
   omega
 ·rintro b (h1 | h1 | h1)
  ·exact .inl (.inl h1)
  ·have := n1.2.2 b h1; exact .inr (by omega)
  ·have := n2.2.2 b h1; exact .inr (by omega)
set_option maxHeartbeats 4000000 in
set_option maxRecDepth 100000 in
theorem Settle_c (p : Nat) (L : Liv Try.prog p τ) (t : τ) (F : Nat → Prop) (rv wv : Value) (regs wait : List (Int × Int)) (w : World)
  (hJ : L.J w t F) (h : SideAt w p rv wv regs wait) (hap : Apart F p rv wv) (hl1 : regs.length ≤ 100000) (hl2 : wait.length ≤ 100000) (hD1 : ∀ e ∈ regs,L.D t e.1 ∧ L.DK t e.2) (hD : ∀ e ∈ wait,L.D t e.1 ∧ L.D t e.2) :
  Calls Try.prog 120 #[.pointer (some ⟨p,0,none⟩),L.val] w fun e w' => SettleTo L t F rv wv regs wait w e w' := by
 obtain ⟨ie,hie,hez0,hez1,hez2⟩ := info_parts info_entry
 have Hi := Lib.hid hie; have Hz0 := Lib.hid hez0; have Hz1 := Lib.hid hez1; have Hz2 := Lib.hid hez2; clear hie hez0 hez1 hez2
 obtain ⟨ib,hi,hz0,hz1,hz2⟩ := info_parts info_bool
 have hmk := fun (wx : World) (n : Nat) (h1 : n ≤ 9223372036854775807) (h2 : n ≤ 281474976710656) => run_make_one (P := Try.prog) wx 76 4 ib (.bool false) Try.underlying76 hi hz0 rfl hz1 n (by rw [hz2]; omega) h1
 have HM := Lib.hid hmk; clear hmk hi hz0 hz1 hz2
 have hk := fun (wx : World) => HM.out wx regs.length (by omega) (by omega)
 obtain ⟨ro,rc,rfl,hrd,_,_⟩ := h.hr.rd
 have c0 := h.hp.cell 0
 simp only [List.getElem?_cons_zero,List.getElem?_cons_succ] at c0
 have hpl := h.hp.lt
 have H := Lib.hid h; have HR := Lib.hid hrd
 have HJ := Lib.hid hJ; have HA := Lib.hid hap; have HD := Lib.hid hD; have HD1 := Lib.hid hD1
 clear h hrd hJ hap hD hD1
 have ea := L.ea; have ek := L.ek; have en := L.en
 generalize hbox : w.alloc (.cells #[.func (.func L.fa) L.a1 L.a2, .func (.func L.fk) L.k1 L.k2, .func (.func L.fn) L.n1 L.n2] 178) = wb
 have hkb : Keeps (fun _ => False) w wb := by rw [← hbox]; exact (Keeps.refl _ _).alloc _
 have hbb : Blk wb w.heap.size L.cells 178 := by rw [← hbox]; exact Blk.newAt _ rfl rfl
 have hszb : wb.heap.size = w.heap.size + 1 := by rw [← hbox]; simp
 have HKB := Lib.hid hkb; have HBB := Lib.hid hbb; have HSZ := Lib.hid hszb; have HBX := Lib.hid hbox
 clear hkb hbb hszb hbox
 generalize hwd : wb.alloc (.cells (Array.replicate regs.length (.bool false)) 4) = wd
 have hkd : Keeps (fun _ => False) wb wd := by rw [← hwd]; exact (Keeps.refl _ _).alloc _
 have hbd : Blk wd (w.heap.size + 1) (deadL L.alive t regs 0) 4 := by rw [← hwd]; exact Blk.newAt _ HSZ.out.symm (by simp [deadL])
 have HKD := Lib.hid hkd; have HBD := Lib.hid hbd; have HWD := Lib.hid hwd
 clear hkd hbd hwd
 unfold Liv.val
 go_enter Try.func120,Try.ntmps120
 go_wp2_with fail
 rw [HBX.out,HWD.out]
 go_loopw [29] (fun i wr => ∃ k : Nat,k ≤ regs.length ∧ i = .int .i64 k ∧ Blk wr (w.heap.size + 1) (deadL L.alive t regs k) 4 ∧ Keeps (· = w.heap.size + 1) wd wr) (fun i _ => regs.length - (intOf i).toNat)
 case atStart => exact ⟨0,Nat.zero_le _,rfl,HBD.out,Keeps.refl _ _⟩
 case round =>
  obtain ⟨k,hkl,rfl,hbl,hkr⟩ := hrel
  have HBL := Lib.hid hbl; have HKR := Lib.hid hkr
  have hkw : Keeps (fun b => w.heap.size ≤ b) w wr := ((HKB.out.trans HKD.out).mono fun _ _ h => h.elim).trans (hkr.mono (by rintro b _ rfl; omega))
  have hkn : ∀ b,b < w.heap.size → ¬ (w.heap.size ≤ b) := fun b h => by omega
  have HKW := Lib.hid hkw; have HKN := Lib.hid hkn
  clear hbl hkr hkw hkn
  by_cases hlt : k < regs.length
  ·have hrd := HR.out.keep HKW.out (fun a _ h => HKN.out _ h)
   obtain ⟨g,o,rfl,hgl,d0,d1⟩ := hrd.ent k hlt
   have hvd0 := HD1.out (regs.getD k (0,0)) (by simp [List.getD,hlt])
   have hvd := And.intro hvd0.1 (L.DK_D hvd0.2)
   clear hvd0
   have HDS := Lib.hid (deadL_set (alive := L.alive) (t := t) hlt)
   generalize regs.getD k (0,0) = v at *
   have hbx : Blk wr w.heap.size L.cells 178 := HKR.out.blk (HKD.out.blk HBB.out (fun h => h)) (by omega)
   have HX := Lib.hid hbx; have HV := Lib.hid hvd
   have b0 := hbx.cell 0
   have bl := hbx.lt
   simp only [Liv.cells,List.getElem?_cons_zero] at b0
   clear hrd hvd hbx
   go_wp2_with fail
   have hk0 := (Keeps.refl (fun _ => False) wr).alloc (.cells #[Value.int IntKind.i64 v.fst,Value.int IntKind.i64 v.snd] 170)
   refine (L.alive_c _ t F v.2 (L.J_keep HJ.out (HKW.out.trans (hk0.mono fun _ _ h => h.elim)) (fun b h => HKN.out b (L.J_lt HJ.out h))) HV.out.2).mono ?_
   rintro e w1 ⟨rfl,hk1⟩
   have HB1 := Lib.hid (hk1.blk (hk0.blk HBL.out (fun h => h)) (fun h => h))
   have HK1 := Lib.hid (HKR.out.trans ((hk0.trans hk1).mono fun _ _ h => h.elim))
   clear hk0 hk1
   obtain ⟨old,q0⟩ : ∃ old,w1.cell? ⟨w.heap.size + 1,k,none⟩ = some old := ⟨_,by rw [HB1.out.cell,List.getElem?_eq_getElem (by rw [deadL_length (Nat.le_of_lt hlt)]; exact hlt)]⟩
   have qf := HB1.out.free k
   have ql := HB1.out.lt
   go_wp2_with fail
   go_roundw
   case rel => exact ⟨k + 1,by omega,by go_num,by rw [HDS.out]; exact HB1.out.setSame k _,HK1.out.setCell (p := ⟨w.heap.size + 1,k,none⟩) (.inl rfl) _⟩
   case measure => simp [intOf]; omega
  ·obtain rfl : k = regs.length := by omega
   have p0 := (HKW.out.blk H.out.hp (HKN.out _ hpl)).cell 0
   have pl := (HKW.out.blk H.out.hp (HKN.out _ hpl)).lt
   simp only [List.getElem?_cons_zero] at p0
   have hbx : Blk wr w.heap.size L.cells 178 := HKR.out.blk (HKD.out.blk HBB.out (fun h => h)) (by omega)
   generalize hwm : wr.alloc (.cells (Array.replicate regs.length (.bool false)) 4) = wm
   have hst := MoreIn.start (wm := wm) HJ.out H.out HA.out HD1.out HD.out HKW.out hbx HBL.out (by rw [← hwm]; exact (Keeps.refl _ _).alloc _) (by rw [← hwm]; exact Blk.newAt _ rfl (by simp))
   have hr0 : w.heap.size + 2 ≤ wr.heap.size := HBL.out.lt
   have HST := Lib.hid hst; have HWM := Lib.hid hwm; have HR0 := Lib.hid hr0
   clear hst hwm hbx hr0
   go_wp2_with fail
   rw [HWM.out]
   generalize wr.heap.size = b2 at *
   go_loopw [8] (fun v wx => ∃ more items,v = .bool more ∧ MoreIn L w F (.slice ro regs.length rc) wv w.heap.size (w.heap.size + 1) b2 t regs wait (wait.length + regs.length) wx more items) (fun v wx => 2 * cntF wx b2 + bit v)
   case atStart => exact ⟨true,_,rfl,HST.out⟩
   case round =>
    obtain ⟨more,items,rfl,n,t',q',F',wv',hm,hf,hN,hun,he⟩ := hrel
    have GM := Lib.hid hm; have GF := Lib.hid hf; have GN := Lib.hid hN; have GU := Lib.hid hun; have GE := Lib.hid he
    have hsr := hm.hS
    rw [hf] at hsr
    have GS := Lib.hid hsr
    have x0 := hm.hS.hp.cell 0
    have xl := hm.hS.hp.lt
    simp only [List.getElem?_cons_zero] at x0
    have hbl := Nat.le_trans (Nat.le_refl _) hm.h2.lt
    have hcn := cntF_blk hm.h2
    have HCN := Lib.hid hcn
    clear hm hf hN hun he hsr hcn p0 pl c0 HST
    have p0 := x0
    clear x0
    cases more
    ·have he := GE.out
     simp only [Bool.false_eq_true,if_false] at he
     have GE2 := Lib.hid he
     clear he GE
     go_wp2_with fail
     go_loopw [12,106] (fun v i wx => ∃ (k : Nat),k ≤ regs.length ∧ i = .int .i64 k ∧ NewL wr wx v (newRegs L.alive L.now t' (items.take k))) (fun _ i _ => regs.length - (intOf i).toNat)
     case atStart => exact ⟨0,Nat.zero_le _,rfl,NewL.nil wr⟩
     case round =>
      obtain ⟨k,hk,rfl,hnl⟩ := hrel
      have KNL := Lib.hid hnl
      have hmk := GM.out.keep hnl.2.1
      have hil : items.length = regs.length := by rw [← GF.out]; simp
      clear hnl
      by_cases hlt : k < regs.length
      ·have hki : k < items.length := by omega
       have hst := newRegs_step (alive := L.alive) (now := L.now) (t := t') hki
       have hvd0 := hmk.hr items[k] (List.getElem_mem hki)
       have hvd := And.intro hvd0.1 (L.DK_D hvd0.2)
       clear hvd0
       have hgk : items[k]? = some items[k] := List.getElem?_eq_getElem hki
       have hfs : regs.getD k (0,0) = items[k].1 := by rw [← GF.out]; simp [List.getD,hki]
       have hsr := hmk.hS
       rw [GF.out] at hsr
       obtain ⟨_,_,e',hrd,_,_⟩ := hsr.hr.rd
       cases e'
       obtain ⟨g,o,rfl,hgl,d0,d1⟩ := hrd.ent k hlt
       rw [hfs] at d0 d1
       have f0 := hmk.h0.cell 0; have fl := hmk.h0.lt
       have r1 := hmk.h1.cell k; have r1l := hmk.h1.lt
       rw [List.getElem?_map,hgk] at r1
       simp only [Option.map_some] at r1
       simp only [Liv.cells,List.getElem?_cons_zero,List.getElem?_cons_succ] at f0
       have hle : (newRegs L.alive L.now t' (items.take k)).length ≤ 100000 := Nat.le_trans newRegs_le (Nat.le_trans (List.length_take_le _ _) (by omega))
       generalize items[k] = i at *
       obtain ⟨v,dd,mv⟩ := i
       have KM := Lib.hid hmk; have KST := Lib.hid hst; have KV := Lib.hid hvd
       have KLE := Lib.hid hle
       clear hmk hst hvd hgk hfs hsr hrd hle
       cases dd
       ·go_wp2_with fail
        have hk0 := (Keeps.refl (fun _ => False) wr).alloc (.cells #[Value.int IntKind.i64 v.fst,Value.int IntKind.i64 v.snd] 170)
        refine (L.alive_c _ t' F' v.1 (L.J_keep KM.out.hJ hk0 (fun _ _ h => h)) KV.out.1).mono ?_
        rintro e w1 ⟨rfl,hk1⟩
        have KK1 := Lib.hid (hk0.trans hk1)
        have KE1 := Lib.hid (hk1.blk (Blk.newAt (w := wr) _ rfl rfl) (fun h => h))
        clear hk0 hk1
        cases ha : L.alive t' v.1
        ·go_wp2_with fail
         go_roundw
         case rel => exact ⟨k + 1,by omega,by go_num,by rw [KST.out,ha]; simpa using KNL.out.keep KK1.out⟩
         case measure => simp [intOf]; omega
        ·have hm1 := KM.out.keep KK1.out
         clear f0 fl r1 r1l d0 d1
         have f2 := hm1.h0.cell 2
         have e0 := KE1.out.cell 0; have e1 := KE1.out.cell 1
         simp only [Liv.cells,List.getElem?_cons_zero,List.getElem?_cons_succ] at f2 e0 e1
         clear hm1
         go_wp2_with fail
         refine wp_region_ord [(0,0),(1,0),(3,0),(6,0),(8,0),(2,0),(4,0),(7,0),(9,0),(5,1),(10,1),(11,0),(12,1),(13,1),(14,0)] (fun w' => w'.cell? ⟨w.heap.size,2,none⟩ = some (.func (.func L.fn) L.n1 L.n2) ∧ w'.cell? ⟨wr.heap.size,0,none⟩ = some (.int .i64 v.1) ∧ w'.cell? ⟨wr.heap.size,1,none⟩ = some (.int .i64 v.2)) (by kernel_rfl) (by kernel_rfl) ⟨f2,e0,e1⟩ ?_
         iterate 9 (refine wpOrd_pure rfl rfl _ (fun w' hG => by obtain ⟨g0,g1,g2⟩ := hG; go_simp; exact Gives.mk _ _) (fun K hK => ?_); go_simp; refine hK _ ?_; clear hK K)
         refine wpOrd_run rfl rfl (fun K hK => ?_); unfold gRun; go_simp
         have kd1 : Keeps (fun _ => False) wr w1.drew := KK1.out.trans ((Keeps.refl _ w1).drew)
         refine (L.now_c _ t' F' v.1 (KM.out.keep kd1).hJ KV.out.1).mono ?_
         rintro e w2 ⟨rfl,hk2⟩
         have kd2 := kd1.trans hk2
         have be2 := hk2.blk (KE1.out.drew) (fun h => h)
         refine hK _ _ ⟨(KM.out.keep kd2).h0.cell 2,be2.cell 0,be2.cell 1⟩ ?_
         clear hK K
         refine wpOrd_run rfl rfl (fun K hK => ?_); unfold gRun; go_simp
         refine (L.now_c _ t' F' v.2 (KM.out.keep kd2).hJ KV.out.2).mono ?_
         rintro e w3 ⟨rfl,hk3⟩
         have kd3 := kd2.trans hk3
         have be3 := hk3.blk be2 (fun h => h)
         refine hK _ _ ⟨(KM.out.keep kd3).h0.cell 2,be3.cell 0,be3.cell 1⟩ ?_
         clear hK K
         have KD3 := Lib.hid kd3; have KB3 := Lib.hid be3
         clear kd1 kd2 kd3 be2 be3 hk2 hk3 f2 e0 e1
         iterate 1 (refine wpOrd_pure rfl rfl _ (fun w' hG => by obtain ⟨g0,g1,g2⟩ := hG; go_simp; exact Gives.mk _ _) (fun K hK => ?_); go_simp; refine hK _ ?_; clear hK K)
         refine wpOrd_run rfl rfl (fun K hK => ?_); unfold gRun; go_simp; refine hK _ _ ?_ ?_
         ·have k := (Keeps.refl (fun _ => False) w3).alloc (.cells #[.int .i64 (L.now t' v.1), .int .i64 (L.now t' v.2)] 170)
          exact ⟨(KM.out.keep (KD3.out.trans k)).h0.cell 2,(k.blk KB3.out (fun h => h)).cell 0,(k.blk KB3.out (fun h => h)).cell 1⟩
         clear hK K
         refine wpOrd_run rfl rfl (fun K hK => ?_)
         have hle := KLE.out
         refine gRun_app (.tmp 123) (.tmp 135) 127 rfl 170 ie (.agg #[.int .i64 0, .int .i64 0]) 2 16 Try.underlying127 Hi.out Hz0.out Hz1.out Hz2.out rfl (by decide) _ (newRegs L.alive L.now t' (items.take k)).length (entV (newRegs L.alive L.now t' (items.take k))) rfl ?ja ⟨w3.heap.size,0,none⟩ 1 1 [.int .i64 (L.now t' v.1), .int .i64 (L.now t' v.2)] rfl rfl ?jb ?jc ?jd ?je ?jf
         case ja => exact (KNL.out.keep (KD3.out.trans ((Keeps.refl (fun _ => False) w3).alloc _))).1
         case jb => exact news_at w3 170 #[.int .i64 (L.now t' v.1), .int .i64 (L.now t' v.2)]
         case jc => intro u hu; simp at hu; rcases hu with rfl | rfl <;> rfl
         case jd => unfold maxLen; omega
         case je => omega
         case jf =>
          intro v5 w5 hs5 hk5 ho5
          have hka : Keeps (fun _ => False) w3 (w3.alloc (.cells #[.int .i64 (L.now t' v.1), .int .i64 (L.now t' v.2)] 170)) := (Keeps.refl (fun _ => False) w3).alloc _
          have hnw := NewL.app (e := (L.now t' v.1,L.now t' v.2)) KNL.out (KD3.out.trans hka) hs5 hk5 ho5
          have kd5 := KD3.out.trans hka
          have KNW := Lib.hid hnw
          have hm5 := KM.out.keep (w2 := w3.alloc (.cells #[.int .i64 (L.now t' v.1), .int .i64 (L.now t' v.2)] 170)) kd5
          have be5 := hka.blk KB3.out (fun h => h)
          have nb0 : ¬ ownB u12 w.heap.size := fun h => by
           obtain ⟨_,cur,hc⟩ := KNL.out.1.own h
           exact KM.out.h0.ne hc (by decide) rfl
          have nb1 : ¬ ownB u12 wr.heap.size := fun h => by
           have := (KNL.out.1.own h).1
           omega
          refine hK _ _ ⟨(hk5.blk hm5.h0 nb0).cell 2,(hk5.blk be5 nb1).cell 0,(hk5.blk be5 nb1).cell 1⟩ ?_
          clear hK K hs5 hk5 ho5 hka hnw kd5 hm5 be5 nb0 nb1
          iterate 1 (refine wpOrd_pure rfl rfl _ (fun w' hG => by obtain ⟨g0,g1,g2⟩ := hG; go_simp; exact Gives.mk _ _) (fun K hK => ?_); go_simp; refine hK _ ?_; clear hK K)
          refine wpOrd_end ?_
          go_wp2_with fail
          go_roundw
          case rel => exact ⟨k + 1,by omega,by go_num,by rw [KST.out,ha]; exact KNW.out⟩
          case measure => simp [intOf]; omega
       ·go_wp2_with fail
        go_roundw
        case rel => exact ⟨k + 1,by omega,by go_num,by rw [KST.out]; simpa using KNL.out.keep ((Keeps.refl _ _).alloc _)⟩
        case measure => simp [intOf]; omega
      ·obtain rfl : k = regs.length := by omega
       have htk : items.take regs.length = items := by rw [← hil]; exact List.take_length
       have hnl := KNL.out
       rw [htk] at hnl
       obtain ⟨n1,c1,rfl,_,_,_⟩ := hnl.1.rd
       obtain ⟨wo,wc,rfl,_,_,_⟩ := hmk.hS.hw.rd
       have p1 := hmk.hS.hp.cell 1
       have pl1 := hmk.hS.hp.lt
       simp only [List.getElem?_cons_zero,List.getElem?_cons_succ] at p1
       have hql : q'.length ≤ 200000 := by have := GN.out; omega
       have KN1 := Lib.hid hnl; have KM0 := Lib.hid hmk
       clear hnl hmk htk KNL
       go_wp2_with fail
       go_loopw [13,143] (fun v i wx => ∃ (k : Nat),k ≤ q'.length ∧ i = .int .i64 k ∧ NewL wr wx v (newWait L.alive L.now t' (q'.take k))) (fun _ i _ => q'.length - (intOf i).toNat)
       case atStart => exact ⟨0,Nat.zero_le _,rfl,NewL.nil wr⟩
       case round =>
        obtain ⟨k,hk,rfl,hnl⟩ := hrel
        have KNL := Lib.hid hnl
        have hmk := KM0.out.keep hnl.2.1
        clear hnl
        by_cases hlt : k < q'.length
        ·have hst := newWait_step (alive := L.alive) (now := L.now) (t := t') hlt
         have hvd := hmk.hq (q'.getD k (0,0)) (by simp [List.getD,hlt])
         obtain ⟨_,_,e',hrd,_,_⟩ := hmk.hS.hw.rd
         cases e'
         obtain ⟨g,o,rfl,hgl,d0,d1⟩ := hrd.ent k hlt
         have f0 := hmk.h0.cell 0; have fl := hmk.h0.lt
         simp only [Liv.cells,List.getElem?_cons_zero,List.getElem?_cons_succ] at f0
         have hle : (newWait L.alive L.now t' (q'.take k)).length ≤ 200000 := Nat.le_trans newWait_le (Nat.le_trans (List.length_take_le _ _) (by omega))
         generalize q'.getD k (0,0) = v at *
         have KM := Lib.hid hmk; have KST := Lib.hid hst; have KV := Lib.hid hvd
         have KLE := Lib.hid hle
         clear hmk hst hvd hrd hle
         go_wp2_with fail
         have hk0 := (Keeps.refl (fun _ => False) wr).alloc (.cells #[Value.int IntKind.i64 v.fst,Value.int IntKind.i64 v.snd] 170)
         refine (L.alive_c _ t' F' v.1 (L.J_keep KM.out.hJ hk0 (fun _ _ h => h)) KV.out.1).mono ?_
         rintro e w1 ⟨rfl,hk1⟩
         have KK1 := Lib.hid (hk0.trans hk1)
         have KE1 := Lib.hid (hk1.blk (Blk.newAt (w := wr) _ rfl rfl) (fun h => h))
         clear hk0 hk1
         cases ha : L.alive t' v.1
         ·go_wp2_with fail
          go_roundw
          case rel => exact ⟨k + 1,by omega,by go_num,by rw [KST.out,ha]; simpa using KNL.out.keep KK1.out⟩
          case measure => simp [intOf]; omega
         ·have hm1 := KM.out.keep KK1.out
          clear f0 fl d0 d1
          have f2 := hm1.h0.cell 2
          have e0 := KE1.out.cell 0; have e1 := KE1.out.cell 1
          simp only [Liv.cells,List.getElem?_cons_zero,List.getElem?_cons_succ] at f2 e0 e1
          clear hm1
          go_wp2_with fail
          refine wp_region_ord [(0,0),(1,0),(3,0),(6,0),(8,0),(2,0),(4,0),(7,0),(9,0),(5,1),(10,1),(11,0),(12,1),(13,1),(14,0)] (fun w' => w'.cell? ⟨w.heap.size,2,none⟩ = some (.func (.func L.fn) L.n1 L.n2) ∧ w'.cell? ⟨wr.heap.size,0,none⟩ = some (.int .i64 v.1) ∧ w'.cell? ⟨wr.heap.size,1,none⟩ = some (.int .i64 v.2)) (by kernel_rfl) (by kernel_rfl) ⟨f2,e0,e1⟩ ?_
          iterate 9 (refine wpOrd_pure rfl rfl _ (fun w' hG => by obtain ⟨g0,g1,g2⟩ := hG; go_simp; exact Gives.mk _ _) (fun K hK => ?_); go_simp; refine hK _ ?_; clear hK K)
          refine wpOrd_run rfl rfl (fun K hK => ?_); unfold gRun; go_simp
          have kd1 : Keeps (fun _ => False) wr w1.drew := KK1.out.trans ((Keeps.refl _ w1).drew)
          refine (L.now_c _ t' F' v.1 (KM.out.keep kd1).hJ KV.out.1).mono ?_
          rintro e w2 ⟨rfl,hk2⟩
          have kd2 := kd1.trans hk2
          have be2 := hk2.blk (KE1.out.drew) (fun h => h)
          refine hK _ _ ⟨(KM.out.keep kd2).h0.cell 2,be2.cell 0,be2.cell 1⟩ ?_
          clear hK K
          refine wpOrd_run rfl rfl (fun K hK => ?_); unfold gRun; go_simp
          refine (L.now_c _ t' F' v.2 (KM.out.keep kd2).hJ KV.out.2).mono ?_
          rintro e w3 ⟨rfl,hk3⟩
          have kd3 := kd2.trans hk3
          have be3 := hk3.blk be2 (fun h => h)
          refine hK _ _ ⟨(KM.out.keep kd3).h0.cell 2,be3.cell 0,be3.cell 1⟩ ?_
          clear hK K
          have KD3 := Lib.hid kd3; have KB3 := Lib.hid be3
          clear kd1 kd2 kd3 be2 be3 hk2 hk3 f2 e0 e1
          iterate 1 (refine wpOrd_pure rfl rfl _ (fun w' hG => by obtain ⟨g0,g1,g2⟩ := hG; go_simp; exact Gives.mk _ _) (fun K hK => ?_); go_simp; refine hK _ ?_; clear hK K)
          refine wpOrd_run rfl rfl (fun K hK => ?_); unfold gRun; go_simp; refine hK _ _ ?_ ?_
          ·have k := (Keeps.refl (fun _ => False) w3).alloc (.cells #[.int .i64 (L.now t' v.1), .int .i64 (L.now t' v.2)] 170)
           exact ⟨(KM.out.keep (KD3.out.trans k)).h0.cell 2,(k.blk KB3.out (fun h => h)).cell 0,(k.blk KB3.out (fun h => h)).cell 1⟩
          clear hK K
          refine wpOrd_run rfl rfl (fun K hK => ?_)
          have hle := KLE.out
          refine gRun_app (.tmp 152) (.tmp 164) 127 rfl 170 ie (.agg #[.int .i64 0, .int .i64 0]) 2 16 Try.underlying127 Hi.out Hz0.out Hz1.out Hz2.out rfl (by decide) _ (newWait L.alive L.now t' (q'.take k)).length (entV (newWait L.alive L.now t' (q'.take k))) rfl ?la ⟨w3.heap.size,0,none⟩ 1 1 [.int .i64 (L.now t' v.1), .int .i64 (L.now t' v.2)] rfl rfl ?lb ?lc ?ld ?le ?lf
          case la => exact (KNL.out.keep (KD3.out.trans ((Keeps.refl (fun _ => False) w3).alloc _))).1
          case lb => exact news_at w3 170 #[.int .i64 (L.now t' v.1), .int .i64 (L.now t' v.2)]
          case lc => intro u hu; simp at hu; rcases hu with rfl | rfl <;> rfl
          case ld => unfold maxLen; omega
          case le => omega
          case lf =>
           intro v5 w5 hs5 hk5 ho5
           have hka : Keeps (fun _ => False) w3 (w3.alloc (.cells #[.int .i64 (L.now t' v.1), .int .i64 (L.now t' v.2)] 170)) := (Keeps.refl (fun _ => False) w3).alloc _
           have hnw := NewL.app (e := (L.now t' v.1,L.now t' v.2)) KNL.out (KD3.out.trans hka) hs5 hk5 ho5
           have kd5 := KD3.out.trans hka
           have KNW := Lib.hid hnw
           have hm5 := KM.out.keep (w2 := w3.alloc (.cells #[.int .i64 (L.now t' v.1), .int .i64 (L.now t' v.2)] 170)) kd5
           have be5 := hka.blk KB3.out (fun h => h)
           have nb0 : ¬ ownB u13 w.heap.size := fun h => by
            obtain ⟨_,cur,hc⟩ := KNL.out.1.own h
            exact KM.out.h0.ne hc (by decide) rfl
           have nb1 : ¬ ownB u13 wr.heap.size := fun h => by
            have := (KNL.out.1.own h).1
            omega
           refine hK _ _ ⟨(hk5.blk hm5.h0 nb0).cell 2,(hk5.blk be5 nb1).cell 0,(hk5.blk be5 nb1).cell 1⟩ ?_
           clear hK K hs5 hk5 ho5 hka hnw kd5 hm5 be5 nb0 nb1
           iterate 1 (refine wpOrd_pure rfl rfl _ (fun w' hG => by obtain ⟨g0,g1,g2⟩ := hG; go_simp; exact Gives.mk _ _) (fun K hK => ?_); go_simp; refine hK _ ?_; clear hK K)
           refine wpOrd_end ?_
           go_wp2_with fail
           go_roundw
           case rel => exact ⟨k + 1,by omega,by go_num,by rw [KST.out,ha]; exact KNW.out⟩
           case measure => simp [intOf]; omega
        ·obtain rfl : k = q'.length := by omega
         have hnl := KNL.out
         rw [List.take_length] at hnl
         obtain ⟨n2,c2,rfl,_,_,_⟩ := hnl.1.rd
         have hmk := KM0.out.keep KNL.out.2.1
         have p0 := hmk.hS.hp.cell 0
         have p1 := hmk.hS.hp.cell 1
         have fz0 := hmk.hS.hp.free 0
         have fz1 := hmk.hS.hp.free 1
         have pl := hmk.hS.hp.lt
         simp only [List.getElem?_cons_zero,List.getElem?_cons_succ] at p0 p1
         have KN2 := Lib.hid hnl
         clear hnl hmk KNL
         go_wp2_with fail
         go_end0
         exact SettleTo.done GE2.out GM.out KN1.out KN2.out
    ·have he := GE.out
     simp only [if_true] at he
     have GE2 := Lib.hid he
     have hun := GU.out rfl
     clear he GE
     have hl0 : items.length = regs.length := by rw [← GF.out]; simp
     have HI : ScanIn L w F (.slice ro regs.length rc) wv w.heap.size (w.heap.size + 1) b2 t' q' items (wait.length + regs.length) wr 0 false :=
      ⟨t',q',F',wv',[],rfl,by simpa using GM.out,by simpa using GN.out,by simp⟩
     have HL0 := Lib.hid hl0
     clear hl0
     go_wp2_with fail
     go_loopw [8,56] (fun v i wx => ∃ (k : Nat) (more : Bool),k ≤ regs.length ∧ i = .int .i64 k ∧ v = .bool more ∧ ScanIn L w F (.slice ro regs.length rc) wv w.heap.size (w.heap.size + 1) b2 t' q' items (wait.length + regs.length) wx k more) (fun _ i _ => regs.length - (intOf i).toNat)
     case atStart => exact ⟨0,false,Nat.zero_le _,rfl,rfl,HI⟩
     case round =>
      clear HI
      obtain ⟨k,more,hk,rfl,rfl,hsc⟩ := hrel
      by_cases hlt : k < regs.length
      ·obtain ⟨t2,q2,F2,v2,done,hd,hm,hN,hE⟩ := hsc
       have hki : k < items.length := by rw [HL0.out]; exact hlt
       have hdr : items.drop k = items[k] :: items.drop (k + 1) := List.drop_eq_getElem_cons hki
       rw [hdr] at hm hN hE
       generalize items[k] = i at *
       obtain ⟨v,dd,mv⟩ := i
       have hln : ((done ++ (v,dd,mv) :: items.drop (k + 1)).map (·.1)).length = regs.length := by
        have := HL0.out
        simp [hd]; omega
       have hgt : ((done ++ (v,dd,mv) :: items.drop (k + 1)).map (·.1)).getD k (0,0) = v := by simp [List.getD,hd]
       obtain ⟨_,_,e',hrd,_,_⟩ := hm.hS.hr.rd
       rw [hln] at e'
       cases e'
       obtain ⟨g,o,rfl,hgl,d0,d1⟩ := hrd.ent k (by omega)
       rw [hgt] at d0 d1
       have f0 := hm.h0.cell 0; have f1 := hm.h0.cell 1; have fl := hm.h0.lt
       have r1 := hm.h1.cell k; have r1l := hm.h1.lt
       have r2 := hm.h2.cell k; have r2l := hm.h2.lt
       simp only [Liv.cells,List.getElem?_cons_zero,List.getElem?_cons_succ] at f0 f1
       have hgk : (done ++ (v,dd,mv) :: items.drop (k + 1))[k]? = some (v,dd,mv) := by simp [hd]
       rw [List.getElem?_map,hgk] at r1 r2
       simp only [Option.map_some] at r1 r2
       have fz := hm.h2.free k
       have hvd := hm.hr (v,dd,mv) (by simp)
       have KM := Lib.hid hm; have KD := Lib.hid hd; have KDR := Lib.hid hdr; have KN := Lib.hid hN; have KE := Lib.hid hE; have KV := Lib.hid hvd; have KL := Lib.hid hln
       clear hm hd hdr hN hE hgt hrd hgk hvd hln
       have SKIP : Hid (∀ w2,Keeps (fun _ => False) wr w2 → ((dd && !mv) && L.alive t2 v.1) = false → ScanIn L w F (.slice (some ⟨g,o,none⟩) regs.length rc) wv w.heap.size (w.heap.size + 1) b2 t' q' items (wait.length + regs.length) w2 (k + 1) more) := fun w2 h1 h2 => ScanIn.skip KD.out KDR.out KM.out KN.out KE.out h1 h2
       cases dd
       ·go_wp2_with fail
        go_roundw
        case rel => exact ⟨k + 1,more,by omega,by go_num,rfl,SKIP.out _ ((Keeps.refl _ _).alloc _) rfl⟩
        case measure => simp [intOf]; omega
       ·cases mv
        ·go_wp2_with fail
         have hk0 := (Keeps.refl (fun _ => False) wr).alloc (.cells #[Value.int IntKind.i64 v.fst,Value.int IntKind.i64 v.snd] 170)
         refine (L.alive_c _ t2 F2 v.1 (L.J_keep KM.out.hJ hk0 (fun _ _ h => h)) KV.out.1).mono ?_
         rintro e w1 ⟨rfl,hk1⟩
         have KK1 := Lib.hid (hk0.trans hk1)
         have KE1 := Lib.hid (hk1.blk (Blk.newAt (w := wr) _ rfl rfl) (fun h => h))
         cases ha : L.alive t2 v.1
         ·clear hk0 hk1
          go_wp2_with fail
          go_roundw
          case rel => exact ⟨k + 1,more,by omega,by go_num,rfl,SKIP.out _ KK1.out (by rw [ha]; rfl)⟩
          case measure => simp [intOf]; omega
         ·have hm1 := KM.out.keep KK1.out
          have hm2 := hm1.move
          rw [KD.out] at hm2
          clear f0 f1 fl r1 r1l r2 r2l fz d0 d1 hk0 hk1
          have r2 := hm1.h2.cell k; have r2l := hm1.h2.lt
          have hgk : (done ++ (v,true,false) :: items.drop (k + 1))[k]? = some (v,true,false) := by simp [KD.out]
          rw [List.getElem?_map,hgk] at r2
          simp only [Option.map_some] at r2
          have fz := hm1.h2.free k
          have f1 := hm1.h0.cell 1; have fl := hm1.h0.lt
          simp only [Liv.cells,List.getElem?_cons_zero,List.getElem?_cons_succ] at f1
          have e1 := KE1.out.cell 1
          have el := KE1.out.lt
          simp only [List.getElem?_cons_zero,List.getElem?_cons_succ] at e1
          have hbe : b2 < wr.heap.size := KM.out.h2.lt
          have hbl0 : w.heap.size < wr.heap.size := KM.out.h0.lt
          have hr0 := HR0.out
          have hr1 : w.heap.size ≠ b2 := by omega
          have KM2 := Lib.hid hm2
          clear hm1 hm2 hgk
          go_wp2_with fail
          refine (L.keep_c _ t2 F2 _ v2 _ q2 v.2 KM2.out.hJ KM2.out.hS KM2.out.hA KV.out.2 KM2.out.hq (by have := KN.out; omega)).mono ?_
          rintro e w4 ⟨rfl,F4,hJ4,hS4,hA4,hk4,hF4⟩
          have hm4 := KM2.out.kept KV.out.2 hJ4 hS4 hA4 hk4 hF4
          have hlen : (L.keep t2 q2 v.2).2.1.length = q2.length := L.keep_len
          have hql : (L.keep t2 q2 v.2).2.1.length ≤ 200000 := by have := KN.out; omega
          have hdn := L.D_new (wait := q2) KV.out.2
          have hdg := L.D_keep (wait := q2) KV.out.2 KV.out.1
          have hb4 := hk4.blk ((KE1.out).setOther (a := ⟨b2,k,none⟩) (by show wr.heap.size ≠ b2; omega) (.bool true)) (by
           rintro (h | h)
           ·have := L.J_lt KM.out.hJ h; omega
           ·have := KM.out.hS.fp_lt h; omega)
          obtain ⟨wo,wc,rfl,_,_,_⟩ := hm4.hS.hw.rd
          clear hJ4 hS4 hA4 hk4 hF4 hlen f1 fl r2 r2l fz e1 el
          generalize hr : L.keep t2 q2 v.2 = r at *
          have KR := Lib.hid hr; have KM4 := Lib.hid hm4; have KDN : Hid (L.D r.1 v.1 ∧ L.D r.1 r.2.2) := ⟨hdg,hdn⟩; have KB4 := Lib.hid hb4
          have p1 := hm4.hS.hp.cell 1
          have pl1 := hm4.hS.hp.lt
          have e0 := hb4.cell 0
          have el := hb4.lt
          have fz := hm4.hS.hp.free 1
          simp only [List.getElem?_cons_zero,List.getElem?_cons_succ] at p1 e0
          clear hr hm4 hdn hdg hb4
          go_wp2_with fail
          refine wp_region_ord [(0,0),(1,0),(2,0),(3,0),(5,0),(7,0),(4,0),(6,0),(8,0),(9,1),(10,1),(11,0),(12,0),(13,2)] (fun w' => w'.cell? ⟨p,1,none⟩ = some (.slice wo r.2.1.length wc) ∧ w'.cell? ⟨wr.heap.size,0,none⟩ = some (.int .i64 v.1)) (by kernel_rfl) (by kernel_rfl) ⟨p1,e0⟩ ?_
          iterate 9 (refine wpOrd_pure rfl rfl _ (fun w' hG => by obtain ⟨g0,g1⟩ := hG; go_simp; exact Gives.mk _ _) (fun K hK => ?_); go_simp; refine hK _ ?_; clear hK K)
          refine wpOrd_run rfl rfl (fun K hK => ?_); unfold gRun; go_simp; refine hK _ _ ?_ ?_
          ·have k := (Keeps.refl (fun _ => False) w4).alloc (.cells #[.int .i64 v.1, .int .i64 r.2.2] 170)
           exact ⟨(k.blk KM4.out.hS.hp (fun h => h)).cell 1,(k.blk KB4.out (fun h => h)).cell 0⟩
          clear hK K
          refine wpOrd_run rfl rfl (fun K hK => ?_)
          refine gRun_app (.tmp 91) (.tmp 96) 127 rfl 170 ie (.agg #[.int .i64 0, .int .i64 0]) 2 16 Try.underlying127 Hi.out Hz0.out Hz1.out Hz2.out rfl (by decide) _ r.2.1.length (entV r.2.1) rfl ?ha ⟨w4.heap.size,0,none⟩ 1 1 [.int .i64 v.1, .int .i64 r.2.2] rfl rfl ?hb ?hc ?hd ?he ?hf
          case ha => exact KM4.out.hS.hw.keep (((Keeps.refl (fun _ => False) w4).alloc _).drew) (fun _ _ h => h)
          case hb => exact news_at w4 170 #[.int .i64 v.1, .int .i64 r.2.2]
          case hc => intro u hu; simp at hu; rcases hu with rfl | rfl <;> rfl
          case hd => unfold maxLen; omega
          case he => omega
          case hf =>
           intro v5 w5 hs5 hk5 ho5
           have hka : Keeps (fun _ => False) w4 ((w4.alloc (.cells #[.int .i64 v.1, .int .i64 r.2.2] 170)).drew) := ((Keeps.refl (fun _ => False) w4).alloc _).drew
           have hm5 := KM4.out.keep hka
           have hp5 := hk5.blk hm5.hS.hp hm5.hS.pw
           have hb5 := hk5.blk (hka.blk KB4.out (fun h => h)) (fun h => by
            have := (KM.out.hS.hw.own h).1
            omega)
           refine hK _ _ ⟨hp5.cell 1,hb5.cell 0⟩ ?_
           clear hK K
           have hs6 : Sl w5 170 2 v5 (r.2.1 ++ [(v.1,r.2.2)]).length (entV (r.2.1 ++ [(v.1,r.2.2)])) := by simpa [entV] using hs5
           obtain ⟨vo,vc,rfl,_,_,_⟩ := hs6.rd
           have KM6 := Lib.hid (hm5.app (e := (v.1,r.2.2)) KDN.out hs6 hk5 ho5)
           have d0 := hp5.cell 1
           have dl := hp5.lt
           have f0 := hp5.free 1
           simp only [List.getElem?_cons_zero,List.getElem?_cons_succ] at d0
           rw [List.length_append] at KM6
           clear hs5 hk5 ho5 hka hm5 hp5 hb5 hs6 p1 pl1 e0 el fz
           iterate 2 (refine wpOrd_pure rfl rfl _ (fun w' hG => by obtain ⟨g0,g1⟩ := hG; go_simp; exact Gives.mk _ _) (fun K hK => ?_); go_simp; refine hK _ ?_; clear hK K)
           refine wpOrd_last rfl rfl (fun K hK => ?_); unfold gRun; go_simp; refine hK _ _ ?_
           clear hK K
           refine wpOrd_end ?_
           go_wp2_with fail
           go_roundw
           case rel => exact ⟨k + 1,true,by omega,by go_num,rfl,ScanIn.took KD.out KN.out KE.out (by rw [KR.out]; exact KM6.out) (by rw [ha]; rfl)⟩
           case measure => simp [intOf]; omega
        ·go_wp2_with fail
         go_roundw
         case rel => exact ⟨k + 1,more,by omega,by go_num,rfl,SKIP.out _ ((Keeps.refl _ _).alloc _) rfl⟩
         case measure => simp [intOf]; omega
      ·obtain rfl : k = regs.length := by omega
       obtain ⟨done,hmi,h1,h2,h3⟩ := MoreIn.next GF.out hun GE2.out hsc
       have HMI := Lib.hid hmi
       have hc2 := cntF_blk h3
       have HC2 := Lib.hid hc2
       clear hmi h3 hsc hc2
       go_wp2_with fail
       go_roundw
       case rel => exact ⟨more,done,rfl,HMI.out⟩
       case measure =>
        rw [HCN.out,HC2.out]
        cases more
        ·show 2 * unN done + 0 < 2 * unN items + 1
         omega
        ·have := h2 rfl
         show 2 * unN done + 1 < 2 * unN items + 1
         omega
end Go.Proofs.Ytjifdalflepcoab
