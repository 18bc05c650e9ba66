/-
  Parts of the proof, merged: what the functions do, and plain laws.
-/
import Derived.Test.YtjifdalflepcoabMDesP3
namespace Go.Proofs.Ytjifdalflepcoab
open Go.RowKit
set_option linter.unusedVariables false
set_option linter.unusedSimpArgs false
theorem Keeps.cell_eq {S : Nat → Prop} {w w' : World} (k : Keeps S w w') {b : Nat} (hb : b < w.heap.size) (hn : ¬ S b) (i : Nat) : w'.cell? ⟨b,i,none⟩ = w.cell? ⟨b,i,none⟩ :=
 World.cell?_of_block (w := w) (a := ⟨b,i,none⟩) (k.block b hb hn)
theorem get_R64 {A : Ar} (h : A.ok) (x i : Int) : R64 (A.get x i).1 := by
 unfold Ar.get
 split
 ·unfold R64; decide
 ·split
  ·unfold R64; decide
  ·exact h.load _
section
variable {w w' : World} {h : BH} {O O' : Wo} {W W' : Wd}
theorem WoodAt.in_p {h : WH} (H : WoodAt w h O) : ¬ h.In h.p := fun e => by
 rcases e with (e | e) | e
 ·exact H.hp.ne H.ha.hp (by decide) e
 ·exact H.hp.ne H.ha.hg (by decide) e
 ·exact H.hp.ne H.hc.hq (by decide) e
theorem WoodAt.in_ro {h : WH} (H : WoodAt w h O) {g : Nat} (hg : ownB h.ro g) : ¬ h.In g := fun e => by
 obtain ⟨_,l,hl⟩ := H.hr.own hg
 rcases e with (e | e) | e
 ·exact hl.ne H.ha.hp (by decide) e
 ·exact H.ap (e ▸ hg)
 ·exact hl.ne H.hc.hq (by decide) e
set_option maxHeartbeats 16000000 in
set_option maxRecDepth 100000 in
theorem bothDo1_c (xa xb xc : Int) (B : BothAt w h O W) (hb : R64 xb) :
  Calls Try.prog 74 #[.pointer (some ⟨h.p,0,none⟩), .agg #[.int .i64 1, .int .i64 xa, .int .i64 xb, .int .i64 xc]] w (BothDoRet w h O W 1 xa xb (rootN xa) (rootN xc)) := by
 have ka := (Keeps.refl (fun _ => False) w).alloc (.cells #[.int .i64 1, .int .i64 xa, .int .i64 xb, .int .i64 xc] 112)
 have hs : Blk (w.alloc (.cells #[.int .i64 1, .int .i64 xa, .int .i64 xb, .int .i64 xc] 112)) w.heap.size [.int .i64 1, .int .i64 xa, .int .i64 xb, .int .i64 xc] 112 := Blk.newAt _ rfl rfl
 have HB1 := Lib.hid (B.same ka); have SB := Lib.hid hs; have K1 := Lib.hid ka; have HBB := Lib.hid hb
 clear ka hs B hb
 go_enter Try.func74,Try.ntmps74
 go_wp2_with fail
 generalize w.alloc (.cells #[.int .i64 1, .int .i64 xa, .int .i64 xb, .int .i64 xc] 112) = w1 at *
 generalize w.heap.size = sb at *
 have s0 := SB.out.cell 0; have s1 := SB.out.cell 1; have s2 := SB.out.cell 2; have s3 := SB.out.cell 3; have sl := SB.out.lt
 simp only [List.getElem?_cons_zero,List.getElem?_cons_succ] at s0 s1 s2 s3
 refine wp_region_ro (.free 0 (.free 3 (.pure 1 (.pure 4 (.run 2 (.run 5 (.swi [] (.free 6 (.free 7 (.fin)))))))))) [5,6,7] (fun w' => w'.cell? ⟨sb,1,none⟩ = some (.int .i64 xa) ∧ w'.cell? ⟨sb,3,none⟩ = some (.int .i64 xc)) (by kernel_rfl) (by kernel_rfl) ⟨s1,s3⟩ ?_
 iterate 4 first | (refine wpRO_free rfl rfl _ (fun w' => by go_simp; exact Gives.mk _ _) (fun K hK => ?_); go_simp; refine hK _ ?_; clear hK K) | (refine wpRO_skipF rfl rfl (fun K hK => ?_); go_simp; refine hK _ ?_; clear hK K) | (refine wpRO_pure rfl rfl _ (fun w' hG => by obtain ⟨s1,s3⟩ := hG; exact gives_agg2 rfl (by decide +kernel) rfl (by assumption) (by assumption)) (fun K hK => ?_); go_simp; refine hK _ ?_; clear hK K) | (refine wpRO_pure rfl rfl _ (fun w' hG => by obtain ⟨s1,s3⟩ := hG; go_simp; exact Gives.mk _ _) (fun K hK => ?_); go_simp; refine hK _ ?_; clear hK K) | (refine wpRO_skip rfl rfl (fun K hK => ?_); go_simp; refine hK _ ?_; clear hK K)
 refine wpRO_run rfl rfl (fun K hK => ?_); unfold gRun; go_simp
 refine (Root_c xa _).mono ?_
 rintro e w2 ⟨rfl,rfl⟩
 refine hK _ _ (fun hg => hg) ?_
 clear hK K
 refine wpRO_chg rfl rfl rfl (fun K hK => ?_); unfold gRun; go_simp
 refine (Root_c xc _).mono ?_
 rintro e w2 ⟨rfl,rfl⟩
 refine hK _ _ ?_
 clear hK K
 refine wpRO_swi (fun _ => True) trivial ?_
 iterate 2 first | (refine wpRO_free rfl rfl _ (fun w' => by go_simp; exact Gives.mk _ _) (fun K hK => ?_); go_simp; refine hK _ ?_; clear hK K) | (refine wpRO_skipF rfl rfl (fun K hK => ?_); go_simp; refine hK _ ?_; clear hK K)
 refine wpRO_fin ?_
 have ha12 := rootN_lt xa; have hc12 := rootN_lt xc
 generalize rootN xa = a at *
 generalize rootN xc = c at *
 have HB2 := Lib.hid (HB1.out.same ((Keeps.refl (fun _ => False) w1).drew)); have K2 := Lib.hid (K1.out.drew); have SB2 := Lib.hid (show Blk w1.drew sb _ _ from SB.out.drew)
 clear s0 s1 s2 s3 sl HB1 K1 SB
 generalize w1.drew = w2 at *
 have s0 := SB2.out.cell 0; have s1 := SB2.out.cell 1; have s2 := SB2.out.cell 2; have s3 := SB2.out.cell 3; have sl := SB2.out.lt
 simp only [List.getElem?_cons_zero,List.getElem?_cons_succ] at s0 s1 s2 s3
 have b0 := HB2.out.hp.cell 0; have b1 := HB2.out.hp.cell 1; have bl := HB2.out.hp.lt
 simp only [List.getElem?_cons_zero,List.getElem?_cons_succ] at b0 b1
 have hor12 := HB2.out.H.ok.h12
 obtain ⟨g,o,cap,hro,hown,hgl,q3,fz,rcs⟩ := HB2.out.H.roots
 obtain ⟨q0,q1,q2, -⟩ := HB2.out.H.ptrs
 have ra := rcs a (by omega); have rc := rcs c (by omega)
 have fc := fz (o + c)
 rw [hor12] at q3 hro
 have HRO := Lib.hid hro; have HOWN := Lib.hid hown; have HO12 := Lib.hid hor12; have HFZ := Lib.hid fz; have HRCS := Lib.hid rcs
 have ql := HB2.out.H.hp.lt
 clear hro hown hor12 fz rcs
 have yl : (O.ar.yng : Int) ≤ 1280 := by have := HB2.out.H.ok.ha.h1; have := HB2.out.H.ok.ha.h2; have := HB2.out.H.ok.ha.h3; have := HB2.out.H.ok.ha.h4; omega
 have ha12i : (a : Int) < 12 := by omega
 have hc12i : (c : Int) < 12 := by omega
 have HRc := Lib.hid (show R64 (O.rtA c) from HB2.out.H.ok.hR _ (by unfold Wo.rtA; rw [Int.toNat_natCast,List.getD_eq_getElem?_getD,List.getElem?_eq_getElem (by rw [HO12.out]; exact hc12)]; exact List.getElem_mem _))
 have ra : w2.cell? ⟨g,o + a,none⟩ = some (.int .i64 (O.rtA a)) := by unfold Wo.rtA; rw [Int.toNat_natCast]; exact ra
 have rc : w2.cell? ⟨g,o + c,none⟩ = some (.int .i64 (O.rtA c)) := by unfold Wo.rtA; rw [Int.toNat_natCast]; exact rc
 have HWO := Lib.hid (show woC O 1 xa xb a c = O.set (O.rtA a) xb (O.rtA c) by unfold woC; rw [if_neg (by decide),if_pos rfl])
 have HWD := Lib.hid (show wdC W 1 xa xb a c = W.do ⟨12,0,a,c,xb,0⟩ by unfold wdC; rw [if_neg (by decide),if_pos rfl])
 have hset := WSet_in (O.rtA a) xb (O.rtA c) (HB2.out.same ((Keeps.refl (fun _ => False) w2).drew)).H HRc.out
 have hdo := fun w' (R : WorldAt w' h.b W) => WDoSet_c 0 a c xb 0 R
 generalize O.rtA a = va at *
 generalize O.rtA c = vc at *
 obtain ⟨⟨sc,O'⟩,hS⟩ : ∃ t,O.set va xb vc = t := ⟨_,rfl⟩
 obtain ⟨⟨dc,W'⟩,hD⟩ : ∃ t,W.do ⟨12,0,a,c,xb,0⟩ = t := ⟨_,rfl⟩
 rw [hS] at hset HWO
 rw [hD] at HWD
 simp only [hD] at hdo
 have HSET := Lib.hid hset; have HDO := Lib.hid hdo
 clear hS hD hset hdo fc
 go_wp2_with fail
 refine wp_region_ro (.free 0 (.free 1 (.free 2 (.free 4 (.free 5 (.free 6 (.free 11 (.free 14 (.free 16 (.free 17 (.free 18 (.free 23 (.free 27 (.free 28 (.free 29 (.free 31 (.free 32 (.free 33 (.pure 3 (.pure 7 (.free 8 (.free 9 (.pure 10 (.free 12 (.pure 13 (.pure 15 (.pure 19 (.free 20 (.free 21 (.pure 22 (.free 24 (.pure 25 (.pure 30 (.pure 34 (.free 35 (.run 26 (.run 36 (.swi [] (.free 37 (.free 38 (.fin))))))))))))))))))))))))))))))))))))))))) [36,37,38] (fun w' => w'.cell? ⟨h.p,0,none⟩ = some (.pointer (some ⟨h.a.p,0,none⟩)) ∧ w'.cell? ⟨h.a.p,3,none⟩ = some (.slice (some ⟨g,o,none⟩) 12 cap) ∧ w'.cell? ⟨g,o + a,none⟩ = some (.int .i64 va) ∧ w'.cell? ⟨g,o + c,none⟩ = some (.int .i64 vc) ∧ w'.cell? ⟨sb,2,none⟩ = some (.int .i64 xb) ∧ w'.cell? ⟨h.p,1,none⟩ = some (.pointer (some ⟨h.b.p,0,none⟩))) (by kernel_rfl) (by kernel_rfl) ⟨b0,q3,ra,rc,s2,b1⟩ ?_
 iterate 35 first | (refine wpRO_free rfl rfl _ (fun w' => by go_simp; exact Gives.mk _ _) (fun K hK => ?_); go_simp; refine hK _ ?_; clear hK K) | (refine wpRO_skipF rfl rfl (fun K hK => ?_); go_simp; refine hK _ ?_; clear hK K) | (refine wpRO_pure rfl rfl _ (fun w' hG => by obtain ⟨b0,q3,ra,rc,s2,b1⟩ := hG; exact gives_agg2 rfl (by decide +kernel) rfl (by assumption) (by assumption)) (fun K hK => ?_); go_simp; refine hK _ ?_; clear hK K) | (refine wpRO_pure rfl rfl _ (fun w' hG => by obtain ⟨b0,q3,ra,rc,s2,b1⟩ := hG; go_simp; exact Gives.mk _ _) (fun K hK => ?_); go_simp; refine hK _ ?_; clear hK K) | (refine wpRO_skip rfl rfl (fun K hK => ?_); go_simp; refine hK _ ?_; clear hK K)
 refine wpRO_run rfl rfl (fun K hK => ?_); unfold gRun; go_simp
 refine HSET.out.mono ?_
 rintro e w3 ⟨rfl,ht⟩
 have hin := (HB2.out.same ((Keeps.refl (fun _ => False) w2).drew)).inW ht
 have HB3 := Lib.hid hin.1
 have K3 := Lib.hid (((K2.out.drew).mono (fun _ _ h => h.elim)).trans hin.2 : Keeps h.Own w w3)
 have hk3 : Keeps h.a.In w2 w3 := ((Keeps.refl (fun _ => False) w2).drew.mono (fun _ _ h => h.elim)).trans ht.2
 have np : ¬ h.a.In h.p := fun e => HB2.out.p_a e.own
 have ns : ¬ h.a.In sb := fun e => by
  rcases e with (e | e) | e
  ·exact SB2.out.ne HB2.out.H.ha.hp (by decide) e
  ·exact SB2.out.ne HB2.out.H.ha.hg (by decide) e
  ·exact SB2.out.ne HB2.out.H.hc.hq (by decide) e
 have ng := HB2.out.H.in_ro HOWN.out
 refine hK _ _ (fun _ => ⟨(hk3.cell_eq bl np _).trans b0,(hk3.cell_eq ql HB2.out.H.in_p _).trans q3,(hk3.cell_eq hgl ng _).trans ra,(hk3.cell_eq hgl ng _).trans rc,(hk3.cell_eq sl ns _).trans s2,(hk3.cell_eq bl np _).trans b1⟩) ?_
 clear hK K hin hk3 np ns ng ht
 refine wpRO_chg rfl rfl rfl (fun K hK => ?_); unfold gRun; go_simp
 refine (HDO.out _ HB3.out.R).mono ?_
 rintro e w4 ⟨rfl,ht⟩
 refine hK _ _ ?_
 clear hK K
 refine wpRO_swi (fun _ => True) trivial ?_
 iterate 2 first | (refine wpRO_free rfl rfl _ (fun w' => by go_simp; exact Gives.mk _ _) (fun K hK => ?_); go_simp; refine hK _ ?_; clear hK K) | (refine wpRO_skipF rfl rfl (fun K hK => ?_); go_simp; refine hK _ ?_; clear hK K)
 refine wpRO_fin ?_
 have TO := Lib.hid (BothTo.from_keep K3.out (BothTo.world HB3.out ht))
 clear ht b0 b1 bl q0 q1 q2 q3 ql s0 s1 s2 s3 sl hgl ra rc
 go_wp2_with fail
 go_ret
 unfold BothDoRet
 rw [HWO.out,HWD.out]
 exact ⟨by simp [Bool.beq_eq_decide_eq],TO.out⟩
end
end Go.Proofs.Ytjifdalflepcoab
namespace Go.Proofs.Ytjifdalflepcoab
open Go.RowKit
set_option linter.unusedVariables false
set_option linter.unusedSimpArgs false
theorem putC_yes {O : Wo} {r y : Int} : O.putC r (y,0) = (0,O.setRt r y) := rfl
theorem putC_no {O : Wo} {r y e : Int} (h : e ≠ 0) : O.putC r (y,e) = (e,O) := by unfold Wo.putC; rw [if_neg h]
section
variable {w w' : World} {h : BH} {O O' : Wo} {W W' : Wd}
set_option maxHeartbeats 16000000 in
set_option maxRecDepth 100000 in
theorem bothDo2_c (xa xb xc : Int) (B : BothAt w h O W) (hb : R64 xb) :
  Calls Try.prog 74 #[.pointer (some ⟨h.p,0,none⟩), .agg #[.int .i64 2, .int .i64 xa, .int .i64 xb, .int .i64 xc]] w (BothDoRet w h O W 2 xa xb (rootN xa) (rootN xc)) := by
 have ka := (Keeps.refl (fun _ => False) w).alloc (.cells #[.int .i64 2, .int .i64 xa, .int .i64 xb, .int .i64 xc] 112)
 have hs : Blk (w.alloc (.cells #[.int .i64 2, .int .i64 xa, .int .i64 xb, .int .i64 xc] 112)) w.heap.size [.int .i64 2, .int .i64 xa, .int .i64 xb, .int .i64 xc] 112 := Blk.newAt _ rfl rfl
 have HB1 := Lib.hid (B.same ka); have SB := Lib.hid hs; have K1 := Lib.hid ka; have HBB := Lib.hid hb
 clear ka hs B hb
 go_enter Try.func74,Try.ntmps74
 go_wp2_with fail
 generalize w.alloc (.cells #[.int .i64 2, .int .i64 xa, .int .i64 xb, .int .i64 xc] 112) = w1 at *
 generalize w.heap.size = sb at *
 have s0 := SB.out.cell 0; have s1 := SB.out.cell 1; have s2 := SB.out.cell 2; have s3 := SB.out.cell 3; have sl := SB.out.lt
 simp only [List.getElem?_cons_zero,List.getElem?_cons_succ] at s0 s1 s2 s3
 refine wp_region_ro (.free 0 (.free 3 (.pure 1 (.pure 4 (.run 2 (.run 5 (.swi [] (.free 6 (.free 7 (.fin)))))))))) [5,6,7] (fun w' => w'.cell? ⟨sb,1,none⟩ = some (.int .i64 xa) ∧ w'.cell? ⟨sb,3,none⟩ = some (.int .i64 xc)) (by kernel_rfl) (by kernel_rfl) ⟨s1,s3⟩ ?_
 iterate 4 first | (refine wpRO_free rfl rfl _ (fun w' => by go_simp; exact Gives.mk _ _) (fun K hK => ?_); go_simp; refine hK _ ?_; clear hK K) | (refine wpRO_skipF rfl rfl (fun K hK => ?_); go_simp; refine hK _ ?_; clear hK K) | (refine wpRO_pure rfl rfl _ (fun w' hG => by obtain ⟨s1,s3⟩ := hG; exact gives_agg2 rfl (by decide +kernel) rfl (by assumption) (by assumption)) (fun K hK => ?_); go_simp; refine hK _ ?_; clear hK K) | (refine wpRO_pure rfl rfl _ (fun w' hG => by obtain ⟨s1,s3⟩ := hG; go_simp; exact Gives.mk _ _) (fun K hK => ?_); go_simp; refine hK _ ?_; clear hK K) | (refine wpRO_skip rfl rfl (fun K hK => ?_); go_simp; refine hK _ ?_; clear hK K)
 refine wpRO_run rfl rfl (fun K hK => ?_); unfold gRun; go_simp
 refine (Root_c xa _).mono ?_
 rintro e w2 ⟨rfl,rfl⟩
 refine hK _ _ (fun hg => hg) ?_
 clear hK K
 refine wpRO_chg rfl rfl rfl (fun K hK => ?_); unfold gRun; go_simp
 refine (Root_c xc _).mono ?_
 rintro e w2 ⟨rfl,rfl⟩
 refine hK _ _ ?_
 clear hK K
 refine wpRO_swi (fun _ => True) trivial ?_
 iterate 2 first | (refine wpRO_free rfl rfl _ (fun w' => by go_simp; exact Gives.mk _ _) (fun K hK => ?_); go_simp; refine hK _ ?_; clear hK K) | (refine wpRO_skipF rfl rfl (fun K hK => ?_); go_simp; refine hK _ ?_; clear hK K)
 refine wpRO_fin ?_
 have ha12 := rootN_lt xa; have hc12 := rootN_lt xc
 generalize rootN xa = a at *
 generalize rootN xc = c at *
 have HB2 := Lib.hid (HB1.out.same ((Keeps.refl (fun _ => False) w1).drew)); have K2 := Lib.hid (K1.out.drew); have SB2 := Lib.hid (show Blk w1.drew sb _ _ from SB.out.drew)
 clear s0 s1 s2 s3 sl HB1 K1 SB
 generalize w1.drew = w2 at *
 have s0 := SB2.out.cell 0; have s1 := SB2.out.cell 1; have s2 := SB2.out.cell 2; have s3 := SB2.out.cell 3; have sl := SB2.out.lt
 simp only [List.getElem?_cons_zero,List.getElem?_cons_succ] at s0 s1 s2 s3
 have b0 := HB2.out.hp.cell 0; have b1 := HB2.out.hp.cell 1; have bl := HB2.out.hp.lt
 simp only [List.getElem?_cons_zero,List.getElem?_cons_succ] at b0 b1
 have hor12 := HB2.out.H.ok.h12
 obtain ⟨g,o,cap,hro,hown,hgl,q3,fz,rcs⟩ := HB2.out.H.roots
 obtain ⟨q0,q1,q2, -⟩ := HB2.out.H.ptrs
 have ra := rcs a (by omega); have rc := rcs c (by omega)
 have fc := fz (o + c)
 rw [hor12] at q3 hro
 have HRO := Lib.hid hro; have HOWN := Lib.hid hown; have HO12 := Lib.hid hor12; have HFZ := Lib.hid fz; have HRCS := Lib.hid rcs
 have ql := HB2.out.H.hp.lt
 clear hro hown hor12 fz rcs
 have yl : (O.ar.yng : Int) ≤ 1280 := by have := HB2.out.H.ok.ha.h1; have := HB2.out.H.ok.ha.h2; have := HB2.out.H.ok.ha.h3; have := HB2.out.H.ok.ha.h4; omega
 have ha12i : (a : Int) < 12 := by omega
 have hc12i : (c : Int) < 12 := by omega
 have ra : w2.cell? ⟨g,o + a,none⟩ = some (.int .i64 (O.rtA a)) := by unfold Wo.rtA; rw [Int.toNat_natCast]; exact ra
 have HWO := Lib.hid (show woC O 2 xa xb a c = O.putC c (O.ar.get (O.rtA a) xb) by unfold woC; rw [if_neg (by decide),if_neg (by decide),if_pos rfl])
 have HWD := Lib.hid (show wdC W 2 xa xb a c = W.do ⟨11,c,a,0,xb,0⟩ by unfold wdC; rw [if_neg (by decide),if_neg (by decide),if_pos rfl])
 have hget := Get_c (O.rtA a) xb (HB2.out.same ((Keeps.refl (fun _ => False) w2).drew)).H
 have hdo := fun w' (R : WorldAt w' h.b W) => WDoGet_c c a 0 xb 0 R
 have HYR := Lib.hid (get_R64 HB2.out.H.ok.ha (O.rtA a) xb)
 generalize O.rtA a = va at *
 obtain ⟨⟨y,e⟩,hS⟩ : ∃ t,O.ar.get va xb = t := ⟨_,rfl⟩
 obtain ⟨⟨dc,W'⟩,hD⟩ : ∃ t,W.do ⟨11,c,a,0,xb,0⟩ = t := ⟨_,rfl⟩
 rw [hS] at hget HWO HYR
 rw [hD] at HWD
 simp only [hD] at hdo
 have HGET := Lib.hid hget; have HDO := Lib.hid hdo
 clear hS hD hget hdo fc rc
 go_wp2_with fail
 refine wp_region_ro (.free 0 (.free 1 (.free 2 (.free 4 (.free 5 (.free 6 (.free 11 (.free 14 (.pure 3 (.pure 7 (.free 8 (.free 9 (.pure 10 (.free 12 (.pure 13 (.pure 15 (.run 16 (.swi [] (.free 17 (.free 18 (.free 19 (.free 20 (.free 21 (.fin)))))))))))))))))))))))) [16,17,18,19,20,21] (fun w' => w'.cell? ⟨h.p,0,none⟩ = some (.pointer (some ⟨h.a.p,0,none⟩)) ∧ w'.cell? ⟨h.a.p,3,none⟩ = some (.slice (some ⟨g,o,none⟩) 12 cap) ∧ w'.cell? ⟨g,o + a,none⟩ = some (.int .i64 va) ∧ w'.cell? ⟨sb,2,none⟩ = some (.int .i64 xb)) (by kernel_rfl) (by kernel_rfl) ⟨b0,q3,ra,s2⟩ ?_
 iterate 16 first | (refine wpRO_free rfl rfl _ (fun w' => by go_simp; exact Gives.mk _ _) (fun K hK => ?_); go_simp; refine hK _ ?_; clear hK K) | (refine wpRO_skipF rfl rfl (fun K hK => ?_); go_simp; refine hK _ ?_; clear hK K) | (refine wpRO_pure rfl rfl _ (fun w' hG => by obtain ⟨b0,q3,ra,s2⟩ := hG; exact gives_agg2 rfl (by decide +kernel) rfl (by assumption) (by assumption)) (fun K hK => ?_); go_simp; refine hK _ ?_; clear hK K) | (refine wpRO_pure rfl rfl _ (fun w' hG => by obtain ⟨b0,q3,ra,s2⟩ := hG; go_simp; exact Gives.mk _ _) (fun K hK => ?_); go_simp; refine hK _ ?_; clear hK K) | (refine wpRO_skip rfl rfl (fun K hK => ?_); go_simp; refine hK _ ?_; clear hK K)
 refine wpRO_chg rfl rfl rfl (fun K hK => ?_); unfold gRun; go_simp
 refine HGET.out.mono ?_
 rintro e3 w3 ⟨rfl,rfl⟩
 refine hK _ _ ?_
 clear hK K
 refine wpRO_swi (fun _ => True) trivial ?_
 iterate 5 first | (refine wpRO_free rfl rfl _ (fun w' => by go_simp; exact Gives.mk _ _) (fun K hK => ?_); go_simp; refine hK _ ?_; clear hK K) | (refine wpRO_skipF rfl rfl (fun K hK => ?_); go_simp; refine hK _ ?_; clear hK K)
 refine wpRO_fin ?_
 have HB3 := Lib.hid (HB2.out.same ((Keeps.refl (fun _ => False) w2).drew))
 have K3 := Lib.hid (K2.out.drew.mono (fun _ _ h => h.elim) : Keeps h.Own w w2.drew)
 have SB3 := Lib.hid (show Blk w2.drew sb _ _ from SB2.out.drew)
 clear HB2 K2 SB2 HRCS HFZ b0 b1 bl q0 q1 q2 q3 ql s0 s1 s2 s3 sl hgl ra HGET
 generalize w2.drew = w3 at *
 by_cases he : e = 0
 ·subst he
  obtain ⟨b0,b1,bl⟩ := HB3.out.pcells
  obtain ⟨q0,q3,ql,gl,gf,gc⟩ := HB3.out.rcells HRO.out hc12
  have hin := HB3.out.rootW (k := c) (x := y) HRO.out hc12 HYR.out
  have HB4 := Lib.hid hin.1
  have K4 := Lib.hid (K3.out.trans hin.2)
  have SB4 := Lib.hid (show Blk _ sb _ _ from ((Keeps.refl (· = g) w3).setCell (p := ⟨g,o + c,none⟩) (.inl rfl) (.int .i64 (y))).blk SB3.out (fun e => by
   obtain ⟨_,l,hl⟩ := HB3.out.H.hr.own (k := g) (by rw [HRO.out]; rfl)
   exact SB3.out.ne hl (by decide) e))
  clear hin b1 HB3 K3 SB3
  go_wp2_with fail
  generalize w3.setCell ⟨g,o + c,none⟩ (.int .i64 y) = w4 at *
  clear b0 bl q0 q3 ql gl gf gc
  obtain ⟨b0,b1,bl⟩ := HB4.out.pcells
  have s2 := SB4.out.cell 2; have sl := SB4.out.lt
  simp only [List.getElem?_cons_zero,List.getElem?_cons_succ] at s2
  go_wp2_with fail
  refine wp_region_ro (.free 0 (.free 1 (.free 2 (.free 3 (.free 5 (.free 6 (.free 7 (.pure 4 (.pure 8 (.free 9 (.run 10 (.swi [] (.free 11 (.free 12 (.fin))))))))))))))) [10,11,12] (fun w' => w'.cell? ⟨h.p,1,none⟩ = some (.pointer (some ⟨h.b.p,0,none⟩)) ∧ w'.cell? ⟨sb,2,none⟩ = some (.int .i64 xb)) (by kernel_rfl) (by kernel_rfl) ⟨b1,s2⟩ ?_
  iterate 10 first | (refine wpRO_free rfl rfl _ (fun w' => by go_simp; exact Gives.mk _ _) (fun K hK => ?_); go_simp; refine hK _ ?_; clear hK K) | (refine wpRO_skipF rfl rfl (fun K hK => ?_); go_simp; refine hK _ ?_; clear hK K) | (refine wpRO_pure rfl rfl _ (fun w' hG => by obtain ⟨b1,s2⟩ := hG; exact gives_agg2 rfl (by decide +kernel) rfl (by assumption) (by assumption)) (fun K hK => ?_); go_simp; refine hK _ ?_; clear hK K) | (refine wpRO_pure rfl rfl _ (fun w' hG => by obtain ⟨b1,s2⟩ := hG; go_simp; exact Gives.mk _ _) (fun K hK => ?_); go_simp; refine hK _ ?_; clear hK K) | (refine wpRO_skip rfl rfl (fun K hK => ?_); go_simp; refine hK _ ?_; clear hK K)
  refine wpRO_chg rfl rfl rfl (fun K hK => ?_); unfold gRun; go_simp
  refine (HDO.out _ (HB4.out.same ((Keeps.refl (fun _ => False) w4).drew)).R).mono ?_
  rintro e5 w5 ⟨rfl,ht⟩
  refine hK _ _ ?_
  clear hK K
  refine wpRO_swi (fun _ => True) trivial ?_
  iterate 2 first | (refine wpRO_free rfl rfl _ (fun w' => by go_simp; exact Gives.mk _ _) (fun K hK => ?_); go_simp; refine hK _ ?_; clear hK K) | (refine wpRO_skipF rfl rfl (fun K hK => ?_); go_simp; refine hK _ ?_; clear hK K)
  refine wpRO_fin ?_
  have TO := Lib.hid (BothTo.from_keep K4.out.drew (BothTo.world (HB4.out.same ((Keeps.refl (fun _ => False) w4).drew)) ht))
  clear ht b0 b1 s2 sl bl
  go_wp2_with fail
  go_ret
  unfold BothDoRet
  rw [HWO.out,HWD.out,putC_yes]
  exact ⟨by simp [Bool.beq_eq_decide_eq],TO.out⟩
 ·have hd : (e == 0) = false := by simpa using he
  have HB4 := HB3; have K4 := K3; have SB4 := SB3
  have HPN := Lib.hid (putC_no (O := O) (r := (c : Int)) (y := y) he)
  clear HB3 K3 SB3 he
  generalize w3 = w4 at *
  obtain ⟨b0,b1,bl⟩ := HB4.out.pcells
  have s2 := SB4.out.cell 2; have sl := SB4.out.lt
  simp only [List.getElem?_cons_zero,List.getElem?_cons_succ] at s2
  go_wp2_with fail
  refine wp_region_ro (.free 0 (.free 1 (.free 2 (.free 3 (.free 5 (.free 6 (.free 7 (.pure 4 (.pure 8 (.free 9 (.run 10 (.swi [] (.free 11 (.free 12 (.fin))))))))))))))) [10,11,12] (fun w' => w'.cell? ⟨h.p,1,none⟩ = some (.pointer (some ⟨h.b.p,0,none⟩)) ∧ w'.cell? ⟨sb,2,none⟩ = some (.int .i64 xb)) (by kernel_rfl) (by kernel_rfl) ⟨b1,s2⟩ ?_
  iterate 10 first | (refine wpRO_free rfl rfl _ (fun w' => by go_simp; exact Gives.mk _ _) (fun K hK => ?_); go_simp; refine hK _ ?_; clear hK K) | (refine wpRO_skipF rfl rfl (fun K hK => ?_); go_simp; refine hK _ ?_; clear hK K) | (refine wpRO_pure rfl rfl _ (fun w' hG => by obtain ⟨b1,s2⟩ := hG; exact gives_agg2 rfl (by decide +kernel) rfl (by assumption) (by assumption)) (fun K hK => ?_); go_simp; refine hK _ ?_; clear hK K) | (refine wpRO_pure rfl rfl _ (fun w' hG => by obtain ⟨b1,s2⟩ := hG; go_simp; exact Gives.mk _ _) (fun K hK => ?_); go_simp; refine hK _ ?_; clear hK K) | (refine wpRO_skip rfl rfl (fun K hK => ?_); go_simp; refine hK _ ?_; clear hK K)
  refine wpRO_chg rfl rfl rfl (fun K hK => ?_); unfold gRun; go_simp
  refine (HDO.out _ (HB4.out.same ((Keeps.refl (fun _ => False) w4).drew)).R).mono ?_
  rintro e5 w5 ⟨rfl,ht⟩
  refine hK _ _ ?_
  clear hK K
  refine wpRO_swi (fun _ => True) trivial ?_
  iterate 2 first | (refine wpRO_free rfl rfl _ (fun w' => by go_simp; exact Gives.mk _ _) (fun K hK => ?_); go_simp; refine hK _ ?_; clear hK K) | (refine wpRO_skipF rfl rfl (fun K hK => ?_); go_simp; refine hK _ ?_; clear hK K)
  refine wpRO_fin ?_
  have TO := Lib.hid (BothTo.from_keep K4.out.drew (BothTo.world (HB4.out.same ((Keeps.refl (fun _ => False) w4).drew)) ht))
  clear ht b0 b1 s2 sl bl
  go_wp2_with fail
  go_ret
  unfold BothDoRet
  rw [HWO.out,HWD.out,HPN.out]
  exact ⟨by simp [Bool.beq_eq_decide_eq],TO.out⟩
end
end Go.Proofs.Ytjifdalflepcoab
namespace Go.Proofs.Ytjifdalflepcoab
open Go.RowKit
set_option linter.unusedVariables false
set_option linter.unusedSimpArgs false
theorem encW_num (n : Int) : encW 1 n = if -big ≤ n ∧ n < big then (4 * n,0) else (0,1) := by unfold encW; rw [if_neg (by decide),if_neg (by decide),if_pos rfl]
section
variable {w w' : World} {h : BH} {O O' : Wo} {W W' : Wd}
set_option maxHeartbeats 16000000 in
set_option maxRecDepth 100000 in
theorem bothDo3_c (xa xb xc : Int) (B : BothAt w h O W) (hb : R64 xa) :
  Calls Try.prog 74 #[.pointer (some ⟨h.p,0,none⟩), .agg #[.int .i64 3, .int .i64 xa, .int .i64 xb, .int .i64 xc]] w (BothDoRet w h O W 3 xa xb (rootN xa) (rootN xc)) := by
 have ka := (Keeps.refl (fun _ => False) w).alloc (.cells #[.int .i64 3, .int .i64 xa, .int .i64 xb, .int .i64 xc] 112)
 have hs : Blk (w.alloc (.cells #[.int .i64 3, .int .i64 xa, .int .i64 xb, .int .i64 xc] 112)) w.heap.size [.int .i64 3, .int .i64 xa, .int .i64 xb, .int .i64 xc] 112 := Blk.newAt _ rfl rfl
 have HB1 := Lib.hid (B.same ka); have SB := Lib.hid hs; have K1 := Lib.hid ka; have HBB := Lib.hid hb
 clear ka hs B hb
 go_enter Try.func74,Try.ntmps74
 go_wp2_with fail
 generalize w.alloc (.cells #[.int .i64 3, .int .i64 xa, .int .i64 xb, .int .i64 xc] 112) = w1 at *
 generalize w.heap.size = sb at *
 have s0 := SB.out.cell 0; have s1 := SB.out.cell 1; have s2 := SB.out.cell 2; have s3 := SB.out.cell 3; have sl := SB.out.lt
 simp only [List.getElem?_cons_zero,List.getElem?_cons_succ] at s0 s1 s2 s3
 refine wp_region_ro (.free 0 (.free 3 (.pure 1 (.pure 4 (.run 2 (.run 5 (.swi [] (.free 6 (.free 7 (.fin)))))))))) [5,6,7] (fun w' => w'.cell? ⟨sb,1,none⟩ = some (.int .i64 xa) ∧ w'.cell? ⟨sb,3,none⟩ = some (.int .i64 xc)) (by kernel_rfl) (by kernel_rfl) ⟨s1,s3⟩ ?_
 iterate 4 first | (refine wpRO_free rfl rfl _ (fun w' => by go_simp; exact Gives.mk _ _) (fun K hK => ?_); go_simp; refine hK _ ?_; clear hK K) | (refine wpRO_skipF rfl rfl (fun K hK => ?_); go_simp; refine hK _ ?_; clear hK K) | (refine wpRO_pure rfl rfl _ (fun w' hG => by obtain ⟨s1,s3⟩ := hG; exact gives_agg2 rfl (by decide +kernel) rfl (by assumption) (by assumption)) (fun K hK => ?_); go_simp; refine hK _ ?_; clear hK K) | (refine wpRO_pure rfl rfl _ (fun w' hG => by obtain ⟨s1,s3⟩ := hG; go_simp; exact Gives.mk _ _) (fun K hK => ?_); go_simp; refine hK _ ?_; clear hK K) | (refine wpRO_skip rfl rfl (fun K hK => ?_); go_simp; refine hK _ ?_; clear hK K)
 refine wpRO_run rfl rfl (fun K hK => ?_); unfold gRun; go_simp
 refine (Root_c xa _).mono ?_
 rintro e w2 ⟨rfl,rfl⟩
 refine hK _ _ (fun hg => hg) ?_
 clear hK K
 refine wpRO_chg rfl rfl rfl (fun K hK => ?_); unfold gRun; go_simp
 refine (Root_c xc _).mono ?_
 rintro e w2 ⟨rfl,rfl⟩
 refine hK _ _ ?_
 clear hK K
 refine wpRO_swi (fun _ => True) trivial ?_
 iterate 2 first | (refine wpRO_free rfl rfl _ (fun w' => by go_simp; exact Gives.mk _ _) (fun K hK => ?_); go_simp; refine hK _ ?_; clear hK K) | (refine wpRO_skipF rfl rfl (fun K hK => ?_); go_simp; refine hK _ ?_; clear hK K)
 refine wpRO_fin ?_
 have ha12 := rootN_lt xa; have hc12 := rootN_lt xc
 generalize rootN xa = a at *
 generalize rootN xc = c at *
 have HB2 := Lib.hid (HB1.out.same ((Keeps.refl (fun _ => False) w1).drew)); have K2 := Lib.hid (K1.out.drew); have SB2 := Lib.hid (show Blk w1.drew sb _ _ from SB.out.drew)
 clear s0 s1 s2 s3 sl HB1 K1 SB
 generalize w1.drew = w2 at *
 have s0 := SB2.out.cell 0; have s1 := SB2.out.cell 1; have s2 := SB2.out.cell 2; have s3 := SB2.out.cell 3; have sl := SB2.out.lt
 simp only [List.getElem?_cons_zero,List.getElem?_cons_succ] at s0 s1 s2 s3
 have b0 := HB2.out.hp.cell 0; have b1 := HB2.out.hp.cell 1; have bl := HB2.out.hp.lt
 simp only [List.getElem?_cons_zero,List.getElem?_cons_succ] at b0 b1
 have hor12 := HB2.out.H.ok.h12
 obtain ⟨g,o,cap,hro,hown,hgl,q3,fz,rcs⟩ := HB2.out.H.roots
 obtain ⟨q0,q1,q2, -⟩ := HB2.out.H.ptrs
 have ra := rcs a (by omega); have rc := rcs c (by omega)
 have fc := fz (o + c)
 rw [hor12] at q3 hro
 have HRO := Lib.hid hro; have HOWN := Lib.hid hown; have HO12 := Lib.hid hor12; have HFZ := Lib.hid fz; have HRCS := Lib.hid rcs
 have ql := HB2.out.H.hp.lt
 clear hro hown hor12 fz rcs
 have yl : (O.ar.yng : Int) ≤ 1280 := by have := HB2.out.H.ok.ha.h1; have := HB2.out.H.ok.ha.h2; have := HB2.out.H.ok.ha.h3; have := HB2.out.H.ok.ha.h4; omega
 have ha12i : (a : Int) < 12 := by omega
 have hc12i : (c : Int) < 12 := by omega
 have HWO := Lib.hid (show woC O 3 xa xb a c = if -big ≤ xa ∧ xa < big then (0,O.setRt c (4 * xa)) else (1,O) by unfold woC; rw [if_neg (by decide),if_neg (by decide),if_neg (by decide),if_pos rfl])
 have HWD := Lib.hid (show wdC W 3 xa xb a c = W.do ⟨1,c,0,0,0,xa⟩ by unfold wdC; rw [if_neg (by decide),if_neg (by decide),if_neg (by decide),if_pos rfl])
 have hdo := fun w' (R : WorldAt w' h.b W) => WDoInt_c c 0 0 0 xa R
 obtain ⟨⟨dc,W'⟩,hD⟩ : ∃ t,W.do ⟨1,c,0,0,0,xa⟩ = t := ⟨_,rfl⟩
 rw [hD] at HWD
 simp only [hD] at hdo
 have HDO := Lib.hid hdo
 have HEN := Lib.hid (encW_num xa)
 clear hD hdo fc rc ra
 go_wp2_with fail
 refine (Encode_c 1 xa _ HBB.out.1 HBB.out.2).mono ?_
 rintro e w3 ⟨rfl,hk⟩
 have HB3 := Lib.hid (HB2.out.same hk)
 have K3 := Lib.hid ((K2.out.trans hk).mono (fun _ _ h => h.elim) : Keeps h.Own w w3)
 have SB3 := Lib.hid (hk.blk SB2.out (fun h => h))
 clear HB2 K2 SB2 HRCS HFZ b0 b1 bl q0 q1 q2 q3 ql s0 s1 s2 s3 sl hgl hk
 rw [HEN.out]
 by_cases hn : -big ≤ xa ∧ xa < big
 ·have HWO2 := Lib.hid (HWO.out.trans (if_pos hn))
  have hx : R64 (4 * xa) := by unfold R64; have := hn.1; have := hn.2; unfold big at *; omega
  rw [if_pos hn]
  clear hn
  obtain ⟨b0,b1,bl⟩ := HB3.out.pcells
  obtain ⟨q0,q3,ql,gl,gf,gc⟩ := HB3.out.rcells HRO.out hc12
  have hin := HB3.out.rootW (k := c) (x := 4 * xa) HRO.out hc12 hx
  have HB4 := Lib.hid hin.1
  have K4 := Lib.hid (K3.out.trans hin.2)
  have SB4 := Lib.hid (show Blk _ sb _ _ from ((Keeps.refl (· = g) w3).setCell (p := ⟨g,o + c,none⟩) (.inl rfl) (.int .i64 (4 * xa))).blk SB3.out (fun e => by
   obtain ⟨_,l,hl⟩ := HB3.out.H.hr.own (k := g) (by rw [HRO.out]; rfl)
   exact SB3.out.ne hl (by decide) e))
  clear hin b1 HB3 K3 SB3 hx
  go_wp2_with fail
  generalize w3.setCell ⟨g,o + c,none⟩ (.int .i64 (4 * xa)) = w4 at *
  clear b0 bl q0 q3 ql gl gf gc
  obtain ⟨b0,b1,bl⟩ := HB4.out.pcells
  have s1 := SB4.out.cell 1; have sl := SB4.out.lt
  simp only [List.getElem?_cons_zero,List.getElem?_cons_succ] at s1
  go_wp2_with fail
  refine wp_region_ro (.free 0 (.free 1 (.free 2 (.free 3 (.free 5 (.free 6 (.pure 4 (.pure 7 (.free 8 (.run 9 (.swi [] (.free 10 (.free 11 (.fin)))))))))))))) [9,10,11] (fun w' => w'.cell? ⟨h.p,1,none⟩ = some (.pointer (some ⟨h.b.p,0,none⟩)) ∧ w'.cell? ⟨sb,1,none⟩ = some (.int .i64 xa)) (by kernel_rfl) (by kernel_rfl) ⟨b1,s1⟩ ?_
  iterate 9 first | (refine wpRO_free rfl rfl _ (fun w' => by go_simp; exact Gives.mk _ _) (fun K hK => ?_); go_simp; refine hK _ ?_; clear hK K) | (refine wpRO_skipF rfl rfl (fun K hK => ?_); go_simp; refine hK _ ?_; clear hK K) | (refine wpRO_pure rfl rfl _ (fun w' hG => by obtain ⟨b1,s1⟩ := hG; exact gives_agg2 rfl (by decide +kernel) rfl (by assumption) (by assumption)) (fun K hK => ?_); go_simp; refine hK _ ?_; clear hK K) | (refine wpRO_pure rfl rfl _ (fun w' hG => by obtain ⟨b1,s1⟩ := hG; go_simp; exact Gives.mk _ _) (fun K hK => ?_); go_simp; refine hK _ ?_; clear hK K) | (refine wpRO_skip rfl rfl (fun K hK => ?_); go_simp; refine hK _ ?_; clear hK K)
  refine wpRO_chg rfl rfl rfl (fun K hK => ?_); unfold gRun; go_simp
  refine (HDO.out _ (HB4.out.same ((Keeps.refl (fun _ => False) w4).drew)).R).mono ?_
  rintro e5 w5 ⟨rfl,ht⟩
  refine hK _ _ ?_
  clear hK K
  refine wpRO_swi (fun _ => True) trivial ?_
  iterate 2 first | (refine wpRO_free rfl rfl _ (fun w' => by go_simp; exact Gives.mk _ _) (fun K hK => ?_); go_simp; refine hK _ ?_; clear hK K) | (refine wpRO_skipF rfl rfl (fun K hK => ?_); go_simp; refine hK _ ?_; clear hK K)
  refine wpRO_fin ?_
  have TO := Lib.hid (BothTo.from_keep K4.out.drew (BothTo.world (HB4.out.same ((Keeps.refl (fun _ => False) w4).drew)) ht))
  clear ht b0 b1 s1 sl bl
  go_wp2_with fail
  go_ret
  unfold BothDoRet
  rw [HWO2.out,HWD.out]
  exact ⟨by simp [Bool.beq_eq_decide_eq],TO.out⟩
 ·have HWO2 := Lib.hid (HWO.out.trans (if_neg hn))
  rw [if_neg hn]
  have HB4 := HB3; have K4 := K3; have SB4 := SB3
  clear HB3 K3 SB3 hn
  generalize w3 = w4 at *
  obtain ⟨b0,b1,bl⟩ := HB4.out.pcells
  have s1 := SB4.out.cell 1; have sl := SB4.out.lt
  simp only [List.getElem?_cons_zero,List.getElem?_cons_succ] at s1
  go_wp2_with fail
  refine wp_region_ro (.free 0 (.free 1 (.free 2 (.free 3 (.free 5 (.free 6 (.pure 4 (.pure 7 (.free 8 (.run 9 (.swi [] (.free 10 (.free 11 (.fin)))))))))))))) [9,10,11] (fun w' => w'.cell? ⟨h.p,1,none⟩ = some (.pointer (some ⟨h.b.p,0,none⟩)) ∧ w'.cell? ⟨sb,1,none⟩ = some (.int .i64 xa)) (by kernel_rfl) (by kernel_rfl) ⟨b1,s1⟩ ?_
  iterate 9 first | (refine wpRO_free rfl rfl _ (fun w' => by go_simp; exact Gives.mk _ _) (fun K hK => ?_); go_simp; refine hK _ ?_; clear hK K) | (refine wpRO_skipF rfl rfl (fun K hK => ?_); go_simp; refine hK _ ?_; clear hK K) | (refine wpRO_pure rfl rfl _ (fun w' hG => by obtain ⟨b1,s1⟩ := hG; exact gives_agg2 rfl (by decide +kernel) rfl (by assumption) (by assumption)) (fun K hK => ?_); go_simp; refine hK _ ?_; clear hK K) | (refine wpRO_pure rfl rfl _ (fun w' hG => by obtain ⟨b1,s1⟩ := hG; go_simp; exact Gives.mk _ _) (fun K hK => ?_); go_simp; refine hK _ ?_; clear hK K) | (refine wpRO_skip rfl rfl (fun K hK => ?_); go_simp; refine hK _ ?_; clear hK K)
  refine wpRO_chg rfl rfl rfl (fun K hK => ?_); unfold gRun; go_simp
  refine (HDO.out _ (HB4.out.same ((Keeps.refl (fun _ => False) w4).drew)).R).mono ?_
  rintro e5 w5 ⟨rfl,ht⟩
  refine hK _ _ ?_
  clear hK K
  refine wpRO_swi (fun _ => True) trivial ?_
  iterate 2 first | (refine wpRO_free rfl rfl _ (fun w' => by go_simp; exact Gives.mk _ _) (fun K hK => ?_); go_simp; refine hK _ ?_; clear hK K) | (refine wpRO_skipF rfl rfl (fun K hK => ?_); go_simp; refine hK _ ?_; clear hK K)
  refine wpRO_fin ?_
  have TO := Lib.hid (BothTo.from_keep K4.out.drew (BothTo.world (HB4.out.same ((Keeps.refl (fun _ => False) w4).drew)) ht))
  clear ht b0 b1 s1 sl bl
  go_wp2_with fail
  go_ret
  unfold BothDoRet
  rw [HWO2.out,HWD.out]
  exact ⟨by simp [Bool.beq_eq_decide_eq],TO.out⟩
set_option maxHeartbeats 16000000 in
set_option maxRecDepth 100000 in
theorem bothDo4_c (xa xb xc : Int) (B : BothAt w h O W) (hb : R64 xa) :
  Calls Try.prog 74 #[.pointer (some ⟨h.p,0,none⟩), .agg #[.int .i64 4, .int .i64 xa, .int .i64 xb, .int .i64 xc]] w (BothDoRet w h O W 4 xa xb (rootN xa) (rootN xc)) := by
 have ka := (Keeps.refl (fun _ => False) w).alloc (.cells #[.int .i64 4, .int .i64 xa, .int .i64 xb, .int .i64 xc] 112)
 have hs : Blk (w.alloc (.cells #[.int .i64 4, .int .i64 xa, .int .i64 xb, .int .i64 xc] 112)) w.heap.size [.int .i64 4, .int .i64 xa, .int .i64 xb, .int .i64 xc] 112 := Blk.newAt _ rfl rfl
 have HB1 := Lib.hid (B.same ka); have SB := Lib.hid hs; have K1 := Lib.hid ka; have HBB := Lib.hid hb
 clear ka hs B hb
 go_enter Try.func74,Try.ntmps74
 go_wp2_with fail
 generalize w.alloc (.cells #[.int .i64 4, .int .i64 xa, .int .i64 xb, .int .i64 xc] 112) = w1 at *
 generalize w.heap.size = sb at *
 have s0 := SB.out.cell 0; have s1 := SB.out.cell 1; have s2 := SB.out.cell 2; have s3 := SB.out.cell 3; have sl := SB.out.lt
 simp only [List.getElem?_cons_zero,List.getElem?_cons_succ] at s0 s1 s2 s3
 refine wp_region_ro (.free 0 (.free 3 (.pure 1 (.pure 4 (.run 2 (.run 5 (.swi [] (.free 6 (.free 7 (.fin)))))))))) [5,6,7] (fun w' => w'.cell? ⟨sb,1,none⟩ = some (.int .i64 xa) ∧ w'.cell? ⟨sb,3,none⟩ = some (.int .i64 xc)) (by kernel_rfl) (by kernel_rfl) ⟨s1,s3⟩ ?_
 iterate 4 first | (refine wpRO_free rfl rfl _ (fun w' => by go_simp; exact Gives.mk _ _) (fun K hK => ?_); go_simp; refine hK _ ?_; clear hK K) | (refine wpRO_skipF rfl rfl (fun K hK => ?_); go_simp; refine hK _ ?_; clear hK K) | (refine wpRO_pure rfl rfl _ (fun w' hG => by obtain ⟨s1,s3⟩ := hG; exact gives_agg2 rfl (by decide +kernel) rfl (by assumption) (by assumption)) (fun K hK => ?_); go_simp; refine hK _ ?_; clear hK K) | (refine wpRO_pure rfl rfl _ (fun w' hG => by obtain ⟨s1,s3⟩ := hG; go_simp; exact Gives.mk _ _) (fun K hK => ?_); go_simp; refine hK _ ?_; clear hK K) | (refine wpRO_skip rfl rfl (fun K hK => ?_); go_simp; refine hK _ ?_; clear hK K)
 refine wpRO_run rfl rfl (fun K hK => ?_); unfold gRun; go_simp
 refine (Root_c xa _).mono ?_
 rintro e w2 ⟨rfl,rfl⟩
 refine hK _ _ (fun hg => hg) ?_
 clear hK K
 refine wpRO_chg rfl rfl rfl (fun K hK => ?_); unfold gRun; go_simp
 refine (Root_c xc _).mono ?_
 rintro e w2 ⟨rfl,rfl⟩
 refine hK _ _ ?_
 clear hK K
 refine wpRO_swi (fun _ => True) trivial ?_
 iterate 2 first | (refine wpRO_free rfl rfl _ (fun w' => by go_simp; exact Gives.mk _ _) (fun K hK => ?_); go_simp; refine hK _ ?_; clear hK K) | (refine wpRO_skipF rfl rfl (fun K hK => ?_); go_simp; refine hK _ ?_; clear hK K)
 refine wpRO_fin ?_
 have ha12 := rootN_lt xa; have hc12 := rootN_lt xc
 generalize rootN xa = a at *
 generalize rootN xc = c at *
 have HB2 := Lib.hid (HB1.out.same ((Keeps.refl (fun _ => False) w1).drew)); have K2 := Lib.hid (K1.out.drew); have SB2 := Lib.hid (show Blk w1.drew sb _ _ from SB.out.drew)
 clear s0 s1 s2 s3 sl HB1 K1 SB
 generalize w1.drew = w2 at *
 have s0 := SB2.out.cell 0; have s1 := SB2.out.cell 1; have s2 := SB2.out.cell 2; have s3 := SB2.out.cell 3; have sl := SB2.out.lt
 simp only [List.getElem?_cons_zero,List.getElem?_cons_succ] at s0 s1 s2 s3
 have b0 := HB2.out.hp.cell 0; have b1 := HB2.out.hp.cell 1; have bl := HB2.out.hp.lt
 simp only [List.getElem?_cons_zero,List.getElem?_cons_succ] at b0 b1
 have hor12 := HB2.out.H.ok.h12
 obtain ⟨g,o,cap,hro,hown,hgl,q3,fz,rcs⟩ := HB2.out.H.roots
 obtain ⟨q0,q1,q2, -⟩ := HB2.out.H.ptrs
 have ra := rcs a (by omega); have rc := rcs c (by omega)
 have fc := fz (o + c)
 rw [hor12] at q3 hro
 have HRO := Lib.hid hro; have HOWN := Lib.hid hown; have HO12 := Lib.hid hor12; have HFZ := Lib.hid fz; have HRCS := Lib.hid rcs
 have ql := HB2.out.H.hp.lt
 clear hro hown hor12 fz rcs
 have yl : (O.ar.yng : Int) ≤ 1280 := by have := HB2.out.H.ok.ha.h1; have := HB2.out.H.ok.ha.h2; have := HB2.out.H.ok.ha.h3; have := HB2.out.H.ok.ha.h4; omega
 have ha12i : (a : Int) < 12 := by omega
 have hc12i : (c : Int) < 12 := by omega
 have HWO := Lib.hid (show woC O 4 xa xb a c = (0,O.setRt c 2) by unfold woC; rw [if_neg (by decide),if_neg (by decide),if_neg (by decide),if_neg (by decide),if_pos rfl])
 have HWD := Lib.hid (show wdC W 4 xa xb a c = (0,(W.do ⟨2,c,0,0,0,0⟩).2) by unfold wdC; rw [if_neg (by decide),if_neg (by decide),if_neg (by decide),if_neg (by decide),if_pos rfl])
 have hdo := fun w' (R : WorldAt w' h.b W) => WDoNil_c c 0 0 0 0 R
 obtain ⟨⟨dc,W'⟩,hD⟩ : ∃ t,W.do ⟨2,c,0,0,0,0⟩ = t := ⟨_,rfl⟩
 rw [hD] at HWD
 simp only [hD] at hdo
 have HDO := Lib.hid hdo
 clear hD hdo fc rc ra
 obtain ⟨_,_,ql',gl,gf,gc⟩ := HB2.out.rcells HRO.out hc12
 go_wp2_with fail
 refine wp_region_ro (.free 0 (.free 1 (.free 2 (.free 7 (.pure 3 (.free 4 (.free 5 (.pure 6 (.run 8 (.free 9 (.run 10 (.swi [] (.fin))))))))))))) [10] (fun w' => w'.cell? ⟨h.p,0,none⟩ = some (.pointer (some ⟨h.a.p,0,none⟩)) ∧ w'.cell? ⟨h.a.p,3,none⟩ = some (.slice (some ⟨g,o,none⟩) 12 cap)) (by kernel_rfl) (by kernel_rfl) ⟨b0,q3⟩ ?_
 iterate 8 first | (refine wpRO_free rfl rfl _ (fun w' => by go_simp; exact Gives.mk _ _) (fun K hK => ?_); go_simp; refine hK _ ?_; clear hK K) | (refine wpRO_skipF rfl rfl (fun K hK => ?_); go_simp; refine hK _ ?_; clear hK K) | (refine wpRO_pure rfl rfl _ (fun w' hG => by obtain ⟨b0,q3⟩ := hG; exact gives_agg2 rfl (by decide +kernel) rfl (by assumption) (by assumption)) (fun K hK => ?_); go_simp; refine hK _ ?_; clear hK K) | (refine wpRO_pure rfl rfl _ (fun w' hG => by obtain ⟨b0,q3⟩ := hG; go_simp; exact Gives.mk _ _) (fun K hK => ?_); go_simp; refine hK _ ?_; clear hK K) | (refine wpRO_skip rfl rfl (fun K hK => ?_); go_simp; refine hK _ ?_; clear hK K)
 refine wpRO_run rfl rfl (fun K hK => ?_); unfold gRun; go_simp
 refine (Nil_c _).mono ?_
 rintro e w5 ⟨rfl,rfl⟩
 refine hK _ _ (fun hg => hg) ?_
 clear hK K
 iterate 1 first | (refine wpRO_free rfl rfl _ (fun w' => by go_simp; exact Gives.mk _ _) (fun K hK => ?_); go_simp; refine hK _ ?_; clear hK K) | (refine wpRO_skipF rfl rfl (fun K hK => ?_); go_simp; refine hK _ ?_; clear hK K)
 refine wpRO_chg rfl rfl rfl (fun K hK => ?_); unfold gRun; go_simp
 refine hK _ _ ?_
 clear hK K
 refine wpRO_swi (fun _ => True) trivial (wpRO_fin ?_)
 have hin := HB2.out.rootW (k := c) (x := 2) HRO.out hc12 (by unfold R64; decide)
 have HB4 := Lib.hid (hin.1.same ((Keeps.refl (fun _ => False) _).drew))
 have K4 := Lib.hid ((((K2.out.mono (fun _ _ h => h.elim)).trans hin.2).drew) : Keeps h.Own w _)
 clear HB2 K2 SB2 HRCS HFZ b0 b1 bl q0 q1 q2 q3 ql s0 s1 s2 s3 sl hgl hin gl gf gc ql'
 generalize (w2.setCell ⟨g,o + c,none⟩ (.int .i64 2)).drew = w4 at *
 obtain ⟨b0,b1,bl⟩ := HB4.out.pcells
 go_wp2_with fail
 refine (HDO.out _ HB4.out.R).mono ?_
 rintro e w5 ⟨rfl,ht⟩
 have TO := Lib.hid (BothTo.from_keep K4.out (BothTo.world HB4.out ht))
 clear ht b0 b1 bl
 go_wp2_with fail
 go_ret
 unfold BothDoRet
 rw [HWO.out,HWD.out]
 exact ⟨rfl,TO.out⟩
end
end Go.Proofs.Ytjifdalflepcoab
