/-
  Parts of the proof, merged: what the functions do, and plain laws.
-/
import Derived.Test.YtjifdalflepcoacGreatTWRP17
set_option maxHeartbeats 16000000
set_option maxRecDepth 100000
set_option linter.unusedVariables false
set_option linter.unusedSimpArgs false
namespace Go.Proofs.YtjifdalflepcoacGreat
section
open Go.RowKit
theorem BW {x:St} (h:bz x=0):x.k=1∨x.k=2∨x.k=3∨x.k=4∨x.k=5∨x.k=6∨x.k=7∨x.k=8∨x.k=9∨x.k=10∨x.k=11∨x.k=12∨x.k=13∨x.k=14∨x.k=15∨x.k=16:=by
 have h1:=(aD h).1;unfold aP at h1;by_cases h2:1≤x.k∧x.k≤16
 ·omega
 ·exfalso;apply h1;rw [if_neg (by omega),if_neg (by omega),if_neg (by omega),if_neg (by omega),if_neg (by omega)]
section
variable {w w':World} {h:dj} {W:Wd}
theorem BZ (xk xr xa xb xi xn:Int) (H:aQ w h W) (hT:W.T.length≤90000) :
  Calls Tryz.prog 106 #[.pointer (some ⟨h.p,0,none⟩), .agg #[.int .i64 xk, .int .i64 xr, .int .i64 xa, .int .i64 xb, .int .i64 xi, .int .i64 xn]] w (dW w h (W.do ⟨xk,xr,xa,xb,xi,xn⟩)):=by
 unfold dW;have HT:=Hz hT;have HB0:=Hz H;have ax:aj (w.alloc (.cells #[.int .i64 xk, .int .i64 xr, .int .i64 xa, .int .i64 xb, .int .i64 xi, .int .i64 xn] 69)) w.heap.size [.int .i64 xk, .int .i64 xr, .int .i64 xa, .int .i64 xb, .int .i64 xi, .int .i64 xn] 69:=aj.newAt _ rfl rfl;have ka:=(Kz w).alloc (.cells #[.int .i64 xk, .int .i64 xr, .int .i64 xa, .int .i64 xb, .int .i64 xi, .int .i64 xn] 69);have HB1:=Hz (H.same ka);have K1:=Hz ka;have SB1:=Hz ax;have SOW:=Hz (show ¬ h.Own w.heap.size from fun e=>by have:=H.a5 e;omega);clear ax ka H;go_enter Tryz.func106,Tryz.ntmps106;go_upto_region 1 with fail
 generalize w.alloc (.cells #[.int .i64 xk, .int .i64 xr, .int .i64 xa, .int .i64 xb, .int .i64 xi, .int .i64 xn] 69)=w1 at *;generalize w.heap.size=sb at *;have s0:=SB1.out.cell 0;have s1:=SB1.out.cell 1;have s2:=SB1.out.cell 2;have s3:=SB1.out.cell 3;have s4:=SB1.out.cell 4;have s5:=SB1.out.cell 5;have sl:=SB1.out.lt;simp only [Lz,aC] at s0 s1 s2 s3 s4 s5;have HSF:=Hz (fun w=>dx ⟨xk,xr,xa,xb,xi,xn⟩ w);obtain ⟨c,hc⟩:∃ c,bz ⟨xk,xr,xa,xb,xi,xn⟩=c:=⟨_,rfl⟩;rw [hc] at HSF;have HC:=Hz hc;clear hc;go_wp2_with (refine bA rfl 69 (.tmp 3) rfl [.int .i64 xk, .int .i64 xr, .int .i64 xa, .int .i64 xb, .int .i64 xi, .int .i64 xn] (by kernel_rfl) sb 0 rfl (ae s0 (ae s1 (ae s2 (ae s3 (ae s4 (ae s5 a7)))))) ?_);refine (HSF.out _).mono ?_;rintro e w2 ⟨rfl,hk⟩;have HB2:=Hz (HB1.out.same hk);have K2:=Hz (K1.out.trans hk);have SB2:=Hz (hk.aq SB1.out (fun h=>h));clear hk s0 s1 s2 s3 s4 s5 sl HSF HB1 K1 SB1;have s0:=SB2.out.cell 0;have s1:=SB2.out.cell 1;have s2:=SB2.out.cell 2;have s3:=SB2.out.cell 3;have s4:=SB2.out.cell 4;have s5:=SB2.out.cell 5;have sl:=SB2.out.lt;simp only [Lz,aC] at s0 s1 s2 s3 s4 s5;by_cases h0:¬ c=0
 ·have HE:=Hz (show W.do ⟨xk,xr,xa,xb,xi,xn⟩=(c,W) by unfold Wd.do;rw [HC.out,if_neg h0]);have hd:(c != 0)=true:=by simpa using h0
  clear h0;go_wp2_with fail;go_ret;rw [HE.out];exact ⟨rfl,aS.same HB0.out K2.out⟩
 have h0:c=0:=Classical.not_not.1 h0;subst h0;have hcs:=BW HC.out;dsimp only at hcs;rcases hcs with rfl | rfl | rfl | rfl | rfl | rfl | rfl | rfl | rfl | rfl | rfl | rfl | rfl | rfl | rfl | rfl
 ·skip
  have hr:0≤xr∧xr<12:=(aJ _).1 ((aD HC.out).2.1 (show aP 1%2=1 by decide));obtain ⟨r,rfl⟩:∃ r:Nat,xr=r:=⟨xr.toNat,by omega⟩;have hr12:r<12:=by omega
  clear hr;have hn:-cN≤xn∧xn<cN:=(aD HC.out).2.2.2.2.1 rfl;have HE:=Hz (show W.do ⟨1,r,xa,xb,xi,xn⟩=(0,W.cG r (1,xn)) by unfold Wd.do;rw [if_pos HC.out];rfl);have HV:=Hz (show W.cC (1,xn) from Wd.mh hn.1 hn.2);clear hn;obtain ⟨gr,orr,rc,erv,hgr,q1,-,-,hrs⟩:=HB2.out.fI hr12;have RS:=Hz hrs;have ERV:=Hz erv;have pl:=HB2.out.hp.lt;have h12:(r:Int)<12:=by omega
  have h12':¬ (12:Int)≤(r:Int):=by omega
  have h12n:¬ (12:Nat)≤r:=by omega
  clear erv hrs;go_wp2_with fail;refine a8 (.free 0 (.free 1 (.free 2 (.free 4 (.free 6 (.pure 3 (.pure 5 (.pure 7 (.free 8 (.free 9 (.run 10 (.swi [] (.fin))))))))))))) [10] (Fz q1 (Fz s1 (Fa s5))) ?_
  iterate 10 refine Wz ?_
  refine aA rfl rfl rfl (fun K hK=>?_);refine cq 96 (.tmp 28) (.tmp 27) rfl rfl gr orr 12 rc r _ 96 (.int .i64 1) (.int .i64 xn) rfl rfl (RS.out.ab (Kz _).drew (fun _ _ h=>h)) hr12 (by kernel_rfl) rfl rfl ?_;intro wz hsz hkz hzz;refine hK _ _ ?_;clear hK K;refine aB (fun _=>True) trivial (av ?_);have T6:=Hz (HB2.out.fJ ERV.out hr12 (v:=(1,xn)) HV.out hsz (((Kz w2).drew.mono (fun _ _ h=>h.elim)).trans hkz));clear hsz hkz hzz q1 s0 s1 s2 s3 s4 s5 sl pl;go_wp2_with fail;go_ret;rw [HE.out];exact ⟨rfl,aS.aK K2.out T6.out⟩
 ·skip
  have hr:0≤xr∧xr<12:=(aJ _).1 ((aD HC.out).2.1 (show aP 2%2=1 by decide));obtain ⟨r,rfl⟩:∃ r:Nat,xr=r:=⟨xr.toNat,by omega⟩;have hr12:r<12:=by omega
  clear hr;have HE:=Hz (show W.do ⟨2,r,xa,xb,xi,xn⟩=(0,W.cG r (0,0)) by unfold Wd.do;rw [if_pos HC.out];rfl);have HV:=Hz (show W.cC (0,0) from .inl ⟨rfl,rfl⟩);obtain ⟨gr,orr,rc,erv,hgr,q1,-,-,hrs⟩:=HB2.out.fI hr12;have RS:=Hz hrs;have ERV:=Hz erv;have pl:=HB2.out.hp.lt;have h12:(r:Int)<12:=by omega
  have h12':¬ (12:Int)≤(r:Int):=by omega
  have h12n:¬ (12:Nat)≤r:=by omega
  clear erv hrs;go_wp2_with fail;refine a8 (.free 0 (.free 1 (.free 2 (.free 4 (.free 6 (.pure 3 (.pure 5 (.free 7 (.run 8 (.swi [] (.fin))))))))))) [8] (Fz q1 (Fa s1)) ?_
  iterate 8 refine Wz ?_
  refine aA rfl rfl rfl (fun K hK=>?_);refine cq 96 (.tmp 38) (.tmp 37) rfl rfl gr orr 12 rc r _ 96 (.int .i64 0) (.int .i64 0) rfl rfl (RS.out.ab (Kz _).drew (fun _ _ h=>h)) hr12 (by kernel_rfl) rfl rfl ?_;intro wz hsz hkz hzz;refine hK _ _ ?_;clear hK K;refine aB (fun _=>True) trivial (av ?_);have T6:=Hz (HB2.out.fJ ERV.out hr12 (v:=(0,0)) HV.out hsz (((Kz w2).drew.mono (fun _ _ h=>h.elim)).trans hkz));clear hsz hkz hzz q1 s0 s1 s2 s3 s4 s5 sl pl;go_wp2_with fail;go_ret;rw [HE.out];exact ⟨rfl,aS.aK K2.out T6.out⟩
 ·skip
  have hr:0≤xr∧xr<12:=(aJ _).1 ((aD HC.out).2.1 (show aP 3%2=1 by decide));obtain ⟨r,rfl⟩:∃ r:Nat,xr=r:=⟨xr.toNat,by omega⟩;have hr12:r<12:=by omega
  clear hr;have ha:0≤xa∧xa<12:=(aJ _).1 ((aD HC.out).2.2.1 (show aP 3/2%2=1 by decide));obtain ⟨a,rfl⟩:∃ a:Nat,xa=a:=⟨xa.toNat,by omega⟩;have ha12:a<12:=by omega
  clear ha;have HE:=Hz (show W.do ⟨3,r,a,xb,xi,xn⟩=(0,W.cG r (W.rt a)) by unfold Wd.do;rw [if_pos HC.out];rfl);have HV:=Hz (Wd.jl HB2.out.ok (a:Int));obtain ⟨gr,orr,rc,erv,hgr,q1,-,-,hrs⟩:=HB2.out.fI hr12;have RS:=Hz hrs;have ERV:=Hz erv;have pl:=HB2.out.hp.lt;have h12:(r:Int)<12:=by omega
  have h12':¬ (12:Int)≤(r:Int):=by omega
  have h12n:¬ (12:Nat)≤r:=by omega
  clear erv hrs;obtain ⟨gr',or',rc',-,-,q1',ra0,ra1,-⟩:=HB2.out.fI ha12;rw [q1] at q1';cases q1';have hai:(a:Int)<12:=by omega
  generalize W.rt (a:Int)=v at *;obtain ⟨v1,v2⟩:=v;dsimp only at ra0 ra1;go_wp2_with fail;refine a8 (.free 0 (.free 1 (.free 2 (.free 4 (.free 6 (.free 7 (.free 8 (.free 10 (.pure 3 (.pure 5 (.pure 9 (.pure 11 (.free 12 (.pure 13 (.free 14 (.run 15 (.swi [] (.fin)))))))))))))))))) [15] (Fz q1 (Fz s1 (Fz s2 (Fz ra0 (Fa ra1))))) ?_
  iterate 15 refine Wz ?_
  refine aA rfl rfl rfl (fun K hK=>?_);refine cq 96 (.tmp 55) (.tmp 54) rfl rfl gr orr 12 rc r _ 96 (.int .i64 v1) (.int .i64 v2) rfl rfl (RS.out.ab (Kz _).drew (fun _ _ h=>h)) hr12 (by kernel_rfl) rfl rfl ?_;intro wz hsz hkz hzz;refine hK _ _ ?_;clear hK K;refine aB (fun _=>True) trivial (av ?_);have T6:=Hz (HB2.out.fJ ERV.out hr12 (v:=(v1,v2)) HV.out hsz (((Kz w2).drew.mono (fun _ _ h=>h.elim)).trans hkz));clear hsz hkz hzz q1 s0 s1 s2 s3 s4 s5 sl pl;go_wp2_with fail;go_ret;rw [HE.out];exact ⟨rfl,aS.aK K2.out T6.out⟩
 ·skip
  have hr:0≤xr∧xr<12:=(aJ _).1 ((aD HC.out).2.1 (show aP 4%2=1 by decide));obtain ⟨r,rfl⟩:∃ r:Nat,xr=r:=⟨xr.toNat,by omega⟩;have hr12:r<12:=by omega
  clear hr;have ha:0≤xa∧xa<12:=(aJ _).1 ((aD HC.out).2.2.1 (show aP 4/2%2=1 by decide));obtain ⟨a,rfl⟩:∃ a:Nat,xa=a:=⟨xa.toNat,by omega⟩;have ha12:a<12:=by omega
  clear ha;have hb:0≤xb∧xb<12:=(aJ _).1 ((aD HC.out).2.2.2.1 (show aP 4/4%2=1 by decide));obtain ⟨b,rfl⟩:∃ b:Nat,xb=b:=⟨xb.toNat,by omega⟩;have hb12:b<12:=by omega
  clear hb;have HE:=Hz (show W.do ⟨4,r,a,b,xi,xn⟩=W.bU r 1 ([a,b].map fun (k:Nat)=>(k:Int)) by unfold Wd.do;rw [if_pos HC.out];rfl);have ka:=(Kz w2).alloc (.cells #[.int .i64 a, .int .i64 b] 3);have hbl:aj (w2.alloc (.cells #[.int .i64 a, .int .i64 b] 3)) w2.heap.size [.int .i64 a, .int .i64 b] 3:=aj.newAt _ rfl rfl;have HMK:=Hz (my r 1 [a,b] (some ⟨w2.heap.size,0,none⟩) 2 (HB2.out.same ka) HT.out hr12 (by intro k hk;simp at hk;omega) (show bm 1 2=true by decide) ⟨rfl, .inr ⟨_,0,2,_,rfl,hbl,Nat.le_refl _,by unfold maxLen;omega,by simp,rfl⟩⟩);have HKA:=Hz ka;clear ka hbl;go_wp2_with fail;refine HMK.out.mono ?_;rintro e w3 ⟨rfl,ht⟩;have TO:=Hz (aS.aK (K2.out.trans HKA.out) ht);clear ht s0 s1 s2 s3 s4 s5 sl HMK;go_wp2_with fail;go_ret;rw [HE.out];exact ⟨rfl,TO.out⟩
 ·skip
  have hr:0≤xr∧xr<12:=(aJ _).1 ((aD HC.out).2.1 (show aP 5%2=1 by decide));obtain ⟨r,rfl⟩:∃ r:Nat,xr=r:=⟨xr.toNat,by omega⟩;have hr12:r<12:=by omega
  clear hr;have ha:0≤xa∧xa<12:=(aJ _).1 ((aD HC.out).2.2.1 (show aP 5/2%2=1 by decide));obtain ⟨a,rfl⟩:∃ a:Nat,xa=a:=⟨xa.toNat,by omega⟩;have ha12:a<12:=by omega
  clear ha;have hn:0≤xn∧xn≤12:=(aD HC.out).2.2.2.2.2 rfl;obtain ⟨n,rfl⟩:∃ n:Nat,xn=n:=⟨xn.toNat,by omega⟩;have hn12:n≤12:=by omega
  have hrl:(List.replicate n a).length=n:=List.length_replicate;have hvr:jU (List.replicate n a)=List.replicate n (.int .i64 (a:Int)):=by simp [jU]
  have HE:=Hz (show W.do ⟨5,r,a,xb,xi,n⟩=W.bU r 2 ((List.replicate n a).map fun (k:Nat)=>(k:Int)) by
   rw [List.map_replicate]
   unfold Wd.do;rw [if_pos HC.out];rfl)
  clear hn;have HRL:=Hz hrl;have HVR:=Hz hvr;clear hrl hvr;go_wp2_with fail;refine a8 (.free 0 (.free 1 (.free 3 (.free 6 (.pure 2 (.pure 4 (.pure 7 (.run 5 (.run 8 (.run 9 (.swi [] (.free 10 (.fin))))))))))))) [9,10] (Fz s1 (Fz s2 (Fa s5))) ?_
  iterate 7 refine Wz ?_
  refine aM rfl rfl (fun K hK=>?_);unfold aw;go_simp;have ka:aa (fun _=>False) w2 ((w2.alloc (.cells #[.int .i64 a] 3)).drew):=((Kz w2).alloc (.cells #[.int .i64 a] 3)).drew;have hbl:aj ((w2.alloc (.cells #[.int .i64 a] 3)).drew) w2.heap.size [.int .i64 (a:Int)] 3:=aj.drew (aj.newAt _ rfl rfl);refine hK _ _ (fun _=>⟨(ka.aq SB2.out (fun h=>h)).cell 1,(ka.aq SB2.out (fun h=>h)).cell 2,(ka.aq SB2.out (fun h=>h)).cell 5⟩) ?_;clear hK K;refine aM rfl rfl (fun K hK=>?_);unfold aw;go_simp;refine (yP a n w2.heap.size 0 1 hn12 _ (hbl.cell 0) hbl.lt).mono ?_;rintro e w4 ⟨b,rfl,hs4,hk4,hb4⟩;have K4:=Hz (ka.trans hk4);have S4:=Hz hs4;clear ka hbl hk4 hb4 hs4;refine hK _ _ (fun _=>⟨(K4.out.aq SB2.out (fun h=>h)).cell 1,(K4.out.aq SB2.out (fun h=>h)).cell 2,(K4.out.aq SB2.out (fun h=>h)).cell 5⟩) ?_;clear hK K;refine aA rfl rfl rfl (fun K hK=>?_);unfold aw;go_simp;have hmk:=my r 2 (List.replicate n a) (some ⟨b,0,none⟩) n (HB2.out.same K4.out) HT.out hr12 (fun j hj=>by rw [(List.mem_replicate.1 hj).2];exact ha12) (by rw [HRL.out];simp [bm];omega) (by rw [HRL.out,HVR.out];exact S4.out);rw [HRL.out] at hmk;refine hmk.mono ?_;rintro e w5 ⟨rfl,ht⟩;have TO:=Hz (aS.aK (K2.out.trans K4.out) ht);refine hK _ _ ?_;clear hK K ht hmk s0 s1 s2 s3 s4 s5 sl;refine aB (fun _=>True) trivial ?_;refine Wz ?_;refine av ?_;go_wp2_with fail;go_ret;rw [HE.out];refine ⟨?_,TO.out⟩
  (try rw [List.map_replicate])
  rfl
 ·skip
  have hr:0≤xr∧xr<12:=(aJ _).1 ((aD HC.out).2.1 (show aP 6%2=1 by decide));obtain ⟨r,rfl⟩:∃ r:Nat,xr=r:=⟨xr.toNat,by omega⟩;have hr12:r<12:=by omega
  clear hr;have ha:0≤xa∧xa<12:=(aJ _).1 ((aD HC.out).2.2.1 (show aP 6/2%2=1 by decide));obtain ⟨a,rfl⟩:∃ a:Nat,xa=a:=⟨xa.toNat,by omega⟩;have ha12:a<12:=by omega
  clear ha;have hb:0≤xb∧xb<12:=(aJ _).1 ((aD HC.out).2.2.2.1 (show aP 6/4%2=1 by decide));obtain ⟨b,rfl⟩:∃ b:Nat,xb=b:=⟨xb.toNat,by omega⟩;have hb12:b<12:=by omega
  clear hb;have HE:=Hz (show W.do ⟨6,r,a,b,xi,xn⟩=W.bU r 3 ([a,b].map fun (k:Nat)=>(k:Int)) by unfold Wd.do;rw [if_pos HC.out];rfl);have ka:=(Kz w2).alloc (.cells #[.int .i64 a, .int .i64 b] 3);have hbl:aj (w2.alloc (.cells #[.int .i64 a, .int .i64 b] 3)) w2.heap.size [.int .i64 a, .int .i64 b] 3:=aj.newAt _ rfl rfl;have HMK:=Hz (my r 3 [a,b] (some ⟨w2.heap.size,0,none⟩) 2 (HB2.out.same ka) HT.out hr12 (by intro k hk;simp at hk;omega) (show bm 3 2=true by decide) ⟨rfl, .inr ⟨_,0,2,_,rfl,hbl,Nat.le_refl _,by unfold maxLen;omega,by simp,rfl⟩⟩);have HKA:=Hz ka;clear ka hbl;go_wp2_with fail;refine HMK.out.mono ?_;rintro e w3 ⟨rfl,ht⟩;have TO:=Hz (aS.aK (K2.out.trans HKA.out) ht);clear ht s0 s1 s2 s3 s4 s5 sl HMK;go_wp2_with fail;go_ret;rw [HE.out];exact ⟨rfl,TO.out⟩
 ·skip
  have hr:0≤xr∧xr<12:=(aJ _).1 ((aD HC.out).2.1 (show aP 7%2=1 by decide));obtain ⟨r,rfl⟩:∃ r:Nat,xr=r:=⟨xr.toNat,by omega⟩;have hr12:r<12:=by omega
  clear hr;have ha:0≤xa∧xa<12:=(aJ _).1 ((aD HC.out).2.2.1 (show aP 7/2%2=1 by decide));obtain ⟨a,rfl⟩:∃ a:Nat,xa=a:=⟨xa.toNat,by omega⟩;have ha12:a<12:=by omega
  clear ha;have hb:0≤xb∧xb<12:=(aJ _).1 ((aD HC.out).2.2.2.1 (show aP 7/4%2=1 by decide));obtain ⟨b,rfl⟩:∃ b:Nat,xb=b:=⟨xb.toNat,by omega⟩;have hb12:b<12:=by omega
  clear hb;have HE:=Hz (show W.do ⟨7,r,a,b,xi,xn⟩=W.bU r 4 ([a,b].map fun (k:Nat)=>(k:Int)) by unfold Wd.do;rw [if_pos HC.out];rfl);have ka:=(Kz w2).alloc (.cells #[.int .i64 a, .int .i64 b] 3);have hbl:aj (w2.alloc (.cells #[.int .i64 a, .int .i64 b] 3)) w2.heap.size [.int .i64 a, .int .i64 b] 3:=aj.newAt _ rfl rfl;have HMK:=Hz (my r 4 [a,b] (some ⟨w2.heap.size,0,none⟩) 2 (HB2.out.same ka) HT.out hr12 (by intro k hk;simp at hk;omega) (show bm 4 2=true by decide) ⟨rfl, .inr ⟨_,0,2,_,rfl,hbl,Nat.le_refl _,by unfold maxLen;omega,by simp,rfl⟩⟩);have HKA:=Hz ka;clear ka hbl;go_wp2_with fail;refine HMK.out.mono ?_;rintro e w3 ⟨rfl,ht⟩;have TO:=Hz (aS.aK (K2.out.trans HKA.out) ht);clear ht s0 s1 s2 s3 s4 s5 sl HMK;go_wp2_with fail;go_ret;rw [HE.out];exact ⟨rfl,TO.out⟩
 ·skip
  have hr:0≤xr∧xr<12:=(aJ _).1 ((aD HC.out).2.1 (show aP 8%2=1 by decide));obtain ⟨r,rfl⟩:∃ r:Nat,xr=r:=⟨xr.toNat,by omega⟩;have hr12:r<12:=by omega
  clear hr;have HE:=Hz (show W.do ⟨8,r,xa,xb,xi,xn⟩=W.bU r 5 (([]:List Nat).map fun (k:Nat)=>(k:Int)) by unfold Wd.do;rw [if_pos HC.out];rfl);have HMK:=Hz (my r 5 [] none 0 HB2.out HT.out hr12 (by intro k hk;cases hk) (show bm 5 0=true by decide) (Sl.nil _ _ _));go_wp2_with fail;refine HMK.out.mono ?_;rintro e w3 ⟨rfl,ht⟩;have TO:=Hz (aS.aK K2.out ht);clear ht s0 s1 s2 s3 s4 s5 sl HMK;go_wp2_with fail;go_ret;rw [HE.out];exact ⟨rfl,TO.out⟩
 ·skip
  have ha:0≤xa∧xa<12:=(aJ _).1 ((aD HC.out).2.2.1 (show aP 9/2%2=1 by decide));obtain ⟨a,rfl⟩:∃ a:Nat,xa=a:=⟨xa.toNat,by omega⟩;have ha12:a<12:=by omega
  clear ha;have hb:0≤xb∧xb<12:=(aJ _).1 ((aD HC.out).2.2.2.1 (show aP 9/4%2=1 by decide));obtain ⟨b,rfl⟩:∃ b:Nat,xb=b:=⟨xb.toNat,by omega⟩;have hb12:b<12:=by omega
  clear hb;have HE:=Hz (show W.do ⟨9,xr,a,b,xi,xn⟩=W.fT ⟨9,xr,a,b,xi,xn⟩ by unfold Wd.do;rw [if_pos HC.out];rfl);have HCL:=Hz (BU a b xr xi xn HB2.out ha12 hb12);unfold dW at HCL;go_wp2_with (refine bA rfl 69 (.tmp 3) rfl [.int .i64 9, .int .i64 xr, .int .i64 a, .int .i64 b, .int .i64 xi, .int .i64 xn] (by kernel_rfl) sb 0 rfl (ae s0 (ae s1 (ae s2 (ae s3 (ae s4 (ae s5 a7)))))) ?_);refine HCL.out.mono ?_;rintro e w3 ⟨rfl,ht⟩;have TO:=Hz (aS.aK K2.out ht);clear ht s0 s1 s2 s3 s4 s5 sl HCL;go_wp2_with fail;go_ret;rw [HE.out];exact ⟨rfl,TO.out⟩
 ·skip
  have hr:0≤xr∧xr<12:=(aJ _).1 ((aD HC.out).2.1 (show aP 10%2=1 by decide));obtain ⟨r,rfl⟩:∃ r:Nat,xr=r:=⟨xr.toNat,by omega⟩;have hr12:r<12:=by omega
  clear hr;have ha:0≤xa∧xa<12:=(aJ _).1 ((aD HC.out).2.2.1 (show aP 10/2%2=1 by decide));obtain ⟨a,rfl⟩:∃ a:Nat,xa=a:=⟨xa.toNat,by omega⟩;have ha12:a<12:=by omega
  clear ha;have HE:=Hz (show W.do ⟨10,r,a,xb,xi,xn⟩=W.pop ⟨10,r,a,xb,xi,xn⟩ by unfold Wd.do;rw [if_pos HC.out];rfl);have HCL:=Hz (AM r a xb xi xn HB2.out hr12 ha12);unfold dW at HCL;go_wp2_with (refine bA rfl 69 (.tmp 3) rfl [.int .i64 10, .int .i64 r, .int .i64 a, .int .i64 xb, .int .i64 xi, .int .i64 xn] (by kernel_rfl) sb 0 rfl (ae s0 (ae s1 (ae s2 (ae s3 (ae s4 (ae s5 a7)))))) ?_);refine HCL.out.mono ?_;rintro e w3 ⟨rfl,ht⟩;have TO:=Hz (aS.aK K2.out ht);clear ht s0 s1 s2 s3 s4 s5 sl HCL;go_wp2_with fail;go_ret;rw [HE.out];exact ⟨rfl,TO.out⟩
 ·skip
  have hr:0≤xr∧xr<12:=(aJ _).1 ((aD HC.out).2.1 (show aP 11%2=1 by decide));obtain ⟨r,rfl⟩:∃ r:Nat,xr=r:=⟨xr.toNat,by omega⟩;have hr12:r<12:=by omega
  clear hr;have ha:0≤xa∧xa<12:=(aJ _).1 ((aD HC.out).2.2.1 (show aP 11/2%2=1 by decide));obtain ⟨a,rfl⟩:∃ a:Nat,xa=a:=⟨xa.toNat,by omega⟩;have ha12:a<12:=by omega
  clear ha;have HCF:=Hz (uc a xi ⟨11,r,a,xb,xi,xn⟩ rfl rfl ha12 HB2.out);have HE:=Hz (show W.do ⟨11,r,a,xb,xi,xn⟩=W.get ⟨11,r,a,xb,xi,xn⟩ by unfold Wd.do;rw [if_pos HC.out];rfl);have HFA:=Hz (fun h=>Wd.ta (W:=W) (x:=⟨11,r,a,xb,xi,xn⟩) h);have HEN:=Hz (show W.cz ⟨11,r,a,xb,xi,xn⟩≠0→W.get ⟨11,r,a,xb,xi,xn⟩=(W.cz ⟨11,r,a,xb,xi,xn⟩,W) from fun h=>by unfold Wd.get;rw [if_neg h]);go_wp2_with fail;refine HCF.out.mono ?_;rintro e w3 ⟨⟨p,rfl,hp⟩,hk⟩;have HB3:=Hz (HB2.out.same hk);have K3:=Hz (K2.out.trans hk);have SB3:=Hz (hk.aq SB2.out (fun h=>h));have HPP:=Hz hp;clear hk hp s0 s1 s2 s3 s4 s5 sl HCF;have s0:=SB3.out.cell 0;have s1:=SB3.out.cell 1;have s2:=SB3.out.cell 2;have s3:=SB3.out.cell 3;have s4:=SB3.out.cell 4;have s5:=SB3.out.cell 5;have sl:=SB3.out.lt;simp only [Lz,aC] at s0 s1 s2 s3 s4 s5;by_cases hf0:¬ W.cz ⟨11,r,a,xb,xi,xn⟩=0
  ·have HEE:=Hz (HE.out.trans (HEN.out hf0));have hd:(W.cz ⟨11,r,a,xb,xi,xn⟩ != 0)=true:=by simpa using hf0
   clear hf0;generalize W.cz ⟨11,r,a,xb,xi,xn⟩=c at *;go_wp2_with fail;go_ret;rw [HEE.out];exact ⟨rfl,aS.same HB0.out K3.out⟩
  have hf0:W.cz ⟨11,r,a,xb,xi,xn⟩=0:=Classical.not_not.1 hf0;have hfa:=HFA.out hf0
  try dsimp only at hfa
  obtain ⟨hta,h5,hi0,hi1⟩:=hfa;have hla:=Wd.eQ HB3.out.ok (k:=(a:Int)) (by omega);obtain ⟨gf,of,fc,efv,rfl⟩:=HPP.out hf0;obtain ⟨g1,o1,nc1,fo1,fc1,-,-,-,-,efv1,hfs⟩:=HB3.out.rowAt hla;rw [efv] at efv1;cases efv1;obtain ⟨i,rfl⟩:=Int.eq_ofNat_of_zero_le hi0;have hil:i<(W.th (W.ai a)).fs.length:=by omega
  have HEE:=Hz (show W.do ⟨11,r,a,xb,i,xn⟩=(0,W.cG r ((W.th (W.ai a)).fs.getD i (0,0))) by rw [HE.out];unfold Wd.get;rw [if_pos hf0];rfl);have hin:(W.th (W.ai a)).fs.getD i (0,0) ∈ (W.th (W.ai a)).fs:=by rw [Ld,Le hil];exact List.getElem_mem hil
  have HV:=Hz (HB3.out.ok.tv _ hla _ hin);obtain ⟨_,_,e',hrd,-,-⟩:=hfs.rd;cases e';obtain ⟨gf',of',e',hgf,u0,u1⟩:=hrd.fP i hil;cases e';obtain ⟨gr,orr,rc,erv,hgr,q1,-,-,hrs⟩:=HB3.out.fI hr12;have RS:=Hz hrs;have ERV:=Hz erv;have pl:=HB3.out.hp.lt;have h12:(r:Int)<12:=by omega
  have h12':¬ (12:Int)≤(r:Int):=by omega
  have h12n:¬ (12:Nat)≤r:=by omega
  clear erv hrs;have HE:=HEE;clear hin hil hfs hrd hla h5 hta hi0 hi1 efv HFA HEN HPP HEE;generalize (W.th (W.ai a)).fs.getD i (0,0)=v at *;obtain ⟨v1,v2⟩:=v;dsimp only at u0 u1;rw [hf0];simp only [Int.toNat_natCast];clear hf0;go_wp2_with fail;refine a8 (.free 0 (.free 1 (.free 2 (.free 4 (.free 6 (.free 7 (.pure 3 (.pure 5 (.pure 8 (.free 9 (.run 10 (.swi [] (.fin))))))))))))) [10] (Fz q1 (Fz s1 (Fz u0 (Fa u1)))) ?_
  iterate 10 refine Wz ?_
  refine aA rfl rfl rfl (fun K hK=>?_);refine cq 96 (.tmp 136) (.tmp 135) rfl rfl gr orr 12 rc r _ 96 (.int .i64 v1) (.int .i64 v2) rfl rfl (RS.out.ab (Kz _).drew (fun _ _ h=>h)) hr12 (by kernel_rfl) rfl rfl ?_;intro wz hsz hkz hzz;refine hK _ _ ?_;clear hK K;refine aB (fun _=>True) trivial (av ?_);have T6:=Hz (HB3.out.fJ ERV.out hr12 (v:=(v1,v2)) HV.out hsz (((Kz w3).drew.mono (fun _ _ h=>h.elim)).trans hkz));clear hsz hkz hzz q1 s0 s1 s2 s3 s4 s5 sl pl;go_wp2_with fail;go_ret;rw [HE.out];exact ⟨rfl,aS.aK K3.out T6.out⟩
 ·skip
  have ha:0≤xa∧xa<12:=(aJ _).1 ((aD HC.out).2.2.1 (show aP 12/2%2=1 by decide));obtain ⟨a,rfl⟩:∃ a:Nat,xa=a:=⟨xa.toNat,by omega⟩;have ha12:a<12:=by omega
  clear ha;have hb:0≤xb∧xb<12:=(aJ _).1 ((aD HC.out).2.2.2.1 (show aP 12/4%2=1 by decide));obtain ⟨b,rfl⟩:∃ b:Nat,xb=b:=⟨xb.toNat,by omega⟩;have hb12:b<12:=by omega
  clear hb;have HCF:=Hz (uc a xi ⟨12,xr,a,b,xi,xn⟩ rfl rfl ha12 HB2.out);have HE:=Hz (show W.do ⟨12,xr,a,b,xi,xn⟩=W.set ⟨12,xr,a,b,xi,xn⟩ by unfold Wd.do;rw [if_pos HC.out];rfl);have HFA:=Hz (fun h=>Wd.ta (W:=W) (x:=⟨12,xr,a,b,xi,xn⟩) h);have HEN:=Hz (show W.cz ⟨12,xr,a,b,xi,xn⟩≠0→W.set ⟨12,xr,a,b,xi,xn⟩=(W.cz ⟨12,xr,a,b,xi,xn⟩,W) from fun h=>by unfold Wd.set;rw [if_neg h]);go_wp2_with fail;refine HCF.out.mono ?_;rintro e w3 ⟨⟨p,rfl,hp⟩,hk⟩;have HB3:=Hz (HB2.out.same hk);have K3:=Hz (K2.out.trans hk);have SB3:=Hz (hk.aq SB2.out (fun h=>h));have HPP:=Hz hp;clear hk hp s0 s1 s2 s3 s4 s5 sl HCF;have s0:=SB3.out.cell 0;have s1:=SB3.out.cell 1;have s2:=SB3.out.cell 2;have s3:=SB3.out.cell 3;have s4:=SB3.out.cell 4;have s5:=SB3.out.cell 5;have sl:=SB3.out.lt;simp only [Lz,aC] at s0 s1 s2 s3 s4 s5;by_cases hf0:¬ W.cz ⟨12,xr,a,b,xi,xn⟩=0
  ·have HEE:=Hz (HE.out.trans (HEN.out hf0));have hd:(W.cz ⟨12,xr,a,b,xi,xn⟩ != 0)=true:=by simpa using hf0
   clear hf0;generalize W.cz ⟨12,xr,a,b,xi,xn⟩=c at *;go_wp2_with fail;go_ret;rw [HEE.out];exact ⟨rfl,aS.same HB0.out K3.out⟩
  have hf0:W.cz ⟨12,xr,a,b,xi,xn⟩=0:=Classical.not_not.1 hf0;have hfa:=HFA.out hf0
  try dsimp only at hfa
  obtain ⟨hta,h5,hi0,hi1⟩:=hfa;have hla:=Wd.eQ HB3.out.ok (k:=(a:Int)) (by omega);obtain ⟨gf,of,fc,efv,rfl⟩:=HPP.out hf0;obtain ⟨g1,o1,nc1,fo1,fc1,-,-,-,-,efv1,hfs⟩:=HB3.out.rowAt hla;rw [efv] at efv1;cases efv1;obtain ⟨i,rfl⟩:=Int.eq_ofNat_of_zero_le hi0;have hil:i<(W.th (W.ai a)).fs.length:=by omega
  have HEE:=Hz (show W.do ⟨12,xr,a,b,i,xn⟩=(0,W.dg (W.ai a) ((W.th (W.ai a)).fs.set i (W.rt b))) by rw [HE.out];unfold Wd.set;rw [if_pos hf0];rfl);have HVB:=Hz (Wd.jl HB3.out.ok (b:Int));have HTV:=Hz (HB3.out.ok.tv _ hla);obtain ⟨gr,orr,rc,-,hgr,q1,rb0,rb1,-⟩:=HB3.out.fI hb12;have pl:=HB3.out.hp.lt;obtain ⟨ti,hti⟩:=Int.eq_ofNat_of_zero_le hla.1;have HFS:=Hz hfs;have HLA:=Hz hla;have HEF:=Hz efv;have HTI:=Hz hti;have HIL:=Hz hil;clear hil hfs hla h5 hta hi0 hi1 efv HFA HEN HPP hti HE;have hbi:(b:Int)<12:=by omega
  rw [hf0];simp only [Int.toNat_natCast];clear hf0;generalize W.rt (b:Int)=v at *;obtain ⟨v1,v2⟩:=v;dsimp only at rb0 rb1;go_wp2_with fail;refine a8 (.free 0 (.free 1 (.free 2 (.free 3 (.free 5 (.pure 4 (.pure 6 (.free 7 (.pure 8 (.free 9 (.run 10 (.swi [] (.fin))))))))))))) [10] (Fz q1 (Fz s3 (Fz rb0 (Fa rb1)))) ?_
  iterate 10 refine Wz ?_
  refine aA rfl rfl rfl (fun K hK=>?_);refine cq 96 (.tmp 160) (.tmp 159) rfl rfl gf of (W.th (W.ai a)).fs.length fc i _ 96 (.int .i64 v1) (.int .i64 v2) rfl rfl (HFS.out.ab (Kz _).drew (fun _ _ h=>h)) HIL.out (by kernel_rfl) rfl rfl ?_;intro wz hsz hkz hzz;refine hK _ _ ?_;clear hK K;refine aB (fun _=>True) trivial (av ?_);have T6:=Hz (show aS w3 h wz (W.dg (W.ai a) ((W.th (W.ai a)).fs.set i (v1,v2))) by
   have hla:=HLA.out;have hef:=HEF.out;have hte:∀ u ∈ (W.th (W.ai a)).fs.set i (v1,v2),W.cC u:=fun u hu=>by
    rcases List.mem_or_eq_of_mem_set hu with h1 | h1
    ·exact HTV.out u h1
    ·rw [h1];exact HVB.out
   rw [←g7 (W.th (W.ai a)).fs i (v1,v2)] at hsz;have hl2:((W.th (W.ai a)).fs.set i (v1,v2)).length=(W.th (W.ai a)).fs.length:=List.length_set;generalize hth:W.ai a=th at *;obtain rfl:th=(ti:Int):=HTI.out;rw [Int.toNat_natCast] at hef
   exact HB3.out.Ct hla hl2 hte (g:=gf) (by rw [hef];rfl) (by rw [hef,hl2];exact hsz) (((Kz w3).drew.mono (fun _ _ h=>h.elim)).trans hkz))
  clear hsz hkz hzz q1 s0 s1 s2 s3 s4 s5 sl pl rb0 rb1;go_wp2_with fail;go_ret;rw [HEE.out];exact ⟨rfl,aS.aK K3.out T6.out⟩
 ·skip
  have hr:0≤xr∧xr<12:=(aJ _).1 ((aD HC.out).2.1 (show aP 13%2=1 by decide));obtain ⟨r,rfl⟩:∃ r:Nat,xr=r:=⟨xr.toNat,by omega⟩;have hr12:r<12:=by omega
  clear hr;have ha:0≤xa∧xa<12:=(aJ _).1 ((aD HC.out).2.2.1 (show aP 13/2%2=1 by decide));obtain ⟨a,rfl⟩:∃ a:Nat,xa=a:=⟨xa.toNat,by omega⟩;have ha12:a<12:=by omega
  clear ha;have HE:=Hz (show W.do ⟨13,r,a,xb,xi,xn⟩=W.len ⟨13,r,a,xb,xi,xn⟩ by unfold Wd.do;rw [if_pos HC.out];rfl);have HCL:=Hz (AP r a xb xi xn HB2.out hr12 ha12);unfold dW at HCL;go_wp2_with (refine bA rfl 69 (.tmp 3) rfl [.int .i64 13, .int .i64 r, .int .i64 a, .int .i64 xb, .int .i64 xi, .int .i64 xn] (by kernel_rfl) sb 0 rfl (ae s0 (ae s1 (ae s2 (ae s3 (ae s4 (ae s5 a7)))))) ?_);refine HCL.out.mono ?_;rintro e w3 ⟨rfl,ht⟩;have TO:=Hz (aS.aK K2.out ht);clear ht s0 s1 s2 s3 s4 s5 sl HCL;go_wp2_with fail;go_ret;rw [HE.out];exact ⟨rfl,TO.out⟩
 ·skip
  have hr:0≤xr∧xr<12:=(aJ _).1 ((aD HC.out).2.1 (show aP 14%2=1 by decide));obtain ⟨r,rfl⟩:∃ r:Nat,xr=r:=⟨xr.toNat,by omega⟩;have hr12:r<12:=by omega
  clear hr;have ha:0≤xa∧xa<12:=(aJ _).1 ((aD HC.out).2.2.1 (show aP 14/2%2=1 by decide));obtain ⟨a,rfl⟩:∃ a:Nat,xa=a:=⟨xa.toNat,by omega⟩;have ha12:a<12:=by omega
  clear ha;have hb:0≤xb∧xb<12:=(aJ _).1 ((aD HC.out).2.2.2.1 (show aP 14/4%2=1 by decide));obtain ⟨b,rfl⟩:∃ b:Nat,xb=b:=⟨xb.toNat,by omega⟩;have hb12:b<12:=by omega
  clear hb;have HE:=Hz (show W.do ⟨14,r,a,b,xi,xn⟩=W.same ⟨14,r,a,b,xi,xn⟩ by unfold Wd.do;rw [if_pos HC.out];rfl);have HCL:=Hz (zi r a b xi xn HB2.out hr12 ha12 hb12);unfold dW at HCL;go_wp2_with (refine bA rfl 69 (.tmp 3) rfl [.int .i64 14, .int .i64 r, .int .i64 a, .int .i64 b, .int .i64 xi, .int .i64 xn] (by kernel_rfl) sb 0 rfl (ae s0 (ae s1 (ae s2 (ae s3 (ae s4 (ae s5 a7)))))) ?_);refine HCL.out.mono ?_;rintro e w3 ⟨rfl,ht⟩;have TO:=Hz (aS.aK K2.out ht);clear ht s0 s1 s2 s3 s4 s5 sl HCL;go_wp2_with fail;go_ret;rw [HE.out];exact ⟨rfl,TO.out⟩
 ·have HE:=Hz (show W.do ⟨15,xr,xa,xb,xi,xn⟩=W.cut false by unfold Wd.do;rw [if_pos HC.out];rfl);have HCU:=Hz (ub false HB2.out (by have:=HT.out;omega));go_wp2_with fail;refine HCU.out.mono ?_;rintro e w3 ⟨rfl,ht⟩;have TO:=Hz (aS.aK K2.out ht);clear ht s0 s1 s2 s3 s4 s5 sl HCU;go_wp2_with fail;go_ret;rw [HE.out];exact ⟨rfl,TO.out⟩
 ·have HE:=Hz (show W.do ⟨16,xr,xa,xb,xi,xn⟩=W.cut true by unfold Wd.do;rw [if_pos HC.out];rfl);have HCU:=Hz (ub true HB2.out (by have:=HT.out;omega));go_wp2_with fail;refine HCU.out.mono ?_;rintro e w3 ⟨rfl,ht⟩;have TO:=Hz (aS.aK K2.out ht);clear ht s0 s1 s2 s3 s4 s5 sl HCU;go_wp2_with fail;go_ret;rw [HE.out];exact ⟨rfl,TO.out⟩
end
end
end Go.Proofs.YtjifdalflepcoacGreat
