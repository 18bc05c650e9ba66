/-
  Parts of the proof, merged: what the functions do, and plain laws.
-/
import Derived.Test.YtjifdalflepcoadGreatTRPP17
set_option maxHeartbeats 16000000
set_option maxRecDepth 100000
set_option linter.unusedVariables false
set_option linter.unusedSimpArgs false
namespace Go.Proofs.YtjifdalflepcoadGreat
section
open Go.RowKit
theorem Dw {x:St} (h:bu x=0):x.k=1\/x.k=2\/x.k=3\/x.k=4\/x.k=5\/x.k=6\/x.k=7\/x.k=8\/x.k=9\/x.k=10\/x.k=11\/x.k=12\/x.k=13\/x.k=14\/x.k=15\/x.k=16:=by
 have h1:=(aF h).1;unfold aP at h1;by_cases h2:1<=x.k/\x.k<=16
 ·omega
 ·exfalso;apply h1;rw [if_neg (by omega),if_neg (by omega),if_neg (by omega),if_neg (by omega),if_neg (by omega)]
section
variable {w w':World} {h:dj} {W:Wd}
theorem Dx (xk xr xa xb xi xn:Int) (H:aR w h W) (hT:W.T.length<=90000) :
  Calls Tryz.prog 21 #[.pointer (some ⟨h.p,0,none⟩), .agg #[.int .i64 xk, .int .i64 xr, .int .i64 xa, .int .i64 xb, .int .i64 xi, .int .i64 xn]] w (ei w h (W.do ⟨xk,xr,xa,xb,xi,xn⟩)):=by
 unfold ei;have HT:=Hz hT;have HB0:=Hz H;have ay:ak (w.alloc (.cells #[.int .i64 xk, .int .i64 xr, .int .i64 xa, .int .i64 xb, .int .i64 xi, .int .i64 xn] 26)) w.heap.size [.int .i64 xk, .int .i64 xr, .int .i64 xa, .int .i64 xb, .int .i64 xi, .int .i64 xn] 26:=ak.newAt _ rfl rfl;have ka:=(Kz w).alloc (.cells #[.int .i64 xk, .int .i64 xr, .int .i64 xa, .int .i64 xb, .int .i64 xi, .int .i64 xn] 26);have HB1:=Hz (H.same ka);have K1:=Hz ka;have SB1:=Hz ay;have SOW:=Hz (show ¬ h.Own w.heap.size from λe=>by have:=H.aZ e;omega);clear ay ka H;go_enter Tryz.func21,Tryz.ntmps21;go_upto_region 1 with fail
 generalize w.alloc (.cells #[.int .i64 xk, .int .i64 xr, .int .i64 xa, .int .i64 xb, .int .i64 xi, .int .i64 xn] 26)=w1 at *;generalize w.heap.size=sb at *;have s0:=SB1.o.cell 0;have s1:=SB1.o.cell 1;have s2:=SB1.o.cell 2;have s3:=SB1.o.cell 3;have s4:=SB1.o.cell 4;have s5:=SB1.o.cell 5;have sl:=SB1.o.lt;simp only [Lz,aB] at s0 s1 s2 s3 s4 s5;have HSF:=Hz (λw=>dF ⟨xk,xr,xa,xb,xi,xn⟩ w);obtain ⟨c,hc⟩:∃ c,bu ⟨xk,xr,xa,xb,xi,xn⟩=c:=⟨_,rfl⟩;rw [hc] at HSF;have HC:=Hz hc;clear hc;go_wp2_with (refine bD rfl 26 (.tmp 3) rfl [.int .i64 xk, .int .i64 xr, .int .i64 xa, .int .i64 xb, .int .i64 xi, .int .i64 xn] (by kernel_rfl) sb 0 rfl (ae s0 (ae s1 (ae s2 (ae s3 (ae s4 (ae s5 a9)))))) ?_);refine (HSF.o _).mono ?_;rintro e w2 ⟨rfl,hk⟩;have HB2:=Hz (HB1.o.same hk);have K2:=Hz (K1.o.trans hk);have SB2:=Hz (hk.au SB1.o (λh=>h));clear hk s0 s1 s2 s3 s4 s5 sl HSF HB1 K1 SB1;have s0:=SB2.o.cell 0;have s1:=SB2.o.cell 1;have s2:=SB2.o.cell 2;have s3:=SB2.o.cell 3;have s4:=SB2.o.cell 4;have s5:=SB2.o.cell 5;have sl:=SB2.o.lt;simp only [Lz,aB] at s0 s1 s2 s3 s4 s5;by_cases h0:¬ c=0
 ·have HE:=Hz (show W.do ⟨xk,xr,xa,xb,xi,xn⟩=(c,W) by unfold Wd.do;rw [HC.o,if_neg h0]);have hd:(c != 0)=true:=by simpa using h0
  clear h0;go_wp2_with fail;go_ret;rw [HE.o];exact ⟨rfl,aT.same HB0.o K2.o⟩
 have h0:c=0:=Zn.1 h0;subst h0;have hcs:=Dw HC.o;dsimp only at hcs;rcases hcs with rfl | rfl | rfl | rfl | rfl | rfl | rfl | rfl | rfl | rfl | rfl | rfl | rfl | rfl | rfl | rfl
 ·skip
  have hr:0<=xr/\xr<12:=(aJ _).1 ((aF HC.o).2.1 (show aP 1%2=1 by decide));obtain ⟨r,rfl⟩:∃ r:Nat,xr=r:=⟨xr.toNat,by omega⟩;have hr12:r<12:=by omega
  clear hr;have hn:-cG<=xn/\xn<cG:=(aF HC.o).2.2.2.2.1 rfl;have HE:=Hz (show W.do ⟨1,r,xa,xb,xi,xn⟩=(0,W.bF r (1,xn)) by unfold Wd.do;rw [if_pos HC.o];rfl);have HV:=Hz (show W.cI (1,xn) from Wd.jl hn.1 hn.2);clear hn;obtain ⟨gr,orr,rc,erv,hgr,q1,-,-,hrs⟩:=HB2.o.fR hr12;have RS:=Hz hrs;have ERV:=Hz erv;have pl:=HB2.o.hp.lt;have h12:(r:Int)<12:=by omega
  have h12':¬ (12:Int)<=(r:Int):=by omega
  have h12n:¬ (12:Nat)<=r:=by omega
  clear erv hrs;go_wp2_with fail;refine a6 (ftq [0,1,2,4,6] (ptq [3,5,7] (.free 8 (.free 9 (.run 10 (.swi [] (.fin))))))) [10] (Fz q1 (Fz s1 (Fa s5))) ?_
  iterate 10 refine Wz ?_
  refine aD rfl rfl rfl (λK hK=>?_);refine cx 77 (.tmp 28) (.tmp 27) rfl rfl gr orr 12 rc r _ 77 (.int .i64 1) (.int .i64 xn) rfl rfl (RS.o.ab (Kz _).drew (λ_ _ h=>h)) hr12 (by kernel_rfl) rfl rfl ?_;intro wz hsz hkz hzz;refine hK _ _ ?_;clear hK K;refine aC (λ_=>True) trivial (av ?_);have T6:=Hz (HB2.o.fT ERV.o hr12 (v:=(1,xn)) HV.o hsz (((Kz w2).drew.mono (λ_ _ h=>h.elim)).trans hkz));clear hsz hkz hzz q1 s0 s1 s2 s3 s4 s5 sl pl;go_wp2_with fail;go_ret;rw [HE.o];exact ⟨rfl,aT.aL K2.o T6.o⟩
 ·skip
  have hr:0<=xr/\xr<12:=(aJ _).1 ((aF HC.o).2.1 (show aP 2%2=1 by decide));obtain ⟨r,rfl⟩:∃ r:Nat,xr=r:=⟨xr.toNat,by omega⟩;have hr12:r<12:=by omega
  clear hr;have HE:=Hz (show W.do ⟨2,r,xa,xb,xi,xn⟩=(0,W.bF r (0,0)) by unfold Wd.do;rw [if_pos HC.o];rfl);have HV:=Hz (show W.cI (0,0) from .inl ⟨rfl,rfl⟩);obtain ⟨gr,orr,rc,erv,hgr,q1,-,-,hrs⟩:=HB2.o.fR hr12;have RS:=Hz hrs;have ERV:=Hz erv;have pl:=HB2.o.hp.lt;have h12:(r:Int)<12:=by omega
  have h12':¬ (12:Int)<=(r:Int):=by omega
  have h12n:¬ (12:Nat)<=r:=by omega
  clear erv hrs;go_wp2_with fail;refine a6 (ftq [0,1,2,4,6] (.pure 3 (.pure 5 (.free 7 (.run 8 (.swi [] (.fin))))))) [8] (Fz q1 (Fa s1)) ?_
  iterate 8 refine Wz ?_
  refine aD rfl rfl rfl (λK hK=>?_);refine cx 77 (.tmp 38) (.tmp 37) rfl rfl gr orr 12 rc r _ 77 (.int .i64 0) (.int .i64 0) rfl rfl (RS.o.ab (Kz _).drew (λ_ _ h=>h)) hr12 (by kernel_rfl) rfl rfl ?_;intro wz hsz hkz hzz;refine hK _ _ ?_;clear hK K;refine aC (λ_=>True) trivial (av ?_);have T6:=Hz (HB2.o.fT ERV.o hr12 (v:=(0,0)) HV.o hsz (((Kz w2).drew.mono (λ_ _ h=>h.elim)).trans hkz));clear hsz hkz hzz q1 s0 s1 s2 s3 s4 s5 sl pl;go_wp2_with fail;go_ret;rw [HE.o];exact ⟨rfl,aT.aL K2.o T6.o⟩
 ·skip
  have hr:0<=xr/\xr<12:=(aJ _).1 ((aF HC.o).2.1 (show aP 3%2=1 by decide));obtain ⟨r,rfl⟩:∃ r:Nat,xr=r:=⟨xr.toNat,by omega⟩;have hr12:r<12:=by omega
  clear hr;have ha:0<=xa/\xa<12:=(aJ _).1 ((aF HC.o).2.2.1 (show aP 3/2%2=1 by decide));obtain ⟨a,rfl⟩:∃ a:Nat,xa=a:=⟨xa.toNat,by omega⟩;have ha12:a<12:=by omega
  clear ha;have HE:=Hz (show W.do ⟨3,r,a,xb,xi,xn⟩=(0,W.bF r (W.rt a)) by unfold Wd.do;rw [if_pos HC.o];rfl);have HV:=Hz (Wd.g8 HB2.o.ok (a:Int));obtain ⟨gr,orr,rc,erv,hgr,q1,-,-,hrs⟩:=HB2.o.fR hr12;have RS:=Hz hrs;have ERV:=Hz erv;have pl:=HB2.o.hp.lt;have h12:(r:Int)<12:=by omega
  have h12':¬ (12:Int)<=(r:Int):=by omega
  have h12n:¬ (12:Nat)<=r:=by omega
  clear erv hrs;obtain ⟨gr',or',rc',-,-,q1',ra0,ra1,-⟩:=HB2.o.fR ha12;rw [q1] at q1';cases q1';have hai:(a:Int)<12:=by omega
  generalize W.rt (a:Int)=v at *;obtain ⟨v1,v2⟩:=v;dsimp only at ra0 ra1;go_wp2_with fail;refine a6 (ftq [0,1,2,4,6,7,8,10] (ptq [3,5,9,11] (.free 12 (.pure 13 (.free 14 (.run 15 (.swi [] (.fin)))))))) [15] (Fz q1 (Fz s1 (Fz s2 (Fz ra0 (Fa ra1))))) ?_
  iterate 15 refine Wz ?_
  refine aD rfl rfl rfl (λK hK=>?_);refine cx 77 (.tmp 55) (.tmp 54) rfl rfl gr orr 12 rc r _ 77 (.int .i64 v1) (.int .i64 v2) rfl rfl (RS.o.ab (Kz _).drew (λ_ _ h=>h)) hr12 (by kernel_rfl) rfl rfl ?_;intro wz hsz hkz hzz;refine hK _ _ ?_;clear hK K;refine aC (λ_=>True) trivial (av ?_);have T6:=Hz (HB2.o.fT ERV.o hr12 (v:=(v1,v2)) HV.o hsz (((Kz w2).drew.mono (λ_ _ h=>h.elim)).trans hkz));clear hsz hkz hzz q1 s0 s1 s2 s3 s4 s5 sl pl;go_wp2_with fail;go_ret;rw [HE.o];exact ⟨rfl,aT.aL K2.o T6.o⟩
 ·skip
  have hr:0<=xr/\xr<12:=(aJ _).1 ((aF HC.o).2.1 (show aP 4%2=1 by decide));obtain ⟨r,rfl⟩:∃ r:Nat,xr=r:=⟨xr.toNat,by omega⟩;have hr12:r<12:=by omega
  clear hr;have ha:0<=xa/\xa<12:=(aJ _).1 ((aF HC.o).2.2.1 (show aP 4/2%2=1 by decide));obtain ⟨a,rfl⟩:∃ a:Nat,xa=a:=⟨xa.toNat,by omega⟩;have ha12:a<12:=by omega
  clear ha;have hb:0<=xb/\xb<12:=(aJ _).1 ((aF HC.o).2.2.2.1 (show aP 4/4%2=1 by decide));obtain ⟨b,rfl⟩:∃ b:Nat,xb=b:=⟨xb.toNat,by omega⟩;have hb12:b<12:=by omega
  clear hb;have HE:=Hz (show W.do ⟨4,r,a,b,xi,xn⟩=W.bz r 1 ([a,b].map λ(k:Nat)=>(k:Int)) by unfold Wd.do;rw [if_pos HC.o];rfl);have ka:=(Kz w2).alloc (.cells #[.int .i64 a, .int .i64 b] 3);have hbl:ak (w2.alloc (.cells #[.int .i64 a, .int .i64 b] 3)) w2.heap.size [.int .i64 a, .int .i64 b] 3:=ak.newAt _ rfl rfl;have HMK:=Hz (mP r 1 [a,b] (some ⟨w2.heap.size,0,none⟩) 2 (HB2.o.same ka) HT.o hr12 (by intro k hk;simp at hk;omega) (show bj 1 2=true by decide) ⟨rfl, .inr ⟨_,0,2,_,rfl,hbl,Zb _,by unfold maxLen;omega,by simp,rfl⟩⟩);have HKA:=Hz ka;clear ka hbl;go_wp2_with fail;refine HMK.o.mono ?_;rintro e w3 ⟨rfl,ht⟩;have TO:=Hz (aT.aL (K2.o.trans HKA.o) ht);clear ht s0 s1 s2 s3 s4 s5 sl HMK;go_wp2_with fail;go_ret;rw [HE.o];exact ⟨rfl,TO.o⟩
 ·skip
  have hr:0<=xr/\xr<12:=(aJ _).1 ((aF HC.o).2.1 (show aP 5%2=1 by decide));obtain ⟨r,rfl⟩:∃ r:Nat,xr=r:=⟨xr.toNat,by omega⟩;have hr12:r<12:=by omega
  clear hr;have ha:0<=xa/\xa<12:=(aJ _).1 ((aF HC.o).2.2.1 (show aP 5/2%2=1 by decide));obtain ⟨a,rfl⟩:∃ a:Nat,xa=a:=⟨xa.toNat,by omega⟩;have ha12:a<12:=by omega
  clear ha;have hn:0<=xn/\xn<=12:=(aF HC.o).2.2.2.2.2 rfl;obtain ⟨n,rfl⟩:∃ n:Nat,xn=n:=⟨xn.toNat,by omega⟩;have hn12:n<=12:=by omega
  have hrl:(List.replicate n a).length=n:=List.length_replicate;have hvr:j6 (List.replicate n a)=List.replicate n (.int .i64 (a:Int)):=by simp [j6]
  have HE:=Hz (show W.do ⟨5,r,a,xb,xi,n⟩=W.bz r 2 ((List.replicate n a).map λ(k:Nat)=>(k:Int)) by
   rw [List.map_replicate]
   unfold Wd.do;rw [if_pos HC.o];rfl)
  clear hn;have HRL:=Hz hrl;have HVR:=Hz hvr;clear hrl hvr;go_wp2_with fail;refine a6 (ftq [0,1,3,6] (ptq [2,4,7] (.run 5 (.run 8 (.run 9 (.swi [] (.free 10 (.fin)))))))) [9,10] (Fz s1 (Fz s2 (Fa s5))) ?_
  iterate 7 refine Wz ?_
  refine aN rfl rfl (λK hK=>?_);unfold ax;go_simp;have ka:aa (λ_=>False) w2 ((w2.alloc (.cells #[.int .i64 a] 3)).drew):=((Kz w2).alloc (.cells #[.int .i64 a] 3)).drew;have hbl:ak ((w2.alloc (.cells #[.int .i64 a] 3)).drew) w2.heap.size [.int .i64 (a:Int)] 3:=ak.drew (ak.newAt _ rfl rfl);refine hK _ _ (λ_=>⟨(ka.au SB2.o (λh=>h)).cell 1,(ka.au SB2.o (λh=>h)).cell 2,(ka.au SB2.o (λh=>h)).cell 5⟩) ?_;clear hK K;refine aN rfl rfl (λK hK=>?_);unfold ax;go_simp;refine (zR a n w2.heap.size 0 1 hn12 _ (hbl.cell 0) hbl.lt).mono ?_;rintro e w4 ⟨b,rfl,hs4,hk4,hb4⟩;have K4:=Hz (ka.trans hk4);have S4:=Hz hs4;clear ka hbl hk4 hb4 hs4;refine hK _ _ (λ_=>⟨(K4.o.au SB2.o (λh=>h)).cell 1,(K4.o.au SB2.o (λh=>h)).cell 2,(K4.o.au SB2.o (λh=>h)).cell 5⟩) ?_;clear hK K;refine aD rfl rfl rfl (λK hK=>?_);unfold ax;go_simp;have hmk:=mP r 2 (List.replicate n a) (some ⟨b,0,none⟩) n (HB2.o.same K4.o) HT.o hr12 (λj hj=>by rw [(List.mem_replicate.1 hj).2];exact ha12) (by rw [HRL.o];simp [bj];omega) (by rw [HRL.o,HVR.o];exact S4.o);rw [HRL.o] at hmk;refine hmk.mono ?_;rintro e w5 ⟨rfl,ht⟩;have TO:=Hz (aT.aL (K2.o.trans K4.o) ht);refine hK _ _ ?_;clear hK K ht hmk s0 s1 s2 s3 s4 s5 sl;refine aC (λ_=>True) trivial ?_;refine Wz ?_;refine av ?_;go_wp2_with fail;go_ret;rw [HE.o];refine ⟨?_,TO.o⟩
  (try rw [List.map_replicate])
  rfl
 ·skip
  have hr:0<=xr/\xr<12:=(aJ _).1 ((aF HC.o).2.1 (show aP 6%2=1 by decide));obtain ⟨r,rfl⟩:∃ r:Nat,xr=r:=⟨xr.toNat,by omega⟩;have hr12:r<12:=by omega
  clear hr;have ha:0<=xa/\xa<12:=(aJ _).1 ((aF HC.o).2.2.1 (show aP 6/2%2=1 by decide));obtain ⟨a,rfl⟩:∃ a:Nat,xa=a:=⟨xa.toNat,by omega⟩;have ha12:a<12:=by omega
  clear ha;have hb:0<=xb/\xb<12:=(aJ _).1 ((aF HC.o).2.2.2.1 (show aP 6/4%2=1 by decide));obtain ⟨b,rfl⟩:∃ b:Nat,xb=b:=⟨xb.toNat,by omega⟩;have hb12:b<12:=by omega
  clear hb;have HE:=Hz (show W.do ⟨6,r,a,b,xi,xn⟩=W.bz r 3 ([a,b].map λ(k:Nat)=>(k:Int)) by unfold Wd.do;rw [if_pos HC.o];rfl);have ka:=(Kz w2).alloc (.cells #[.int .i64 a, .int .i64 b] 3);have hbl:ak (w2.alloc (.cells #[.int .i64 a, .int .i64 b] 3)) w2.heap.size [.int .i64 a, .int .i64 b] 3:=ak.newAt _ rfl rfl;have HMK:=Hz (mP r 3 [a,b] (some ⟨w2.heap.size,0,none⟩) 2 (HB2.o.same ka) HT.o hr12 (by intro k hk;simp at hk;omega) (show bj 3 2=true by decide) ⟨rfl, .inr ⟨_,0,2,_,rfl,hbl,Zb _,by unfold maxLen;omega,by simp,rfl⟩⟩);have HKA:=Hz ka;clear ka hbl;go_wp2_with fail;refine HMK.o.mono ?_;rintro e w3 ⟨rfl,ht⟩;have TO:=Hz (aT.aL (K2.o.trans HKA.o) ht);clear ht s0 s1 s2 s3 s4 s5 sl HMK;go_wp2_with fail;go_ret;rw [HE.o];exact ⟨rfl,TO.o⟩
 ·skip
  have hr:0<=xr/\xr<12:=(aJ _).1 ((aF HC.o).2.1 (show aP 7%2=1 by decide));obtain ⟨r,rfl⟩:∃ r:Nat,xr=r:=⟨xr.toNat,by omega⟩;have hr12:r<12:=by omega
  clear hr;have ha:0<=xa/\xa<12:=(aJ _).1 ((aF HC.o).2.2.1 (show aP 7/2%2=1 by decide));obtain ⟨a,rfl⟩:∃ a:Nat,xa=a:=⟨xa.toNat,by omega⟩;have ha12:a<12:=by omega
  clear ha;have hb:0<=xb/\xb<12:=(aJ _).1 ((aF HC.o).2.2.2.1 (show aP 7/4%2=1 by decide));obtain ⟨b,rfl⟩:∃ b:Nat,xb=b:=⟨xb.toNat,by omega⟩;have hb12:b<12:=by omega
  clear hb;have HE:=Hz (show W.do ⟨7,r,a,b,xi,xn⟩=W.bz r 4 ([a,b].map λ(k:Nat)=>(k:Int)) by unfold Wd.do;rw [if_pos HC.o];rfl);have ka:=(Kz w2).alloc (.cells #[.int .i64 a, .int .i64 b] 3);have hbl:ak (w2.alloc (.cells #[.int .i64 a, .int .i64 b] 3)) w2.heap.size [.int .i64 a, .int .i64 b] 3:=ak.newAt _ rfl rfl;have HMK:=Hz (mP r 4 [a,b] (some ⟨w2.heap.size,0,none⟩) 2 (HB2.o.same ka) HT.o hr12 (by intro k hk;simp at hk;omega) (show bj 4 2=true by decide) ⟨rfl, .inr ⟨_,0,2,_,rfl,hbl,Zb _,by unfold maxLen;omega,by simp,rfl⟩⟩);have HKA:=Hz ka;clear ka hbl;go_wp2_with fail;refine HMK.o.mono ?_;rintro e w3 ⟨rfl,ht⟩;have TO:=Hz (aT.aL (K2.o.trans HKA.o) ht);clear ht s0 s1 s2 s3 s4 s5 sl HMK;go_wp2_with fail;go_ret;rw [HE.o];exact ⟨rfl,TO.o⟩
 ·skip
  have hr:0<=xr/\xr<12:=(aJ _).1 ((aF HC.o).2.1 (show aP 8%2=1 by decide));obtain ⟨r,rfl⟩:∃ r:Nat,xr=r:=⟨xr.toNat,by omega⟩;have hr12:r<12:=by omega
  clear hr;have HE:=Hz (show W.do ⟨8,r,xa,xb,xi,xn⟩=W.bz r 5 (([]:List Nat).map λ(k:Nat)=>(k:Int)) by unfold Wd.do;rw [if_pos HC.o];rfl);have HMK:=Hz (mP r 5 [] none 0 HB2.o HT.o hr12 (by intro k hk;cases hk) (show bj 5 0=true by decide) (Sl.nil _ _ _));go_wp2_with fail;refine HMK.o.mono ?_;rintro e w3 ⟨rfl,ht⟩;have TO:=Hz (aT.aL K2.o ht);clear ht s0 s1 s2 s3 s4 s5 sl HMK;go_wp2_with fail;go_ret;rw [HE.o];exact ⟨rfl,TO.o⟩
 ·skip
  have ha:0<=xa/\xa<12:=(aJ _).1 ((aF HC.o).2.2.1 (show aP 9/2%2=1 by decide));obtain ⟨a,rfl⟩:∃ a:Nat,xa=a:=⟨xa.toNat,by omega⟩;have ha12:a<12:=by omega
  clear ha;have hb:0<=xb/\xb<12:=(aJ _).1 ((aF HC.o).2.2.2.1 (show aP 9/4%2=1 by decide));obtain ⟨b,rfl⟩:∃ b:Nat,xb=b:=⟨xb.toNat,by omega⟩;have hb12:b<12:=by omega
  clear hb;have HE:=Hz (show W.do ⟨9,xr,a,b,xi,xn⟩=W.eZ ⟨9,xr,a,b,xi,xn⟩ by unfold Wd.do;rw [if_pos HC.o];rfl);have HCL:=Hz (Du a b xr xi xn HB2.o ha12 hb12);unfold ei at HCL;go_wp2_with (refine bD rfl 26 (.tmp 3) rfl [.int .i64 9, .int .i64 xr, .int .i64 a, .int .i64 b, .int .i64 xi, .int .i64 xn] (by kernel_rfl) sb 0 rfl (ae s0 (ae s1 (ae s2 (ae s3 (ae s4 (ae s5 a9)))))) ?_);refine HCL.o.mono ?_;rintro e w3 ⟨rfl,ht⟩;have TO:=Hz (aT.aL K2.o ht);clear ht s0 s1 s2 s3 s4 s5 sl HCL;go_wp2_with fail;go_ret;rw [HE.o];exact ⟨rfl,TO.o⟩
 ·skip
  have hr:0<=xr/\xr<12:=(aJ _).1 ((aF HC.o).2.1 (show aP 10%2=1 by decide));obtain ⟨r,rfl⟩:∃ r:Nat,xr=r:=⟨xr.toNat,by omega⟩;have hr12:r<12:=by omega
  clear hr;have ha:0<=xa/\xa<12:=(aJ _).1 ((aF HC.o).2.2.1 (show aP 10/2%2=1 by decide));obtain ⟨a,rfl⟩:∃ a:Nat,xa=a:=⟨xa.toNat,by omega⟩;have ha12:a<12:=by omega
  clear ha;have HE:=Hz (show W.do ⟨10,r,a,xb,xi,xn⟩=W.pop ⟨10,r,a,xb,xi,xn⟩ by unfold Wd.do;rw [if_pos HC.o];rfl);have HCL:=Hz (Cl r a xb xi xn HB2.o hr12 ha12);unfold ei at HCL;go_wp2_with (refine bD rfl 26 (.tmp 3) rfl [.int .i64 10, .int .i64 r, .int .i64 a, .int .i64 xb, .int .i64 xi, .int .i64 xn] (by kernel_rfl) sb 0 rfl (ae s0 (ae s1 (ae s2 (ae s3 (ae s4 (ae s5 a9)))))) ?_);refine HCL.o.mono ?_;rintro e w3 ⟨rfl,ht⟩;have TO:=Hz (aT.aL K2.o ht);clear ht s0 s1 s2 s3 s4 s5 sl HCL;go_wp2_with fail;go_ret;rw [HE.o];exact ⟨rfl,TO.o⟩
 ·skip
  have hr:0<=xr/\xr<12:=(aJ _).1 ((aF HC.o).2.1 (show aP 11%2=1 by decide));obtain ⟨r,rfl⟩:∃ r:Nat,xr=r:=⟨xr.toNat,by omega⟩;have hr12:r<12:=by omega
  clear hr;have ha:0<=xa/\xa<12:=(aJ _).1 ((aF HC.o).2.2.1 (show aP 11/2%2=1 by decide));obtain ⟨a,rfl⟩:∃ a:Nat,xa=a:=⟨xa.toNat,by omega⟩;have ha12:a<12:=by omega
  clear ha;have HCF:=Hz (vh a xi ⟨11,r,a,xb,xi,xn⟩ rfl rfl ha12 HB2.o);have HE:=Hz (show W.do ⟨11,r,a,xb,xi,xn⟩=W.get ⟨11,r,a,xb,xi,xn⟩ by unfold Wd.do;rw [if_pos HC.o];rfl);have HFA:=Hz (λh=>Wd.iY (W:=W) (x:=⟨11,r,a,xb,xi,xn⟩) h);have HEN:=Hz (show W.bP ⟨11,r,a,xb,xi,xn⟩≠0->W.get ⟨11,r,a,xb,xi,xn⟩=(W.bP ⟨11,r,a,xb,xi,xn⟩,W) from λh=>by unfold Wd.get;rw [if_neg h]);go_wp2_with fail;refine HCF.o.mono ?_;rintro e w3 ⟨⟨p,rfl,hp⟩,hk⟩;have HB3:=Hz (HB2.o.same hk);have K3:=Hz (K2.o.trans hk);have SB3:=Hz (hk.au SB2.o (λh=>h));have HPP:=Hz hp;clear hk hp s0 s1 s2 s3 s4 s5 sl HCF;have s0:=SB3.o.cell 0;have s1:=SB3.o.cell 1;have s2:=SB3.o.cell 2;have s3:=SB3.o.cell 3;have s4:=SB3.o.cell 4;have s5:=SB3.o.cell 5;have sl:=SB3.o.lt;simp only [Lz,aB] at s0 s1 s2 s3 s4 s5;by_cases hf0:¬ W.bP ⟨11,r,a,xb,xi,xn⟩=0
  ·have HEE:=Hz (HE.o.trans (HEN.o hf0));have hd:(W.bP ⟨11,r,a,xb,xi,xn⟩ != 0)=true:=by simpa using hf0
   clear hf0;generalize W.bP ⟨11,r,a,xb,xi,xn⟩=c at *;go_wp2_with fail;go_ret;rw [HEE.o];exact ⟨rfl,aT.same HB0.o K3.o⟩
  have hf0:W.bP ⟨11,r,a,xb,xi,xn⟩=0:=Zn.1 hf0;have hfa:=HFA.o hf0
  try dsimp only at hfa
  obtain ⟨hta,h5,hi0,hi1⟩:=hfa;have hla:=Wd.dg HB3.o.ok (k:=(a:Int)) (by omega);obtain ⟨gf,of,fc,efv,rfl⟩:=HPP.o hf0;obtain ⟨g1,o1,nc1,fo1,fc1,-,-,-,-,efv1,hfs⟩:=HB3.o.rowAt hla;rw [efv] at efv1;cases efv1;obtain ⟨i,rfl⟩:=Zg hi0;have hil:i<(W.th (W.ah a)).fs.length:=by omega
  have HEE:=Hz (show W.do ⟨11,r,a,xb,i,xn⟩=(0,W.bF r ((W.th (W.ah a)).fs.getD i (0,0))) by rw [HE.o];unfold Wd.get;rw [if_pos hf0];rfl);have hin:(W.th (W.ah a)).fs.getD i (0,0) ∈ (W.th (W.ah a)).fs:=by rw [Ld,Le hil];exact Ze hil
  have HV:=Hz (HB3.o.ok.tv _ hla _ hin);obtain ⟨_,_,e',hrd,-,-⟩:=hfs.rd;cases e';obtain ⟨gf',of',e',hgf,u0,u1⟩:=hrd.fZ i hil;cases e';obtain ⟨gr,orr,rc,erv,hgr,q1,-,-,hrs⟩:=HB3.o.fR hr12;have RS:=Hz hrs;have ERV:=Hz erv;have pl:=HB3.o.hp.lt;have h12:(r:Int)<12:=by omega
  have h12':¬ (12:Int)<=(r:Int):=by omega
  have h12n:¬ (12:Nat)<=r:=by omega
  clear erv hrs;have HE:=HEE;clear hin hil hfs hrd hla h5 hta hi0 hi1 efv HFA HEN HPP HEE;generalize (W.th (W.ah a)).fs.getD i (0,0)=v at *;obtain ⟨v1,v2⟩:=v;dsimp only at u0 u1;rw [hf0];simp only [Zt];clear hf0;go_wp2_with fail;refine a6 (ftq [0,1,2,4,6,7] (ptq [3,5,8] (.free 9 (.run 10 (.swi [] (.fin)))))) [10] (Fz q1 (Fz s1 (Fz u0 (Fa u1)))) ?_
  iterate 10 refine Wz ?_
  refine aD rfl rfl rfl (λK hK=>?_);refine cx 77 (.tmp 136) (.tmp 135) rfl rfl gr orr 12 rc r _ 77 (.int .i64 v1) (.int .i64 v2) rfl rfl (RS.o.ab (Kz _).drew (λ_ _ h=>h)) hr12 (by kernel_rfl) rfl rfl ?_;intro wz hsz hkz hzz;refine hK _ _ ?_;clear hK K;refine aC (λ_=>True) trivial (av ?_);have T6:=Hz (HB3.o.fT ERV.o hr12 (v:=(v1,v2)) HV.o hsz (((Kz w3).drew.mono (λ_ _ h=>h.elim)).trans hkz));clear hsz hkz hzz q1 s0 s1 s2 s3 s4 s5 sl pl;go_wp2_with fail;go_ret;rw [HE.o];exact ⟨rfl,aT.aL K3.o T6.o⟩
 ·skip
  have ha:0<=xa/\xa<12:=(aJ _).1 ((aF HC.o).2.2.1 (show aP 12/2%2=1 by decide));obtain ⟨a,rfl⟩:∃ a:Nat,xa=a:=⟨xa.toNat,by omega⟩;have ha12:a<12:=by omega
  clear ha;have hb:0<=xb/\xb<12:=(aJ _).1 ((aF HC.o).2.2.2.1 (show aP 12/4%2=1 by decide));obtain ⟨b,rfl⟩:∃ b:Nat,xb=b:=⟨xb.toNat,by omega⟩;have hb12:b<12:=by omega
  clear hb;have HCF:=Hz (vh a xi ⟨12,xr,a,b,xi,xn⟩ rfl rfl ha12 HB2.o);have HE:=Hz (show W.do ⟨12,xr,a,b,xi,xn⟩=W.set ⟨12,xr,a,b,xi,xn⟩ by unfold Wd.do;rw [if_pos HC.o];rfl);have HFA:=Hz (λh=>Wd.iY (W:=W) (x:=⟨12,xr,a,b,xi,xn⟩) h);have HEN:=Hz (show W.bP ⟨12,xr,a,b,xi,xn⟩≠0->W.set ⟨12,xr,a,b,xi,xn⟩=(W.bP ⟨12,xr,a,b,xi,xn⟩,W) from λh=>by unfold Wd.set;rw [if_neg h]);go_wp2_with fail;refine HCF.o.mono ?_;rintro e w3 ⟨⟨p,rfl,hp⟩,hk⟩;have HB3:=Hz (HB2.o.same hk);have K3:=Hz (K2.o.trans hk);have SB3:=Hz (hk.au SB2.o (λh=>h));have HPP:=Hz hp;clear hk hp s0 s1 s2 s3 s4 s5 sl HCF;have s0:=SB3.o.cell 0;have s1:=SB3.o.cell 1;have s2:=SB3.o.cell 2;have s3:=SB3.o.cell 3;have s4:=SB3.o.cell 4;have s5:=SB3.o.cell 5;have sl:=SB3.o.lt;simp only [Lz,aB] at s0 s1 s2 s3 s4 s5;by_cases hf0:¬ W.bP ⟨12,xr,a,b,xi,xn⟩=0
  ·have HEE:=Hz (HE.o.trans (HEN.o hf0));have hd:(W.bP ⟨12,xr,a,b,xi,xn⟩ != 0)=true:=by simpa using hf0
   clear hf0;generalize W.bP ⟨12,xr,a,b,xi,xn⟩=c at *;go_wp2_with fail;go_ret;rw [HEE.o];exact ⟨rfl,aT.same HB0.o K3.o⟩
  have hf0:W.bP ⟨12,xr,a,b,xi,xn⟩=0:=Zn.1 hf0;have hfa:=HFA.o hf0
  try dsimp only at hfa
  obtain ⟨hta,h5,hi0,hi1⟩:=hfa;have hla:=Wd.dg HB3.o.ok (k:=(a:Int)) (by omega);obtain ⟨gf,of,fc,efv,rfl⟩:=HPP.o hf0;obtain ⟨g1,o1,nc1,fo1,fc1,-,-,-,-,efv1,hfs⟩:=HB3.o.rowAt hla;rw [efv] at efv1;cases efv1;obtain ⟨i,rfl⟩:=Zg hi0;have hil:i<(W.th (W.ah a)).fs.length:=by omega
  have HEE:=Hz (show W.do ⟨12,xr,a,b,i,xn⟩=(0,W.cK (W.ah a) ((W.th (W.ah a)).fs.set i (W.rt b))) by rw [HE.o];unfold Wd.set;rw [if_pos hf0];rfl);have HVB:=Hz (Wd.g8 HB3.o.ok (b:Int));have HTV:=Hz (HB3.o.ok.tv _ hla);obtain ⟨gr,orr,rc,-,hgr,q1,rb0,rb1,-⟩:=HB3.o.fR hb12;have pl:=HB3.o.hp.lt;obtain ⟨ti,hti⟩:=Zg hla.1;have HFS:=Hz hfs;have HLA:=Hz hla;have HEF:=Hz efv;have HTI:=Hz hti;have HIL:=Hz hil;clear hil hfs hla h5 hta hi0 hi1 efv HFA HEN HPP hti HE;have hbi:(b:Int)<12:=by omega
  rw [hf0];simp only [Zt];clear hf0;generalize W.rt (b:Int)=v at *;obtain ⟨v1,v2⟩:=v;dsimp only at rb0 rb1;go_wp2_with fail;refine a6 (ftq [0,1,2,3,5] (.pure 4 (.pure 6 (.free 7 (.pure 8 (.free 9 (.run 10 (.swi [] (.fin))))))))) [10] (Fz q1 (Fz s3 (Fz rb0 (Fa rb1)))) ?_
  iterate 10 refine Wz ?_
  refine aD rfl rfl rfl (λK hK=>?_);refine cx 77 (.tmp 160) (.tmp 159) rfl rfl gf of (W.th (W.ah a)).fs.length fc i _ 77 (.int .i64 v1) (.int .i64 v2) rfl rfl (HFS.o.ab (Kz _).drew (λ_ _ h=>h)) HIL.o (by kernel_rfl) rfl rfl ?_;intro wz hsz hkz hzz;refine hK _ _ ?_;clear hK K;refine aC (λ_=>True) trivial (av ?_);have T6:=Hz (show aT w3 h wz (W.cK (W.ah a) ((W.th (W.ah a)).fs.set i (v1,v2))) by
   have hla:=HLA.o;have hef:=HEF.o;have hte:∀ u ∈ (W.th (W.ah a)).fs.set i (v1,v2),W.cI u:=λu hu=>by
    rcases List.mem_or_eq_of_mem_set hu with h1 | h1
    ·exact HTV.o u h1
    ·rw [h1];exact HVB.o
   rw [<-im (W.th (W.ah a)).fs i (v1,v2)] at hsz;have hl2:((W.th (W.ah a)).fs.set i (v1,v2)).length=(W.th (W.ah a)).fs.length:=List.length_set;generalize hth:W.ah a=th at *;obtain rfl:th=(ti:Int):=HTI.o;rw [Zt] at hef
   exact HB3.o.D6 hla hl2 hte (g:=gf) (by rw [hef];rfl) (by rw [hef,hl2];exact hsz) (((Kz w3).drew.mono (λ_ _ h=>h.elim)).trans hkz))
  clear hsz hkz hzz q1 s0 s1 s2 s3 s4 s5 sl pl rb0 rb1;go_wp2_with fail;go_ret;rw [HEE.o];exact ⟨rfl,aT.aL K3.o T6.o⟩
 ·skip
  have hr:0<=xr/\xr<12:=(aJ _).1 ((aF HC.o).2.1 (show aP 13%2=1 by decide));obtain ⟨r,rfl⟩:∃ r:Nat,xr=r:=⟨xr.toNat,by omega⟩;have hr12:r<12:=by omega
  clear hr;have ha:0<=xa/\xa<12:=(aJ _).1 ((aF HC.o).2.2.1 (show aP 13/2%2=1 by decide));obtain ⟨a,rfl⟩:∃ a:Nat,xa=a:=⟨xa.toNat,by omega⟩;have ha12:a<12:=by omega
  clear ha;have HE:=Hz (show W.do ⟨13,r,a,xb,xi,xn⟩=W.len ⟨13,r,a,xb,xi,xn⟩ by unfold Wd.do;rw [if_pos HC.o];rfl);have HCL:=Hz (Cm r a xb xi xn HB2.o hr12 ha12);unfold ei at HCL;go_wp2_with (refine bD rfl 26 (.tmp 3) rfl [.int .i64 13, .int .i64 r, .int .i64 a, .int .i64 xb, .int .i64 xi, .int .i64 xn] (by kernel_rfl) sb 0 rfl (ae s0 (ae s1 (ae s2 (ae s3 (ae s4 (ae s5 a9)))))) ?_);refine HCL.o.mono ?_;rintro e w3 ⟨rfl,ht⟩;have TO:=Hz (aT.aL K2.o ht);clear ht s0 s1 s2 s3 s4 s5 sl HCL;go_wp2_with fail;go_ret;rw [HE.o];exact ⟨rfl,TO.o⟩
 ·skip
  have hr:0<=xr/\xr<12:=(aJ _).1 ((aF HC.o).2.1 (show aP 14%2=1 by decide));obtain ⟨r,rfl⟩:∃ r:Nat,xr=r:=⟨xr.toNat,by omega⟩;have hr12:r<12:=by omega
  clear hr;have ha:0<=xa/\xa<12:=(aJ _).1 ((aF HC.o).2.2.1 (show aP 14/2%2=1 by decide));obtain ⟨a,rfl⟩:∃ a:Nat,xa=a:=⟨xa.toNat,by omega⟩;have ha12:a<12:=by omega
  clear ha;have hb:0<=xb/\xb<12:=(aJ _).1 ((aF HC.o).2.2.2.1 (show aP 14/4%2=1 by decide));obtain ⟨b,rfl⟩:∃ b:Nat,xb=b:=⟨xb.toNat,by omega⟩;have hb12:b<12:=by omega
  clear hb;have HE:=Hz (show W.do ⟨14,r,a,b,xi,xn⟩=W.same ⟨14,r,a,b,xi,xn⟩ by unfold Wd.do;rw [if_pos HC.o];rfl);have HCL:=Hz (Aj r a b xi xn HB2.o hr12 ha12 hb12);unfold ei at HCL;go_wp2_with (refine bD rfl 26 (.tmp 3) rfl [.int .i64 14, .int .i64 r, .int .i64 a, .int .i64 b, .int .i64 xi, .int .i64 xn] (by kernel_rfl) sb 0 rfl (ae s0 (ae s1 (ae s2 (ae s3 (ae s4 (ae s5 a9)))))) ?_);refine HCL.o.mono ?_;rintro e w3 ⟨rfl,ht⟩;have TO:=Hz (aT.aL K2.o ht);clear ht s0 s1 s2 s3 s4 s5 sl HCL;go_wp2_with fail;go_ret;rw [HE.o];exact ⟨rfl,TO.o⟩
 ·have HE:=Hz (show W.do ⟨15,xr,xa,xb,xi,xn⟩=W.cut false by unfold Wd.do;rw [if_pos HC.o];rfl);have HCU:=Hz (vg false HB2.o (by have:=HT.o;omega));go_wp2_with fail;refine HCU.o.mono ?_;rintro e w3 ⟨rfl,ht⟩;have TO:=Hz (aT.aL K2.o ht);clear ht s0 s1 s2 s3 s4 s5 sl HCU;go_wp2_with fail;go_ret;rw [HE.o];exact ⟨rfl,TO.o⟩
 ·have HE:=Hz (show W.do ⟨16,xr,xa,xb,xi,xn⟩=W.cut true by unfold Wd.do;rw [if_pos HC.o];rfl);have HCU:=Hz (vg true HB2.o (by have:=HT.o;omega));go_wp2_with fail;refine HCU.o.mono ?_;rintro e w3 ⟨rfl,ht⟩;have TO:=Hz (aT.aL K2.o ht);clear ht s0 s1 s2 s3 s4 s5 sl HCU;go_wp2_with fail;go_ret;rw [HE.o];exact ⟨rfl,TO.o⟩
end
end
end Go.Proofs.YtjifdalflepcoadGreat
