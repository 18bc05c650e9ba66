/-
  Parts of the proof, merged: what the functions do, and plain laws.
-/
import Derived.Test.YtjifdalflepcoadGreatTRPP16
set_option maxHeartbeats 16000000
set_option maxRecDepth 100000
set_option linter.unusedVariables false
set_option linter.unusedSimpArgs false
namespace Go.Proofs.YtjifdalflepcoadGreat
section
open Go.RowKit
section
variable {w w':World} {h:dj} {W:Wd}
theorem aR.fT (H:aR w h W) {g o rc:Nat} (hrv:h.rv=.slice (some ⟨g,o,none⟩) 12 rc) {k:Nat} (hk:k<12) {v:Vl} (hv:W.cI v)
  (hs:Sl w' 77 2 (.slice (some ⟨g,o,none⟩) 12 rc) 12 (((aH W.roots).set (k*2) (.int .i64 v.1)).set (k*2+1) (.int .i64 v.2))) (K:aa (·=g) w w'):aT w h w' (W.bF k v):=by
 have e:=H.ok.hr;exact H.r7 (by rw [e];exact hrv) hk hv (by rw [e];exact hs) K
theorem Cl (r a:Nat) (xb xi xn:Int) (H:aR w h W) (hr:r<12) (ha:a<12) :
  Calls Tryz.prog 41 #[.pointer (some ⟨h.p,0,none⟩), .agg #[.int .i64 10, .int .i64 r, .int .i64 a, .int .i64 xb, .int .i64 xi, .int .i64 xn]] w (ei w h (W.pop ⟨10,r,a,xb,xi,xn⟩)):=by
 unfold ei;have HP0:=Hz (show W.guard a<0->W.pop ⟨10,r,a,xb,xi,xn⟩=(2,W) from λh=>by unfold Wd.pop;rw [if_pos h]);have HPN:=Hz (show ¬ W.guard a<0->popW W.wait (W.guard a)=none->W.pop ⟨10,r,a,xb,xi,xn⟩=(4,W) from λh h2=>by unfold Wd.pop;rw [if_neg h];show (match popW W.wait (W.guard a) with | none=>_ | some r=>_)=_;rw [h2]);have HPS:=Hz (show ¬ W.guard a<0->∀ q,popW W.wait (W.guard a)=some q->W.pop ⟨10,r,a,xb,xi,xn⟩=(0,({ W with ai:=W.ai,wait:=q.2 }:Wd).bF r (3,q.1)) from λh q h2=>by unfold Wd.pop;rw [if_neg h];show (match popW W.wait (W.guard a) with | none=>_ | some r=>_)=_;rw [h2];rfl);have HB0:=Hz H;have ay:ak (w.alloc (.cells #[.int .i64 10, .int .i64 r, .int .i64 a, .int .i64 xb, .int .i64 xi, .int .i64 xn] 26)) w.heap.size [.int .i64 10, .int .i64 r, .int .i64 a, .int .i64 xb, .int .i64 xi, .int .i64 xn] 26:=ak.newAt _ rfl rfl;have ka:=(Kz w).alloc (.cells #[.int .i64 10, .int .i64 r, .int .i64 a, .int .i64 xb, .int .i64 xi, .int .i64 xn] 26);have HB1:=Hz (H.same ka);have K1:=Hz ka;have SB1:=Hz ay;have SOW:=Hz (show ¬ h.Own w.heap.size from λe=>by have:=H.aZ e;omega);clear ay ka H;go_enter Tryz.func41,Tryz.ntmps41;go_upto_region 1 with fail
 generalize w.alloc (.cells #[.int .i64 10, .int .i64 r, .int .i64 a, .int .i64 xb, .int .i64 xi, .int .i64 xn] 26)=w1 at *;generalize w.heap.size=sb at *;have s0:=SB1.o.cell 0;have s1:=SB1.o.cell 1;have s2:=SB1.o.cell 2;have s3:=SB1.o.cell 3;have s4:=SB1.o.cell 4;have s5:=SB1.o.cell 5;have sl:=SB1.o.lt;simp only [Lz,aB] at s0 s1 s2 s3 s4 s5;have HOA:=Hz (λw' (H:aR w' h W)=>rM a ha H);by_cases hta:W.ah a<0
 ·rw [jU hta] at HOA;have HE:=Hz (HP0.o (Wd.iE.2 (.inl hta)));clear hta;go_wp2_with fail;refine (HOA.o _ HB1.o).mono ?_;rintro e w2 ⟨rfl,hk⟩;have HB2:=Hz (HB1.o.same hk);have K2:=Hz (K1.o.trans hk);have SB2:=Hz (hk.au SB1.o (λh=>h));clear hk s0 s1 s2 s3 s4 s5 sl;have s0:=SB2.o.cell 0;have s1:=SB2.o.cell 1;have s2:=SB2.o.cell 2;have sl:=SB2.o.lt;simp only [Lz,aB] at s0 s1 s2;go_wp2_with fail;go_ret;rw [HE.o];exact ⟨rfl,aT.same HB0.o K2.o⟩
 have hla:=Wd.dg HB0.o.ok hta;obtain ⟨ga,oa,nca,-,-,etl,-⟩:=HB0.o.rowAt hla;rw [jV hta etl] at HOA;have ETL:=Hz etl;have HLA:=Hz hla;have HTA:=Hz (Wd.qE hta);by_cases h5:(W.th (W.ah a)).k=5
 case neg=>
  have HE:=Hz (HP0.o (Wd.iE.2 (.inr h5)));have e5:((W.th (W.ah a)).k != 5)=true:=by simpa using h5
  clear hta hla etl h5;go_wp2_with fail;refine (HOA.o _ HB1.o).mono ?_;rintro e w2 ⟨rfl,hk⟩;have HB2:=Hz (HB1.o.same hk);have K2:=Hz (K1.o.trans hk);have SB2:=Hz (hk.au SB1.o (λh=>h));clear hk s0 s1 s2 s3 s4 s5 sl;have s0:=SB2.o.cell 0;have s1:=SB2.o.cell 1;have s2:=SB2.o.cell 2;have sl:=SB2.o.lt;simp only [Lz,aB] at s0 s1 s2;obtain ⟨gb,ob,ncb,-,-,e',hg,t0,-⟩:=HB2.o.rowAt HLA.o;rw [ETL.o] at e';cases e';go_wp2_with fail;go_ret;rw [HE.o];exact ⟨rfl,aT.same HB0.o K2.o⟩
 have hng:¬ W.guard a<0:=λe=>by rcases Wd.iE.1 e with h | h;exact hta h;exact h h5
 have hgv:=(Wd.tm hng).1;have HPN:=Hz (HPN.o hng);have HPS:=Hz (HPS.o hng);rw [hgv] at HPN HPS;have T0:=Hz (show ∀ w',aR w' h W->w'.cell? ⟨ga,oa+(W.ah a).toNat*4,none⟩=some (.int .i64 5)/\ga<w'.heap.size from λw' H'=>by
  obtain ⟨gb,ob,ncb,-,-,e',hg,t0,-⟩:=H'.rowAt HLA.o;rw [ETL.o] at e';cases e';rw [h5] at t0
  exact ⟨t0,hg⟩)
 clear hta hla etl h5 HP0 hng hgv;go_wp2_with fail;refine (HOA.o _ HB1.o).mono ?_;rintro e w2 ⟨rfl,hk⟩;have HB2:=Hz (HB1.o.same hk);have K2:=Hz (K1.o.trans hk);have SB2:=Hz (hk.au SB1.o (λh=>h));clear hk s0 s1 s2 s3 s4 s5 sl;have s0:=SB2.o.cell 0;have s1:=SB2.o.cell 1;have s2:=SB2.o.cell 2;have sl:=SB2.o.lt;simp only [Lz,aB] at s0 s1 s2;obtain ⟨t0,hg⟩:=T0.o _ HB2.o;obtain ⟨gr,orr,rc,erv,hgr,q1,-,ra1,hrs⟩:=HB2.o.fR ha;rw [HTA.o.1] at ra1;have RS:=Hz hrs;have ERV:=Hz erv;have hai:(a:Int)<12:=by omega
 have h24l:=HB2.o.ok.hq;have hsd:=HB2.o.side;have hpl:=HB2.o.hp.lt;clear erv hrs;generalize W.ah a=va at *;have hpf:=o9 W.wait va;by_cases hf:findG va W.wait<W.wait.length
 ·rw [if_pos hf] at hpf;have HPP:=Hz (HPS.o _ hpf);dsimp only at HPP;have hm:W.wait.length=findG va W.wait+1+(W.wait.length-findG va W.wait-1):=by omega
  have kd:=(Kz w2).drew;have hpop:=yD h.p h.gv h.wv W.ai W.wait va _ _ w2.drew (hsd.ab kd (λ_ _ h=>h)) (by omega) rfl hm;have hpm:=lH hpf;have HOK:=Hz (show ({ W with ai:=W.ai,wait:=W.wait.eraseIdx (findG va W.wait) }:Wd).ok from by
   have o:=HB2.o.ok
   exact ⟨o.hr,o.rv,o.tk,o.tv,o.gv,λe he=>o.wv e (hpm.2.1 e he),by have h1:(W.wait.eraseIdx (findG va W.wait)).length+1=W.wait.length:=hpm.2.2;have h2:=o.hq;show W.ai.length+(W.wait.eraseIdx (findG va W.wait)).length<=24;omega,o.m1,o.m2,o.g1,o.g2,o.uy,o.uo⟩)
  have HXR:=Hz (show W.live (W.wait.getD (findG va W.wait) (0,0)).2 from (HB2.o.ok.wv _ hpm.1).2.2);have HPO:=Hz hpop;have HD:=Hz (HB2.o.same kd);clear hm hpop hpm hpf hf hsd h24l kd HPN HPS;generalize (W.wait.getD (findG va W.wait) (0,0)).2=x at *;generalize W.wait.eraseIdx (findG va W.wait)=wt2 at *;go_wp2_with fail;refine a6 (ftq [0,1,2,3,4,5,7] (.pure 6 (.free 8 (.free 9 (.pure 10 (.run 11 (.swi [] (ftq [12,13,14,15,16] (.fin))))))))) [11,12,13,14,15,16] (Fz q1 (Fa ra1)) ?_
  iterate 11 refine Wz ?_
  refine aD rfl rfl rfl (λK hK=>?_);unfold ax;go_simp;refine HPO.o.mono ?_;rintro e5 w5 ⟨rfl,hs5⟩;have TO:=Hz (aR.oV HD.o hs5 HOK.o);have SNO:=Hz (show ¬ h.Own sb from SOW.o);clear hs5 q1 ra1 hpl HPO s0 s1 s2 sl t0 hg hgr;obtain ⟨h5,B5,ep,k5,o5⟩:=TO.o;have HB5:=Hz B5;have EP:=Hz ep;have K5:=Hz k5;have O5:=Hz o5;have SB5:=Hz (k5.au (SB2.o.drew) SNO.o);have s1:=SB5.o.cell 1;have sl:=SB5.o.lt;simp only [Lz,aB] at s1;obtain ⟨gr,orr,rc,erv,hgr,q1,-,-,hrs⟩:=B5.fR hr;rw [ep] at q1;have RS:=Hz hrs;have ERV:=Hz erv;have hpl:=B5.hp.lt;rw [ep] at hpl;clear B5 k5 o5 ep hrs erv;refine hK _ _ ?_;clear hK K;refine aC (λ_=>True) trivial ?_
  iterate 5 refine Wz ?_
  refine av ?_;have h12:(r:Int)<12:=by omega
  have h12':¬ (12:Int)<=(r:Int):=by omega
  have h12n:¬ (12:Nat)<=r:=by omega
  go_wp2_with fail;refine a6 (ftq [0,1,2,4,6,7] (.pure 3 (.pure 5 (.free 8 (.run 9 (.swi [] (.fin))))))) [9] (Fz q1 (Fa s1)) ?_
  iterate 9 refine Wz ?_
  refine aD rfl rfl rfl (λK hK=>?_);refine cx 77 (.tmp 91) (.tmp 90) rfl rfl gr orr 12 rc r _ 77 (.int .i64 3) (.int .i64 x) rfl rfl (RS.o.ab (Kz _).drew (λ_ _ h=>h)) hr (by kernel_rfl) rfl rfl ?_;intro wz hsz hkz hzz;refine hK _ _ ?_;clear hK K;refine aC (λ_=>True) trivial (av ?_);have T6:=Hz (HB5.o.fT ERV.o hr (v:=(3,x)) (by right;right;right;exact ⟨rfl,HXR.o⟩) hsz (((Kz w5).drew.mono (λ_ _ h=>h.elim)).trans hkz));clear hsz hkz hzz q1 s1 sl hpl hgr h12 h12' h12n;go_wp2_with fail;go_ret;rw [HPP.o];exact ⟨rfl,aT.aL (K2.o.trans (Kz w2).drew) (aT.step EP.o K5.o O5.o T6.o)⟩
 ·rw [if_neg hf] at hpf;have HPP:=Hz (HPN.o hpf);have kd:=(Kz w2).drew;have HPO:=Hz (yC h.p h.gv h.wv W.ai W.wait va w2.drew (hsd.ab kd (λ_ _ h=>h)) (by omega) hf);clear hpf hf hsd h24l HPN HPS kd;go_wp2_with fail;refine a6 (ftq [0,1,2,3,4,5,7] (.pure 6 (.free 8 (.free 9 (.pure 10 (.run 11 (.swi [] (ftq [12,13,14,15,16] (.fin))))))))) [11,12,13,14,15,16] (Fz q1 (Fa ra1)) ?_
  iterate 11 refine Wz ?_
  refine aD rfl rfl rfl (λK hK=>?_);unfold ax;go_simp;refine HPO.o.mono ?_;rintro e5 w5 ⟨rfl,hk⟩;have K4:=Hz ((K2.o.trans (Kz w2).drew).trans hk);clear hk q1 ra1 hpl HPO s0 s1 s2 sl t0 hg hgr;refine hK _ _ ?_;clear hK K;refine aC (λ_=>True) trivial ?_
  iterate 5 refine Wz ?_
  refine av ?_;go_wp2_with fail;go_ret;rw [HPP.o];exact ⟨rfl,aT.same HB0.o K4.o⟩
theorem Cm (r a:Nat) (xb xi xn:Int) (H:aR w h W) (hr:r<12) (ha:a<12) :
  Calls Tryz.prog 43 #[.pointer (some ⟨h.p,0,none⟩), .agg #[.int .i64 13, .int .i64 r, .int .i64 a, .int .i64 xb, .int .i64 xi, .int .i64 xn]] w (ei w h (W.len ⟨13,r,a,xb,xi,xn⟩)):=by
 unfold ei;have HLE:=Hz (show W.len ⟨13,r,a,xb,xi,xn⟩=if W.ah a<0\/(W.th (W.ah a)).k=5 then (2,W) else (0,W.bF r (1,(W.th (W.ah a)).fs.length)) from rfl);have HB0:=Hz H;have ay:ak (w.alloc (.cells #[.int .i64 13, .int .i64 r, .int .i64 a, .int .i64 xb, .int .i64 xi, .int .i64 xn] 26)) w.heap.size [.int .i64 13, .int .i64 r, .int .i64 a, .int .i64 xb, .int .i64 xi, .int .i64 xn] 26:=ak.newAt _ rfl rfl;have ka:=(Kz w).alloc (.cells #[.int .i64 13, .int .i64 r, .int .i64 a, .int .i64 xb, .int .i64 xi, .int .i64 xn] 26);have HB1:=Hz (H.same ka);have K1:=Hz ka;have SB1:=Hz ay;have SOW:=Hz (show ¬ h.Own w.heap.size from λe=>by have:=H.aZ e;omega);clear ay ka H;go_enter Tryz.func43,Tryz.ntmps43;go_upto_region 1 with fail
 generalize w.alloc (.cells #[.int .i64 13, .int .i64 r, .int .i64 a, .int .i64 xb, .int .i64 xi, .int .i64 xn] 26)=w1 at *;generalize w.heap.size=sb at *;have s0:=SB1.o.cell 0;have s1:=SB1.o.cell 1;have s2:=SB1.o.cell 2;have s3:=SB1.o.cell 3;have s4:=SB1.o.cell 4;have s5:=SB1.o.cell 5;have sl:=SB1.o.lt;simp only [Lz,aB] at s0 s1 s2 s3 s4 s5;have HOA:=Hz (λw' (H:aR w' h W)=>rM a ha H);by_cases hta:W.ah a<0
 ·rw [jU hta] at HOA;have HE:=Hz (show W.len ⟨13,r,a,xb,xi,xn⟩=(2,W) by rw [HLE.o,if_pos (.inl hta)]);clear hta;go_wp2_with fail;refine (HOA.o _ HB1.o).mono ?_;rintro e w2 ⟨rfl,hk⟩;have HB2:=Hz (HB1.o.same hk);have K2:=Hz (K1.o.trans hk);have SB2:=Hz (hk.au SB1.o (λh=>h));clear hk s0 s1 s2 s3 s4 s5 sl;have s0:=SB2.o.cell 0;have s1:=SB2.o.cell 1;have s2:=SB2.o.cell 2;have sl:=SB2.o.lt;simp only [Lz,aB] at s0 s1 s2;go_wp2_with fail;go_ret;rw [HE.o];exact ⟨rfl,aT.same HB0.o K2.o⟩
 have hla:=Wd.dg HB0.o.ok hta;obtain ⟨ga,oa,nca,-,-,etl,-⟩:=HB0.o.rowAt hla;rw [jV hta etl] at HOA;have ETL:=Hz etl;have HLA:=Hz hla;have hfl:=(bL (HB0.o.ok.tk _ hla)).2.2.2;by_cases h5:(W.th (W.ah a)).k=5
 ·have HE:=Hz (show W.len ⟨13,r,a,xb,xi,xn⟩=(2,W) by rw [HLE.o,if_pos (.inr h5)]);clear hta hla etl;go_wp2_with fail;refine (HOA.o _ HB1.o).mono ?_;rintro e w2 ⟨rfl,hk⟩;have HB2:=Hz (HB1.o.same hk);have K2:=Hz (K1.o.trans hk);have SB2:=Hz (hk.au SB1.o (λh=>h));clear hk s0 s1 s2 s3 s4 s5 sl;have s0:=SB2.o.cell 0;have s1:=SB2.o.cell 1;have s2:=SB2.o.cell 2;have sl:=SB2.o.lt;simp only [Lz,aB] at s0 s1 s2;obtain ⟨gb,ob,ncb,-,-,e',hg,t0,-⟩:=HB2.o.rowAt HLA.o;rw [ETL.o] at e';cases e';rw [h5] at t0;clear h5;go_wp2_with fail;go_ret;rw [HE.o];exact ⟨rfl,aT.same HB0.o K2.o⟩
 have HE:=Hz (show W.len ⟨13,r,a,xb,xi,xn⟩=(0,W.bF r (1,(W.th (W.ah a)).fs.length)) by rw [HLE.o,if_neg (by rintro (h | h);exact hta h;exact h5 h)]);have e5:((W.th (W.ah a)).k == 5)=false:=by simpa using h5
 clear hta hla etl h5;go_wp2_with fail;refine (HOA.o _ HB1.o).mono ?_;rintro e w2 ⟨rfl,hk⟩;have HB2:=Hz (HB1.o.same hk);have K2:=Hz (K1.o.trans hk);have SB2:=Hz (hk.au SB1.o (λh=>h));clear hk s0 s1 s2 s3 s4 s5 sl;have s0:=SB2.o.cell 0;have s1:=SB2.o.cell 1;have s2:=SB2.o.cell 2;have sl:=SB2.o.lt;simp only [Lz,aB] at s0 s1 s2;obtain ⟨gb,ob,ncb,fo,fc,e',hg,t0,t1,-,-⟩:=HB2.o.rowAt HLA.o;rw [ETL.o] at e';cases e';obtain ⟨gr,orr,rc,erv,hgr,q1,-,-,hrs⟩:=HB2.o.fR hr;have RS:=Hz hrs;have ERV:=Hz erv;have pl:=HB2.o.hp.lt;clear erv hrs;generalize (W.th (W.ah a)).fs.length=n at *;generalize (W.th (W.ah a)).k=kd at *;have HV:=Hz (show W.cI (1,(n:Int)) from .inr (.inl ⟨rfl,by unfold cG;omega⟩));have h12:(r:Int)<12:=by omega
 have h12':¬ (12:Int)<=(r:Int):=by omega
 have h12n:¬ (12:Nat)<=r:=by omega
 go_wp2_with fail;refine a6 (ftq [0,1,2,4,6,7] (.pure 3 (.pure 5 (.free 8 (.run 9 (.swi [] (.fin))))))) [9] (Fz q1 (Fa s1)) ?_
 iterate 9 refine Wz ?_
 refine aD rfl rfl rfl (λK hK=>?_);refine cx 77 (.tmp 53) (.tmp 52) rfl rfl gr orr 12 rc r _ 77 (.int .i64 1) (.int .i64 n) rfl rfl (RS.o.ab (Kz _).drew (λ_ _ h=>h)) hr (by kernel_rfl) rfl rfl ?_;intro wz hsz hkz hzz;refine hK _ _ ?_;clear hK K;refine aC (λ_=>True) trivial (av ?_);have T6:=Hz (HB2.o.fT ERV.o hr (v:=(1,(n:Int))) HV.o hsz (((Kz w2).drew.mono (λ_ _ h=>h.elim)).trans hkz));clear hsz hkz hzz q1 s0 s1 s2 sl pl t0 t1;go_wp2_with fail;go_ret;rw [HE.o];exact ⟨rfl,aT.aL K2.o T6.o⟩
theorem Aj (r a b:Nat) (xi xn:Int) (H:aR w h W) (hr:r<12) (ha:a<12) (hb:b<12) :
  Calls Tryz.prog 43 #[.pointer (some ⟨h.p,0,none⟩), .agg #[.int .i64 14, .int .i64 r, .int .i64 a, .int .i64 b, .int .i64 xi, .int .i64 xn]] w (ei w h (W.same ⟨14,r,a,b,xi,xn⟩)):=by
 unfold ei;have HSE:=Hz (show W.same ⟨14,r,a,b,xi,xn⟩=(0,W.bF r (1,if W.rt a=W.rt b then 1 else 0)) from rfl);have HB0:=Hz H;have ay:ak (w.alloc (.cells #[.int .i64 14, .int .i64 r, .int .i64 a, .int .i64 b, .int .i64 xi, .int .i64 xn] 26)) w.heap.size [.int .i64 14, .int .i64 r, .int .i64 a, .int .i64 b, .int .i64 xi, .int .i64 xn] 26:=ak.newAt _ rfl rfl;have ka:=(Kz w).alloc (.cells #[.int .i64 14, .int .i64 r, .int .i64 a, .int .i64 b, .int .i64 xi, .int .i64 xn] 26);have HB1:=Hz (H.same ka);have K1:=Hz ka;have SB1:=Hz ay;have SOW:=Hz (show ¬ h.Own w.heap.size from λe=>by have:=H.aZ e;omega);clear ay ka H;go_enter Tryz.func43,Tryz.ntmps43;go_upto_region 1 with fail
 generalize w.alloc (.cells #[.int .i64 14, .int .i64 r, .int .i64 a, .int .i64 b, .int .i64 xi, .int .i64 xn] 26)=w1 at *;generalize w.heap.size=sb at *;have s0:=SB1.o.cell 0;have s1:=SB1.o.cell 1;have s2:=SB1.o.cell 2;have s3:=SB1.o.cell 3;have s4:=SB1.o.cell 4;have s5:=SB1.o.cell 5;have sl:=SB1.o.lt;simp only [Lz,aB] at s0 s1 s2 s3 s4 s5;obtain ⟨gr,orr,rc,erv,hgr,q1,a0,a1,hrs⟩:=HB1.o.fR ha;obtain ⟨gr',or',rc',-,-,q1',b0,b1,-⟩:=HB1.o.fR hb;rw [q1] at q1';cases q1';have RS:=Hz hrs;have ERV:=Hz erv;have pl:=HB1.o.hp.lt;have hai:(a:Int)<12:=by omega
 have hbi:(b:Int)<12:=by omega
 clear erv hrs;generalize W.rt (a:Int)=v at *;generalize W.rt (b:Int)=u at *;obtain ⟨v1,v2⟩:=v;obtain ⟨u1,u2⟩:=u;dsimp only at a0 a1 b0 b1;by_cases he:((v1,v2):Vl)=(u1,u2)
 ·have HE:=Hz (show W.same ⟨14,r,a,b,xi,xn⟩=(0,W.bF r (1,1)) by rw [HSE.o,if_pos he]);cases he;have HV:=Hz (show W.cI (1,1) from .inr (.inl ⟨rfl,by unfold cG;omega⟩));clear HSE;go_wp2_with fail;refine a6 (ftq [0,1,2,4,8,9,10,12] (.pure 3 (.pure 5 (.free 6 (ptq [7,11,13] (.free 14 (.pure 15 (.free 16 (.fin))))))))) [] (Fz q1 (Fz s2 (Fz s3 (Fz a0 (Fz a1 (Fz b0 (Fa b1))))))) ?_
  iterate 17 refine Wz ?_
  refine av ?_;have kd:=(Kz w1).drew;have H2:=Hz (HB1.o.same kd);have K2:=Hz (K1.o.trans kd);have B2:=Hz (kd.au SB1.o (λh=>h));have RS:=Hz (RS.o.ab kd (λ_ _ h=>h));clear kd s0 s1 s2 s3 s4 s5 sl q1 pl a0 a1 b0 b1;generalize w1.drew=w2 at *;have s1:=B2.o.cell 1;have sl:=B2.o.lt;have pl:=H2.o.hp.lt;have q1:=H2.o.cells.2.1;rw [ERV.o] at q1;simp only [Lz,aB] at s1;have h12:(r:Int)<12:=by omega
  have h12':¬ (12:Int)<=(r:Int):=by omega
  have h12n:¬ (12:Nat)<=r:=by omega
  go_wp2_with fail;refine a6 (ftq [0,1,2,4,6,7] (.pure 3 (.pure 5 (.free 8 (.run 9 (.swi [] (.fin))))))) [9] (Fz q1 (Fa s1)) ?_
  iterate 9 refine Wz ?_
  refine aD rfl rfl rfl (λK hK=>?_);refine cx 77 (.tmp 53) (.tmp 52) rfl rfl gr orr 12 rc r _ 77 (.int .i64 1) (.int .i64 1) rfl rfl (RS.o.ab (Kz _).drew (λ_ _ h=>h)) hr (by kernel_rfl) rfl rfl ?_;intro wz hsz hkz hzz;refine hK _ _ ?_;clear hK K;refine aC (λ_=>True) trivial (av ?_);have T6:=Hz (H2.o.fT ERV.o hr (v:=(1,1)) HV.o hsz (((Kz w2).drew.mono (λ_ _ h=>h.elim)).trans hkz));clear hsz hkz hzz q1 s1 sl pl;go_wp2_with fail;go_ret;rw [HE.o];exact ⟨rfl,aT.aL K2.o T6.o⟩
 ·have HE:=Hz (show W.same ⟨14,r,a,b,xi,xn⟩=(0,W.bF r (1,0)) by rw [HSE.o,if_neg he]);have HV:=Hz (show W.cI (1,0) from .inr (.inl ⟨rfl,by unfold cG;omega⟩));have hne:¬ (v1=u1/\v2=u2):=λh=>he (by rw [h.1,h.2]);clear he HSE;by_cases h1:v1=u1
  ·have h2:¬ v2=u2:=λh=>hne ⟨h1,h⟩;subst h1;clear hne;go_wp2_with fail;refine a6 (ftq [0,1,2,4,8,9,10,12] (.pure 3 (.pure 5 (.free 6 (ptq [7,11,13] (.free 14 (.pure 15 (.free 16 (.fin))))))))) [] (Fz q1 (Fz s2 (Fz s3 (Fz a0 (Fz a1 (Fz b0 (Fa b1))))))) ?_
   iterate 17 refine Wz ?_
   refine av ?_;have kd:=(Kz w1).drew;have H2:=Hz (HB1.o.same kd);have K2:=Hz (K1.o.trans kd);have B2:=Hz (kd.au SB1.o (λh=>h));have RS:=Hz (RS.o.ab kd (λ_ _ h=>h));clear kd s0 s1 s2 s3 s4 s5 sl q1 pl a0 a1 b0 b1;generalize w1.drew=w2 at *;have s1:=B2.o.cell 1;have sl:=B2.o.lt;have pl:=H2.o.hp.lt;have q1:=H2.o.cells.2.1;rw [ERV.o] at q1;simp only [Lz,aB] at s1;have h12:(r:Int)<12:=by omega
   have h12':¬ (12:Int)<=(r:Int):=by omega
   have h12n:¬ (12:Nat)<=r:=by omega
   go_wp2_with fail;refine a6 (ftq [0,1,2,4,6,7] (.pure 3 (.pure 5 (.free 8 (.run 9 (.swi [] (.fin))))))) [9] (Fz q1 (Fa s1)) ?_
   iterate 9 refine Wz ?_
   refine aD rfl rfl rfl (λK hK=>?_);refine cx 77 (.tmp 53) (.tmp 52) rfl rfl gr orr 12 rc r _ 77 (.int .i64 1) (.int .i64 0) rfl rfl (RS.o.ab (Kz _).drew (λ_ _ h=>h)) hr (by kernel_rfl) rfl rfl ?_;intro wz hsz hkz hzz;refine hK _ _ ?_;clear hK K;refine aC (λ_=>True) trivial (av ?_);have T6:=Hz (H2.o.fT ERV.o hr (v:=(1,0)) HV.o hsz (((Kz w2).drew.mono (λ_ _ h=>h.elim)).trans hkz));clear hsz hkz hzz q1 s1 sl pl;go_wp2_with fail;go_ret;rw [HE.o];exact ⟨rfl,aT.aL K2.o T6.o⟩
  ·clear hne;go_wp2_with fail;refine a6 (ftq [0,1,2,4,8,9,10,12] (.pure 3 (.pure 5 (.free 6 (ptq [7,11,13] (.free 14 (.pure 15 (.free 16 (.fin))))))))) [] (Fz q1 (Fz s2 (Fz s3 (Fz a0 (Fz a1 (Fz b0 (Fa b1))))))) ?_
   iterate 17 refine Wz ?_
   refine av ?_;have kd:=(Kz w1).drew;have H2:=Hz (HB1.o.same kd);have K2:=Hz (K1.o.trans kd);have B2:=Hz (kd.au SB1.o (λh=>h));have RS:=Hz (RS.o.ab kd (λ_ _ h=>h));clear kd s0 s1 s2 s3 s4 s5 sl q1 pl a0 a1 b0 b1;generalize w1.drew=w2 at *;have s1:=B2.o.cell 1;have sl:=B2.o.lt;have pl:=H2.o.hp.lt;have q1:=H2.o.cells.2.1;rw [ERV.o] at q1;simp only [Lz,aB] at s1;have h12:(r:Int)<12:=by omega
   have h12':¬ (12:Int)<=(r:Int):=by omega
   have h12n:¬ (12:Nat)<=r:=by omega
   go_wp2_with fail;refine a6 (ftq [0,1,2,4,6,7] (.pure 3 (.pure 5 (.free 8 (.run 9 (.swi [] (.fin))))))) [9] (Fz q1 (Fa s1)) ?_
   iterate 9 refine Wz ?_
   refine aD rfl rfl rfl (λK hK=>?_);refine cx 77 (.tmp 53) (.tmp 52) rfl rfl gr orr 12 rc r _ 77 (.int .i64 1) (.int .i64 0) rfl rfl (RS.o.ab (Kz _).drew (λ_ _ h=>h)) hr (by kernel_rfl) rfl rfl ?_;intro wz hsz hkz hzz;refine hK _ _ ?_;clear hK K;refine aC (λ_=>True) trivial (av ?_);have T6:=Hz (H2.o.fT ERV.o hr (v:=(1,0)) HV.o hsz (((Kz w2).drew.mono (λ_ _ h=>h.elim)).trans hkz));clear hsz hkz hzz q1 s1 sl pl;go_wp2_with fail;go_ret;rw [HE.o];exact ⟨rfl,aT.aL K2.o T6.o⟩
end
end
end Go.Proofs.YtjifdalflepcoadGreat
