/-
  Parts of the proof, merged: what the functions do, and plain laws.
-/
import Derived.Test.YtjifdalflepcoadGreatTRPP12
import Derived.Test.YtjifdalflepcoadGreatTRPP13
set_option maxHeartbeats 16000000
set_option maxRecDepth 100000
set_option linter.unusedVariables false
set_option linter.unusedSimpArgs false
namespace Go.Proofs.YtjifdalflepcoadGreat
section
open Go.RowKit
section
variable {w w':World} {h:HH} {O O':Wo} {W:Wd} {φ:Int->Int}
theorem z5 (xk xr xa xb xi xn:Int) (B:a8 w h O) (hbad:¬ bu ⟨xk,xr,xa,xb,xi,xn⟩=0) :
  Calls Tryz.prog 20 #[.pointer (some ⟨h.p,0,none⟩), .agg #[.int .i64 xk, .int .i64 xr, .int .i64 xa, .int .i64 xb, .int .i64 xi, .int .i64 xn]] w (bT w h O ⟨xk,xr,xa,xb,xi,xn⟩):=by
 unfold bT;have HBD:=Hz hbad;clear hbad;have HB0:=Hz B;have ay:ak (w.alloc (.cells #[.int .i64 xk, .int .i64 xr, .int .i64 xa, .int .i64 xb, .int .i64 xi, .int .i64 xn] 26)) w.heap.size [.int .i64 xk, .int .i64 xr, .int .i64 xa, .int .i64 xb, .int .i64 xi, .int .i64 xn] 26:=ak.newAt _ rfl rfl;have ka:=(Kz w).alloc (.cells #[.int .i64 xk, .int .i64 xr, .int .i64 xa, .int .i64 xb, .int .i64 xi, .int .i64 xn] 26);have s0:=ay.cell 0;have s1:=ay.cell 1;have s2:=ay.cell 2;have s3:=ay.cell 3;have s4:=ay.cell 4;have s5:=ay.cell 5;have sl:=ay.lt;simp only [Lz,aB] at s0 s1 s2 s3 s4 s5;have HSF:=Hz (λw=>dF ⟨xk,xr,xa,xb,xi,xn⟩ w);obtain ⟨c,hc⟩:∃ c,bu ⟨xk,xr,xa,xb,xi,xn⟩=c:=⟨_,rfl⟩;rw [hc] at HSF;have HC:=Hz hc;have HB:=Hz ay;have KA:=Hz ka;clear ay hc ka B;go_enter Tryz.func20,Tryz.ntmps20;go_wp2_with (refine bD rfl 26 (.tmp 3) rfl [.int .i64 xk, .int .i64 xr, .int .i64 xa, .int .i64 xb, .int .i64 xi, .int .i64 xn] (by kernel_rfl) w.heap.size 0 rfl (ae s0 (ae s1 (ae s2 (ae s3 (ae s4 (ae s5 a9)))))) ?_);refine (HSF.o _).mono ?_;rintro e w1 ⟨rfl,hk⟩;have HB1:=Hz ((HB0.o.same KA.o).same hk);have K1:=Hz (KA.o.trans hk);have SB1:=Hz (hk.au HB.o (λh=>h));have SFR:=Hz (show ¬ h.Own w.heap.size from λe=>by have:=HB0.o.aZ e;omega);clear hk s0 s1 s2 s3 s4 s5 sl HSF KA HB;generalize w.heap.size=sb at *;have s0:=SB1.o.cell 0;have s1:=SB1.o.cell 1;have s2:=SB1.o.cell 2;have s3:=SB1.o.cell 3;have s4:=SB1.o.cell 4;have s5:=SB1.o.cell 5;have sl:=SB1.o.lt;simp only [Lz,aB] at s0 s1 s2 s3 s4 s5;by_cases h0:¬ c=0
 ·have HE:=Hz (show O.do ⟨xk,xr,xa,xb,xi,xn⟩=(c,O) by unfold Wo.do;rw [HC.o,if_neg h0]);have hd:(c != 0)=true:=by simpa using h0
  clear h0;go_wp2_with fail;go_ret;exact ⟨by rw [HE.o];rfl,by rw [HE.o];exact aV.same HB0.o K1.o⟩
 have h0:c=0:=Zn.1 h0;subst h0;exact (HBD.o HC.o).elim
theorem z6 (xr xa xb xi xn:Int) (B:a8 w h O) :
  Calls Tryz.prog 20 #[.pointer (some ⟨h.p,0,none⟩), .agg #[.int .i64 2, .int .i64 xr, .int .i64 xa, .int .i64 xb, .int .i64 xi, .int .i64 xn]] w (bT w h O ⟨2,xr,xa,xb,xi,xn⟩):=by
 unfold bT;have HB0:=Hz B;have ay:ak (w.alloc (.cells #[.int .i64 2, .int .i64 xr, .int .i64 xa, .int .i64 xb, .int .i64 xi, .int .i64 xn] 26)) w.heap.size [.int .i64 2, .int .i64 xr, .int .i64 xa, .int .i64 xb, .int .i64 xi, .int .i64 xn] 26:=ak.newAt _ rfl rfl;have ka:=(Kz w).alloc (.cells #[.int .i64 2, .int .i64 xr, .int .i64 xa, .int .i64 xb, .int .i64 xi, .int .i64 xn] 26);have s0:=ay.cell 0;have s1:=ay.cell 1;have s2:=ay.cell 2;have s3:=ay.cell 3;have s4:=ay.cell 4;have s5:=ay.cell 5;have sl:=ay.lt;simp only [Lz,aB] at s0 s1 s2 s3 s4 s5;have HSF:=Hz (λw=>dF ⟨2,xr,xa,xb,xi,xn⟩ w);obtain ⟨c,hc⟩:∃ c,bu ⟨2,xr,xa,xb,xi,xn⟩=c:=⟨_,rfl⟩;rw [hc] at HSF;have HC:=Hz hc;have HB:=Hz ay;have KA:=Hz ka;clear ay hc ka B;go_enter Tryz.func20,Tryz.ntmps20;go_wp2_with (refine bD rfl 26 (.tmp 3) rfl [.int .i64 2, .int .i64 xr, .int .i64 xa, .int .i64 xb, .int .i64 xi, .int .i64 xn] (by kernel_rfl) w.heap.size 0 rfl (ae s0 (ae s1 (ae s2 (ae s3 (ae s4 (ae s5 a9)))))) ?_);refine (HSF.o _).mono ?_;rintro e w1 ⟨rfl,hk⟩;have HB1:=Hz ((HB0.o.same KA.o).same hk);have K1:=Hz (KA.o.trans hk);have SB1:=Hz (hk.au HB.o (λh=>h));have SFR:=Hz (show ¬ h.Own w.heap.size from λe=>by have:=HB0.o.aZ e;omega);clear hk s0 s1 s2 s3 s4 s5 sl HSF KA HB;generalize w.heap.size=sb at *;have s0:=SB1.o.cell 0;have s1:=SB1.o.cell 1;have s2:=SB1.o.cell 2;have s3:=SB1.o.cell 3;have s4:=SB1.o.cell 4;have s5:=SB1.o.cell 5;have sl:=SB1.o.lt;simp only [Lz,aB] at s0 s1 s2 s3 s4 s5;by_cases h0:¬ c=0
 ·have HE:=Hz (show O.do ⟨2,xr,xa,xb,xi,xn⟩=(c,O) by unfold Wo.do;rw [HC.o,if_neg h0]);have hd:(c != 0)=true:=by simpa using h0
  clear h0;go_wp2_with fail;go_ret;exact ⟨by rw [HE.o];rfl,by rw [HE.o];exact aV.same HB0.o K1.o⟩
 have h0:c=0:=Zn.1 h0;subst h0;have hr:0<=xr/\xr<12:=(aJ _).1 ((aF HC.o).2.1 (show aP 2%2=1 by decide));obtain ⟨r,rfl⟩:∃ r:Nat,xr=r:=⟨xr.toNat,by omega⟩;have hr12:r<12:=by omega
 clear hr;have HE:=Hz (show O.do ⟨2,r,xa,xb,xi,xn⟩=O.iA r (2,0) by unfold Wo.do;rw [if_pos HC.o];rfl);go_wp2_with fail;refine a6 (.free 0 (.free 1 (.pure 2 (.run 3 (.run 4 (.swi [] (.free 5 (.fin)))))))) [4,5] (Fa s1) ?_
 iterate 3 refine Wz ?_
 refine aN rfl rfl (λK hK=>?_);unfold ax;go_simp;refine (wV _).mono ?_;rintro e w7 ⟨rfl,rfl⟩;refine hK _ _ (λhg=>hg) ?_;clear hK K
 skip
 refine aD rfl rfl rfl (λK hK=>?_);unfold ax;go_simp;have hk1:=(Kz w1).drew;refine (iO r 2 0 (HB1.o.same hk1) hr12 (by unfold bm;omega)).mono ?_;rintro e w8 ⟨rfl,ht⟩;have TO:=Hz (aV.aL (K1.o.trans hk1) ht.to);refine hK _ _ ?_;clear hK K ht hk1 s0 s1 s2 s3 s4 s5 sl;refine aC (λ_=>True) trivial ?_;refine Wz ?_;refine av ?_;go_wp2_with fail;go_ret;exact ⟨by rw [HE.o];rfl,by rw [HE.o];exact TO.o⟩
theorem yQ (xr xa xb xi xn:Int) (B:a8 w h O) :
  Calls Tryz.prog 20 #[.pointer (some ⟨h.p,0,none⟩), .agg #[.int .i64 3, .int .i64 xr, .int .i64 xa, .int .i64 xb, .int .i64 xi, .int .i64 xn]] w (bT w h O ⟨3,xr,xa,xb,xi,xn⟩):=by
 unfold bT;have HB0:=Hz B;have ay:ak (w.alloc (.cells #[.int .i64 3, .int .i64 xr, .int .i64 xa, .int .i64 xb, .int .i64 xi, .int .i64 xn] 26)) w.heap.size [.int .i64 3, .int .i64 xr, .int .i64 xa, .int .i64 xb, .int .i64 xi, .int .i64 xn] 26:=ak.newAt _ rfl rfl;have ka:=(Kz w).alloc (.cells #[.int .i64 3, .int .i64 xr, .int .i64 xa, .int .i64 xb, .int .i64 xi, .int .i64 xn] 26);have s0:=ay.cell 0;have s1:=ay.cell 1;have s2:=ay.cell 2;have s3:=ay.cell 3;have s4:=ay.cell 4;have s5:=ay.cell 5;have sl:=ay.lt;simp only [Lz,aB] at s0 s1 s2 s3 s4 s5;have HSF:=Hz (λw=>dF ⟨3,xr,xa,xb,xi,xn⟩ w);obtain ⟨c,hc⟩:∃ c,bu ⟨3,xr,xa,xb,xi,xn⟩=c:=⟨_,rfl⟩;rw [hc] at HSF;have HC:=Hz hc;have HB:=Hz ay;have KA:=Hz ka;clear ay hc ka B;go_enter Tryz.func20,Tryz.ntmps20;go_wp2_with (refine bD rfl 26 (.tmp 3) rfl [.int .i64 3, .int .i64 xr, .int .i64 xa, .int .i64 xb, .int .i64 xi, .int .i64 xn] (by kernel_rfl) w.heap.size 0 rfl (ae s0 (ae s1 (ae s2 (ae s3 (ae s4 (ae s5 a9)))))) ?_);refine (HSF.o _).mono ?_;rintro e w1 ⟨rfl,hk⟩;have HB1:=Hz ((HB0.o.same KA.o).same hk);have K1:=Hz (KA.o.trans hk);have SB1:=Hz (hk.au HB.o (λh=>h));have SFR:=Hz (show ¬ h.Own w.heap.size from λe=>by have:=HB0.o.aZ e;omega);clear hk s0 s1 s2 s3 s4 s5 sl HSF KA HB;generalize w.heap.size=sb at *;have s0:=SB1.o.cell 0;have s1:=SB1.o.cell 1;have s2:=SB1.o.cell 2;have s3:=SB1.o.cell 3;have s4:=SB1.o.cell 4;have s5:=SB1.o.cell 5;have sl:=SB1.o.lt;simp only [Lz,aB] at s0 s1 s2 s3 s4 s5;by_cases h0:¬ c=0
 ·have HE:=Hz (show O.do ⟨3,xr,xa,xb,xi,xn⟩=(c,O) by unfold Wo.do;rw [HC.o,if_neg h0]);have hd:(c != 0)=true:=by simpa using h0
  clear h0;go_wp2_with fail;go_ret;exact ⟨by rw [HE.o];rfl,by rw [HE.o];exact aV.same HB0.o K1.o⟩
 have h0:c=0:=Zn.1 h0;subst h0;have hr:0<=xr/\xr<12:=(aJ _).1 ((aF HC.o).2.1 (show aP 3%2=1 by decide));obtain ⟨r,rfl⟩:∃ r:Nat,xr=r:=⟨xr.toNat,by omega⟩;have hr12:r<12:=by omega
 clear hr;have ha:0<=xa/\xa<12:=(aJ _).1 ((aF HC.o).2.2.1 (show aP 3/2%2=1 by decide));obtain ⟨a,rfl⟩:∃ a:Nat,xa=a:=⟨xa.toNat,by omega⟩;have ha12:a<12:=by omega
 clear ha;have HE:=Hz (show O.do ⟨3,r,a,xb,xi,xn⟩=O.iA r (O.a5 a,0) by unfold Wo.do;rw [if_pos HC.o];rfl);obtain ⟨b0,bl⟩:=HB1.o.pc;obtain ⟨g,o,cap,hro,hown,q0,q3,ql,gl,fz,rc⟩:=HB1.o.roots;have ra:=rc a ha12;have ra:w1.cell? ⟨g,o+a,none⟩=some (.int .i64 (O.a5 a)):=ra;have ha12i:(a:Int)<12:=by omega
 clear hro hown fz rc;have HVR:=Hz (lp HB1.o.H.ok (a:Int));generalize O.a5 (a:Int)=va at *;go_wp2_with fail;refine a6 (ftq [0,1,3,4,5,10] (.pure 2 (.pure 6 (.free 7 (.free 8 (.pure 9 (.pure 11 (.free 12 (.pure 13 (.run 14 (.swi [] (.free 15 (.fin))))))))))))) [14,15] (Fz b0 (Fz q3 (Fz ra (Fz s1 (Fa s2))))) ?_
 iterate 14 refine Wz ?_
 refine aD rfl rfl rfl (λK hK=>?_);unfold ax;go_simp;have hk1:=(Kz w1).drew;refine (iO r va 0 (HB1.o.same hk1) hr12 HVR.o).mono ?_;rintro e w8 ⟨rfl,ht⟩;have TO:=Hz (aV.aL (K1.o.trans hk1) ht.to);refine hK _ _ ?_;clear hK K ht hk1 s0 s1 s2 s3 s4 s5 sl b0 bl q0 q3 ql gl ra;refine aC (λ_=>True) trivial ?_;refine Wz ?_;refine av ?_;go_wp2_with fail;go_ret;exact ⟨by rw [HE.o];rfl,by rw [HE.o];exact TO.o⟩
theorem z7 (xr xa xb xi xn:Int) (R:aI O W φ) (B:a8 w h O) :
  Calls Tryz.prog 20 #[.pointer (some ⟨h.p,0,none⟩), .agg #[.int .i64 5, .int .i64 xr, .int .i64 xa, .int .i64 xb, .int .i64 xi, .int .i64 xn]] w (bT w h O ⟨5,xr,xa,xb,xi,xn⟩):=by
 unfold bT;have HRR:=Hz R;clear R;have HB0:=Hz B;have ay:ak (w.alloc (.cells #[.int .i64 5, .int .i64 xr, .int .i64 xa, .int .i64 xb, .int .i64 xi, .int .i64 xn] 26)) w.heap.size [.int .i64 5, .int .i64 xr, .int .i64 xa, .int .i64 xb, .int .i64 xi, .int .i64 xn] 26:=ak.newAt _ rfl rfl;have ka:=(Kz w).alloc (.cells #[.int .i64 5, .int .i64 xr, .int .i64 xa, .int .i64 xb, .int .i64 xi, .int .i64 xn] 26);have s0:=ay.cell 0;have s1:=ay.cell 1;have s2:=ay.cell 2;have s3:=ay.cell 3;have s4:=ay.cell 4;have s5:=ay.cell 5;have sl:=ay.lt;simp only [Lz,aB] at s0 s1 s2 s3 s4 s5;have HSF:=Hz (λw=>dF ⟨5,xr,xa,xb,xi,xn⟩ w);obtain ⟨c,hc⟩:∃ c,bu ⟨5,xr,xa,xb,xi,xn⟩=c:=⟨_,rfl⟩;rw [hc] at HSF;have HC:=Hz hc;have HB:=Hz ay;have KA:=Hz ka;clear ay hc ka B;go_enter Tryz.func20,Tryz.ntmps20;go_wp2_with (refine bD rfl 26 (.tmp 3) rfl [.int .i64 5, .int .i64 xr, .int .i64 xa, .int .i64 xb, .int .i64 xi, .int .i64 xn] (by kernel_rfl) w.heap.size 0 rfl (ae s0 (ae s1 (ae s2 (ae s3 (ae s4 (ae s5 a9)))))) ?_);refine (HSF.o _).mono ?_;rintro e w1 ⟨rfl,hk⟩;have HB1:=Hz ((HB0.o.same KA.o).same hk);have K1:=Hz (KA.o.trans hk);have SB1:=Hz (hk.au HB.o (λh=>h));have SFR:=Hz (show ¬ h.Own w.heap.size from λe=>by have:=HB0.o.aZ e;omega);clear hk s0 s1 s2 s3 s4 s5 sl HSF KA HB;generalize w.heap.size=sb at *;have s0:=SB1.o.cell 0;have s1:=SB1.o.cell 1;have s2:=SB1.o.cell 2;have s3:=SB1.o.cell 3;have s4:=SB1.o.cell 4;have s5:=SB1.o.cell 5;have sl:=SB1.o.lt;simp only [Lz,aB] at s0 s1 s2 s3 s4 s5;by_cases h0:¬ c=0
 ·have HE:=Hz (show O.do ⟨5,xr,xa,xb,xi,xn⟩=(c,O) by unfold Wo.do;rw [HC.o,if_neg h0]);have hd:(c != 0)=true:=by simpa using h0
  clear h0;go_wp2_with fail;go_ret;exact ⟨by rw [HE.o];rfl,by rw [HE.o];exact aV.same HB0.o K1.o⟩
 have h0:c=0:=Zn.1 h0;subst h0;have hr:0<=xr/\xr<12:=(aJ _).1 ((aF HC.o).2.1 (show aP 5%2=1 by decide));obtain ⟨r,rfl⟩:∃ r:Nat,xr=r:=⟨xr.toNat,by omega⟩;have hr12:r<12:=by omega
 clear hr;have ha:0<=xa/\xa<12:=(aJ _).1 ((aF HC.o).2.2.1 (show aP 5/2%2=1 by decide));obtain ⟨a,rfl⟩:∃ a:Nat,xa=a:=⟨xa.toNat,by omega⟩;have ha12:a<12:=by omega
 clear ha;have hn:0<=xn/\xn<=12:=(aF HC.o).2.2.2.2.2 rfl;obtain ⟨n,rfl⟩:∃ n:Nat,xn=n:=⟨xn.toNat,by omega⟩;have HE:=Hz (show O.do ⟨5,r,a,xb,xi,n⟩=O.bz r 2 (List.replicate n (a:Int)) by unfold Wo.do;rw [if_pos HC.o];rfl);have HCL:=Hz (yO r a n xb xi HB1.o hr12 ha12 (by omega) (gO.rep HRR.o (by omega)));unfold dG at HCL;clear hn;go_wp2_with (refine bD rfl 26 (.tmp 3) rfl [.int .i64 5, .int .i64 r, .int .i64 a, .int .i64 xb, .int .i64 xi, .int .i64 n] (by kernel_rfl) sb 0 rfl (ae s0 (ae s1 (ae s2 (ae s3 (ae s4 (ae s5 a9)))))) ?_);refine HCL.o.mono ?_;rintro e w3 ⟨rfl,ht⟩;have TO:=Hz (aV.aL K1.o ht);clear ht s0 s1 s2 s3 s4 s5 sl HCL;go_wp2_with fail;go_ret;exact ⟨by rw [HE.o];rfl,by rw [HE.o];exact TO.o⟩
theorem yR (xr xa xb xi xn:Int) (R:aI O W φ) (B:a8 w h O) :
  Calls Tryz.prog 20 #[.pointer (some ⟨h.p,0,none⟩), .agg #[.int .i64 6, .int .i64 xr, .int .i64 xa, .int .i64 xb, .int .i64 xi, .int .i64 xn]] w (bT w h O ⟨6,xr,xa,xb,xi,xn⟩):=by
 unfold bT;have HRM:=Hz (show gO h O 3 from gO.rep R (by omega));clear R;have HB0:=Hz B;have ay:ak (w.alloc (.cells #[.int .i64 6, .int .i64 xr, .int .i64 xa, .int .i64 xb, .int .i64 xi, .int .i64 xn] 26)) w.heap.size [.int .i64 6, .int .i64 xr, .int .i64 xa, .int .i64 xb, .int .i64 xi, .int .i64 xn] 26:=ak.newAt _ rfl rfl;have ka:=(Kz w).alloc (.cells #[.int .i64 6, .int .i64 xr, .int .i64 xa, .int .i64 xb, .int .i64 xi, .int .i64 xn] 26);have s0:=ay.cell 0;have s1:=ay.cell 1;have s2:=ay.cell 2;have s3:=ay.cell 3;have s4:=ay.cell 4;have s5:=ay.cell 5;have sl:=ay.lt;simp only [Lz,aB] at s0 s1 s2 s3 s4 s5;have HSF:=Hz (λw=>dF ⟨6,xr,xa,xb,xi,xn⟩ w);obtain ⟨c,hc⟩:∃ c,bu ⟨6,xr,xa,xb,xi,xn⟩=c:=⟨_,rfl⟩;rw [hc] at HSF;have HC:=Hz hc;have HB:=Hz ay;have KA:=Hz ka;clear ay hc ka B;go_enter Tryz.func20,Tryz.ntmps20;go_wp2_with (refine bD rfl 26 (.tmp 3) rfl [.int .i64 6, .int .i64 xr, .int .i64 xa, .int .i64 xb, .int .i64 xi, .int .i64 xn] (by kernel_rfl) w.heap.size 0 rfl (ae s0 (ae s1 (ae s2 (ae s3 (ae s4 (ae s5 a9)))))) ?_);refine (HSF.o _).mono ?_;rintro e w1 ⟨rfl,hk⟩;have HB1:=Hz ((HB0.o.same KA.o).same hk);have K1:=Hz (KA.o.trans hk);have SB1:=Hz (hk.au HB.o (λh=>h));have SFR:=Hz (show ¬ h.Own w.heap.size from λe=>by have:=HB0.o.aZ e;omega);clear hk s0 s1 s2 s3 s4 s5 sl HSF KA HB;generalize w.heap.size=sb at *;have s0:=SB1.o.cell 0;have s1:=SB1.o.cell 1;have s2:=SB1.o.cell 2;have s3:=SB1.o.cell 3;have s4:=SB1.o.cell 4;have s5:=SB1.o.cell 5;have sl:=SB1.o.lt;simp only [Lz,aB] at s0 s1 s2 s3 s4 s5;by_cases h0:¬ c=0
 ·have HE:=Hz (show O.do ⟨6,xr,xa,xb,xi,xn⟩=(c,O) by unfold Wo.do;rw [HC.o,if_neg h0]);have hd:(c != 0)=true:=by simpa using h0
  clear h0;go_wp2_with fail;go_ret;exact ⟨by rw [HE.o];rfl,by rw [HE.o];exact aV.same HB0.o K1.o⟩
 have h0:c=0:=Zn.1 h0;subst h0;have hr:0<=xr/\xr<12:=(aJ _).1 ((aF HC.o).2.1 (show aP 6%2=1 by decide));obtain ⟨r,rfl⟩:∃ r:Nat,xr=r:=⟨xr.toNat,by omega⟩;have hr12:r<12:=by omega
 clear hr;have ha:0<=xa/\xa<12:=(aJ _).1 ((aF HC.o).2.2.1 (show aP 6/2%2=1 by decide));obtain ⟨a,rfl⟩:∃ a:Nat,xa=a:=⟨xa.toNat,by omega⟩;have ha12:a<12:=by omega
 clear ha;have hb:0<=xb/\xb<12:=(aJ _).1 ((aF HC.o).2.2.2.1 (show aP 6/4%2=1 by decide));obtain ⟨b,rfl⟩:∃ b:Nat,xb=b:=⟨xb.toNat,by omega⟩;have hb12:b<12:=by omega
 clear hb;have HE:=Hz (show O.do ⟨6,r,a,b,xi,xn⟩=O.bz r 3 ([a,b].map λ(k:Nat)=>(k:Int)) by unfold Wo.do;rw [if_pos HC.o];rfl);have ka:=(Kz w1).alloc (.cells #[.int .i64 a, .int .i64 b] 3);have hbl:ak (w1.alloc (.cells #[.int .i64 a, .int .i64 b] 3)) w1.heap.size [.int .i64 a, .int .i64 b] 3:=ak.newAt _ rfl rfl;have hmk:=mI r 3 [a,b] (some ⟨w1.heap.size,0,none⟩) 2 (HB1.o.same ka) hr12 (by intro k hk;simp at hk;omega) (show bj 3 2=true by decide) (Rd.au hbl 0 _ rfl) (λad e hb hn=>by cases e;have:=HB1.o.aZ hn;simp at this) (HRM.o.1 _ (HB1.o.same ka)) HRM.o.2;have HMK:=Hz hmk;have HKA:=Hz ka;clear ka hbl hmk;go_wp2_with fail;refine HMK.o.mono ?_;rintro e w3 ⟨rfl,ht⟩;have TO:=Hz (aV.aL (K1.o.trans HKA.o) ht);clear ht s0 s1 s2 s3 s4 s5 sl;go_wp2_with fail;go_ret;exact ⟨by rw [HE.o];rfl,by rw [HE.o];exact TO.o⟩
theorem xJ (xr xa xb xi xn:Int) (R:aI O W φ) (B:a8 w h O) :
  Calls Tryz.prog 20 #[.pointer (some ⟨h.p,0,none⟩), .agg #[.int .i64 7, .int .i64 xr, .int .i64 xa, .int .i64 xb, .int .i64 xi, .int .i64 xn]] w (bT w h O ⟨7,xr,xa,xb,xi,xn⟩):=by
 unfold bT;have HRM:=Hz (show gO h O 3 from gO.rep R (by omega));clear R;have HB0:=Hz B;have ay:ak (w.alloc (.cells #[.int .i64 7, .int .i64 xr, .int .i64 xa, .int .i64 xb, .int .i64 xi, .int .i64 xn] 26)) w.heap.size [.int .i64 7, .int .i64 xr, .int .i64 xa, .int .i64 xb, .int .i64 xi, .int .i64 xn] 26:=ak.newAt _ rfl rfl;have ka:=(Kz w).alloc (.cells #[.int .i64 7, .int .i64 xr, .int .i64 xa, .int .i64 xb, .int .i64 xi, .int .i64 xn] 26);have s0:=ay.cell 0;have s1:=ay.cell 1;have s2:=ay.cell 2;have s3:=ay.cell 3;have s4:=ay.cell 4;have s5:=ay.cell 5;have sl:=ay.lt;simp only [Lz,aB] at s0 s1 s2 s3 s4 s5;have HSF:=Hz (λw=>dF ⟨7,xr,xa,xb,xi,xn⟩ w);obtain ⟨c,hc⟩:∃ c,bu ⟨7,xr,xa,xb,xi,xn⟩=c:=⟨_,rfl⟩;rw [hc] at HSF;have HC:=Hz hc;have HB:=Hz ay;have KA:=Hz ka;clear ay hc ka B;go_enter Tryz.func20,Tryz.ntmps20;go_wp2_with (refine bD rfl 26 (.tmp 3) rfl [.int .i64 7, .int .i64 xr, .int .i64 xa, .int .i64 xb, .int .i64 xi, .int .i64 xn] (by kernel_rfl) w.heap.size 0 rfl (ae s0 (ae s1 (ae s2 (ae s3 (ae s4 (ae s5 a9)))))) ?_);refine (HSF.o _).mono ?_;rintro e w1 ⟨rfl,hk⟩;have HB1:=Hz ((HB0.o.same KA.o).same hk);have K1:=Hz (KA.o.trans hk);have SB1:=Hz (hk.au HB.o (λh=>h));have SFR:=Hz (show ¬ h.Own w.heap.size from λe=>by have:=HB0.o.aZ e;omega);clear hk s0 s1 s2 s3 s4 s5 sl HSF KA HB;generalize w.heap.size=sb at *;have s0:=SB1.o.cell 0;have s1:=SB1.o.cell 1;have s2:=SB1.o.cell 2;have s3:=SB1.o.cell 3;have s4:=SB1.o.cell 4;have s5:=SB1.o.cell 5;have sl:=SB1.o.lt;simp only [Lz,aB] at s0 s1 s2 s3 s4 s5;by_cases h0:¬ c=0
 ·have HE:=Hz (show O.do ⟨7,xr,xa,xb,xi,xn⟩=(c,O) by unfold Wo.do;rw [HC.o,if_neg h0]);have hd:(c != 0)=true:=by simpa using h0
  clear h0;go_wp2_with fail;go_ret;exact ⟨by rw [HE.o];rfl,by rw [HE.o];exact aV.same HB0.o K1.o⟩
 have h0:c=0:=Zn.1 h0;subst h0;have hr:0<=xr/\xr<12:=(aJ _).1 ((aF HC.o).2.1 (show aP 7%2=1 by decide));obtain ⟨r,rfl⟩:∃ r:Nat,xr=r:=⟨xr.toNat,by omega⟩;have hr12:r<12:=by omega
 clear hr;have ha:0<=xa/\xa<12:=(aJ _).1 ((aF HC.o).2.2.1 (show aP 7/2%2=1 by decide));obtain ⟨a,rfl⟩:∃ a:Nat,xa=a:=⟨xa.toNat,by omega⟩;have ha12:a<12:=by omega
 clear ha;have hb:0<=xb/\xb<12:=(aJ _).1 ((aF HC.o).2.2.2.1 (show aP 7/4%2=1 by decide));obtain ⟨b,rfl⟩:∃ b:Nat,xb=b:=⟨xb.toNat,by omega⟩;have hb12:b<12:=by omega
 clear hb;have HE:=Hz (show O.do ⟨7,r,a,b,xi,xn⟩=O.bz r 4 ([a,b].map λ(k:Nat)=>(k:Int)) by unfold Wo.do;rw [if_pos HC.o];rfl);have ka:=(Kz w1).alloc (.cells #[.int .i64 a, .int .i64 b] 3);have hbl:ak (w1.alloc (.cells #[.int .i64 a, .int .i64 b] 3)) w1.heap.size [.int .i64 a, .int .i64 b] 3:=ak.newAt _ rfl rfl;have hmk:=mI r 4 [a,b] (some ⟨w1.heap.size,0,none⟩) 2 (HB1.o.same ka) hr12 (by intro k hk;simp at hk;omega) (show bj 4 2=true by decide) (Rd.au hbl 0 _ rfl) (λad e hb hn=>by cases e;have:=HB1.o.aZ hn;simp at this) (HRM.o.1 _ (HB1.o.same ka)) HRM.o.2;have HMK:=Hz hmk;have HKA:=Hz ka;clear ka hbl hmk;go_wp2_with fail;refine HMK.o.mono ?_;rintro e w3 ⟨rfl,ht⟩;have TO:=Hz (aV.aL (K1.o.trans HKA.o) ht);clear ht s0 s1 s2 s3 s4 s5 sl;go_wp2_with fail;go_ret;exact ⟨by rw [HE.o];rfl,by rw [HE.o];exact TO.o⟩
theorem xK (xr xa xb xi xn:Int) (R:aI O W φ) (B:a8 w h O) :
  Calls Tryz.prog 20 #[.pointer (some ⟨h.p,0,none⟩), .agg #[.int .i64 8, .int .i64 xr, .int .i64 xa, .int .i64 xb, .int .i64 xi, .int .i64 xn]] w (bT w h O ⟨8,xr,xa,xb,xi,xn⟩):=by
 unfold bT;have HRM:=Hz (show gO h O 1 from gO.rep R (by omega));clear R;have HB0:=Hz B;have ay:ak (w.alloc (.cells #[.int .i64 8, .int .i64 xr, .int .i64 xa, .int .i64 xb, .int .i64 xi, .int .i64 xn] 26)) w.heap.size [.int .i64 8, .int .i64 xr, .int .i64 xa, .int .i64 xb, .int .i64 xi, .int .i64 xn] 26:=ak.newAt _ rfl rfl;have ka:=(Kz w).alloc (.cells #[.int .i64 8, .int .i64 xr, .int .i64 xa, .int .i64 xb, .int .i64 xi, .int .i64 xn] 26);have s0:=ay.cell 0;have s1:=ay.cell 1;have s2:=ay.cell 2;have s3:=ay.cell 3;have s4:=ay.cell 4;have s5:=ay.cell 5;have sl:=ay.lt;simp only [Lz,aB] at s0 s1 s2 s3 s4 s5;have HSF:=Hz (λw=>dF ⟨8,xr,xa,xb,xi,xn⟩ w);obtain ⟨c,hc⟩:∃ c,bu ⟨8,xr,xa,xb,xi,xn⟩=c:=⟨_,rfl⟩;rw [hc] at HSF;have HC:=Hz hc;have HB:=Hz ay;have KA:=Hz ka;clear ay hc ka B;go_enter Tryz.func20,Tryz.ntmps20;go_wp2_with (refine bD rfl 26 (.tmp 3) rfl [.int .i64 8, .int .i64 xr, .int .i64 xa, .int .i64 xb, .int .i64 xi, .int .i64 xn] (by kernel_rfl) w.heap.size 0 rfl (ae s0 (ae s1 (ae s2 (ae s3 (ae s4 (ae s5 a9)))))) ?_);refine (HSF.o _).mono ?_;rintro e w1 ⟨rfl,hk⟩;have HB1:=Hz ((HB0.o.same KA.o).same hk);have K1:=Hz (KA.o.trans hk);have SB1:=Hz (hk.au HB.o (λh=>h));have SFR:=Hz (show ¬ h.Own w.heap.size from λe=>by have:=HB0.o.aZ e;omega);clear hk s0 s1 s2 s3 s4 s5 sl HSF KA HB;generalize w.heap.size=sb at *;have s0:=SB1.o.cell 0;have s1:=SB1.o.cell 1;have s2:=SB1.o.cell 2;have s3:=SB1.o.cell 3;have s4:=SB1.o.cell 4;have s5:=SB1.o.cell 5;have sl:=SB1.o.lt;simp only [Lz,aB] at s0 s1 s2 s3 s4 s5;by_cases h0:¬ c=0
 ·have HE:=Hz (show O.do ⟨8,xr,xa,xb,xi,xn⟩=(c,O) by unfold Wo.do;rw [HC.o,if_neg h0]);have hd:(c != 0)=true:=by simpa using h0
  clear h0;go_wp2_with fail;go_ret;exact ⟨by rw [HE.o];rfl,by rw [HE.o];exact aV.same HB0.o K1.o⟩
 have h0:c=0:=Zn.1 h0;subst h0;have hr:0<=xr/\xr<12:=(aJ _).1 ((aF HC.o).2.1 (show aP 8%2=1 by decide));obtain ⟨r,rfl⟩:∃ r:Nat,xr=r:=⟨xr.toNat,by omega⟩;have hr12:r<12:=by omega
 clear hr;have HE:=Hz (show O.do ⟨8,r,xa,xb,xi,xn⟩=O.bz r 5 (([]:List Nat).map λ(k:Nat)=>(k:Int)) by unfold Wo.do;rw [if_pos HC.o];rfl);have HMK:=Hz (mI r 5 [] none 0 HB1.o hr12 (by intro k hk;cases hk) (show bj 5 0=true by decide) (Rd.nil _ _) (λad e hb hn=>by cases e) (HRM.o.1 _ HB1.o) HRM.o.2);go_wp2_with fail;refine HMK.o.mono ?_;rintro e w3 ⟨rfl,ht⟩;have TO:=Hz (aV.aL K1.o ht);clear ht s0 s1 s2 s3 s4 s5 sl;go_wp2_with fail;go_ret;exact ⟨by rw [HE.o];rfl,by rw [HE.o];exact TO.o⟩
theorem z8 (xr xa xb xi xn:Int) (B:a8 w h O) :
  Calls Tryz.prog 20 #[.pointer (some ⟨h.p,0,none⟩), .agg #[.int .i64 9, .int .i64 xr, .int .i64 xa, .int .i64 xb, .int .i64 xi, .int .i64 xn]] w (bT w h O ⟨9,xr,xa,xb,xi,xn⟩):=by
 unfold bT;have HB0:=Hz B;have ay:ak (w.alloc (.cells #[.int .i64 9, .int .i64 xr, .int .i64 xa, .int .i64 xb, .int .i64 xi, .int .i64 xn] 26)) w.heap.size [.int .i64 9, .int .i64 xr, .int .i64 xa, .int .i64 xb, .int .i64 xi, .int .i64 xn] 26:=ak.newAt _ rfl rfl;have ka:=(Kz w).alloc (.cells #[.int .i64 9, .int .i64 xr, .int .i64 xa, .int .i64 xb, .int .i64 xi, .int .i64 xn] 26);have s0:=ay.cell 0;have s1:=ay.cell 1;have s2:=ay.cell 2;have s3:=ay.cell 3;have s4:=ay.cell 4;have s5:=ay.cell 5;have sl:=ay.lt;simp only [Lz,aB] at s0 s1 s2 s3 s4 s5;have HSF:=Hz (λw=>dF ⟨9,xr,xa,xb,xi,xn⟩ w);obtain ⟨c,hc⟩:∃ c,bu ⟨9,xr,xa,xb,xi,xn⟩=c:=⟨_,rfl⟩;rw [hc] at HSF;have HC:=Hz hc;have HB:=Hz ay;have KA:=Hz ka;clear ay hc ka B;go_enter Tryz.func20,Tryz.ntmps20;go_wp2_with (refine bD rfl 26 (.tmp 3) rfl [.int .i64 9, .int .i64 xr, .int .i64 xa, .int .i64 xb, .int .i64 xi, .int .i64 xn] (by kernel_rfl) w.heap.size 0 rfl (ae s0 (ae s1 (ae s2 (ae s3 (ae s4 (ae s5 a9)))))) ?_);refine (HSF.o _).mono ?_;rintro e w1 ⟨rfl,hk⟩;have HB1:=Hz ((HB0.o.same KA.o).same hk);have K1:=Hz (KA.o.trans hk);have SB1:=Hz (hk.au HB.o (λh=>h));have SFR:=Hz (show ¬ h.Own w.heap.size from λe=>by have:=HB0.o.aZ e;omega);clear hk s0 s1 s2 s3 s4 s5 sl HSF KA HB;generalize w.heap.size=sb at *;have s0:=SB1.o.cell 0;have s1:=SB1.o.cell 1;have s2:=SB1.o.cell 2;have s3:=SB1.o.cell 3;have s4:=SB1.o.cell 4;have s5:=SB1.o.cell 5;have sl:=SB1.o.lt;simp only [Lz,aB] at s0 s1 s2 s3 s4 s5;by_cases h0:¬ c=0
 ·have HE:=Hz (show O.do ⟨9,xr,xa,xb,xi,xn⟩=(c,O) by unfold Wo.do;rw [HC.o,if_neg h0]);have hd:(c != 0)=true:=by simpa using h0
  clear h0;go_wp2_with fail;go_ret;exact ⟨by rw [HE.o];rfl,by rw [HE.o];exact aV.same HB0.o K1.o⟩
 have h0:c=0:=Zn.1 h0;subst h0;have ha:0<=xa/\xa<12:=(aJ _).1 ((aF HC.o).2.2.1 (show aP 9/2%2=1 by decide));obtain ⟨a,rfl⟩:∃ a:Nat,xa=a:=⟨xa.toNat,by omega⟩;have ha12:a<12:=by omega
 clear ha;have hb:0<=xb/\xb<12:=(aJ _).1 ((aF HC.o).2.2.2.1 (show aP 9/4%2=1 by decide));obtain ⟨b,rfl⟩:∃ b:Nat,xb=b:=⟨xb.toNat,by omega⟩;have hb12:b<12:=by omega
 clear hb;have HE:=Hz (show O.do ⟨9,xr,a,b,xi,xn⟩=O.eZ a b by unfold Wo.do;rw [if_pos HC.o];rfl);have HCL:=Hz (Dr a b xr xi xn HB1.o ha12 hb12);unfold dG at HCL;go_wp2_with (refine bD rfl 26 (.tmp 3) rfl [.int .i64 9, .int .i64 xr, .int .i64 a, .int .i64 b, .int .i64 xi, .int .i64 xn] (by kernel_rfl) sb 0 rfl (ae s0 (ae s1 (ae s2 (ae s3 (ae s4 (ae s5 a9)))))) ?_);refine HCL.o.mono ?_;rintro e w3 ⟨rfl,ht⟩;have TO:=Hz (aV.aL K1.o ht);clear ht s0 s1 s2 s3 s4 s5 sl HCL;go_wp2_with fail;go_ret;exact ⟨by rw [HE.o];rfl,by rw [HE.o];exact TO.o⟩
theorem z9 (xr xa xb xi xn:Int) (B:a8 w h O) :
  Calls Tryz.prog 20 #[.pointer (some ⟨h.p,0,none⟩), .agg #[.int .i64 10, .int .i64 xr, .int .i64 xa, .int .i64 xb, .int .i64 xi, .int .i64 xn]] w (bT w h O ⟨10,xr,xa,xb,xi,xn⟩):=by
 unfold bT;have HB0:=Hz B;have ay:ak (w.alloc (.cells #[.int .i64 10, .int .i64 xr, .int .i64 xa, .int .i64 xb, .int .i64 xi, .int .i64 xn] 26)) w.heap.size [.int .i64 10, .int .i64 xr, .int .i64 xa, .int .i64 xb, .int .i64 xi, .int .i64 xn] 26:=ak.newAt _ rfl rfl;have ka:=(Kz w).alloc (.cells #[.int .i64 10, .int .i64 xr, .int .i64 xa, .int .i64 xb, .int .i64 xi, .int .i64 xn] 26);have s0:=ay.cell 0;have s1:=ay.cell 1;have s2:=ay.cell 2;have s3:=ay.cell 3;have s4:=ay.cell 4;have s5:=ay.cell 5;have sl:=ay.lt;simp only [Lz,aB] at s0 s1 s2 s3 s4 s5;have HSF:=Hz (λw=>dF ⟨10,xr,xa,xb,xi,xn⟩ w);obtain ⟨c,hc⟩:∃ c,bu ⟨10,xr,xa,xb,xi,xn⟩=c:=⟨_,rfl⟩;rw [hc] at HSF;have HC:=Hz hc;have HB:=Hz ay;have KA:=Hz ka;clear ay hc ka B;go_enter Tryz.func20,Tryz.ntmps20;go_wp2_with (refine bD rfl 26 (.tmp 3) rfl [.int .i64 10, .int .i64 xr, .int .i64 xa, .int .i64 xb, .int .i64 xi, .int .i64 xn] (by kernel_rfl) w.heap.size 0 rfl (ae s0 (ae s1 (ae s2 (ae s3 (ae s4 (ae s5 a9)))))) ?_);refine (HSF.o _).mono ?_;rintro e w1 ⟨rfl,hk⟩;have HB1:=Hz ((HB0.o.same KA.o).same hk);have K1:=Hz (KA.o.trans hk);have SB1:=Hz (hk.au HB.o (λh=>h));have SFR:=Hz (show ¬ h.Own w.heap.size from λe=>by have:=HB0.o.aZ e;omega);clear hk s0 s1 s2 s3 s4 s5 sl HSF KA HB;generalize w.heap.size=sb at *;have s0:=SB1.o.cell 0;have s1:=SB1.o.cell 1;have s2:=SB1.o.cell 2;have s3:=SB1.o.cell 3;have s4:=SB1.o.cell 4;have s5:=SB1.o.cell 5;have sl:=SB1.o.lt;simp only [Lz,aB] at s0 s1 s2 s3 s4 s5;by_cases h0:¬ c=0
 ·have HE:=Hz (show O.do ⟨10,xr,xa,xb,xi,xn⟩=(c,O) by unfold Wo.do;rw [HC.o,if_neg h0]);have hd:(c != 0)=true:=by simpa using h0
  clear h0;go_wp2_with fail;go_ret;exact ⟨by rw [HE.o];rfl,by rw [HE.o];exact aV.same HB0.o K1.o⟩
 have h0:c=0:=Zn.1 h0;subst h0;have hr:0<=xr/\xr<12:=(aJ _).1 ((aF HC.o).2.1 (show aP 10%2=1 by decide));obtain ⟨r,rfl⟩:∃ r:Nat,xr=r:=⟨xr.toNat,by omega⟩;have hr12:r<12:=by omega
 clear hr;have ha:0<=xa/\xa<12:=(aJ _).1 ((aF HC.o).2.2.1 (show aP 10/2%2=1 by decide));obtain ⟨a,rfl⟩:∃ a:Nat,xa=a:=⟨xa.toNat,by omega⟩;have ha12:a<12:=by omega
 clear ha;have HE:=Hz (show O.do ⟨10,r,a,xb,xi,xn⟩=O.pop r a by unfold Wo.do;rw [if_pos HC.o];rfl);have HCL:=Hz (Ds r a xb xi xn HB1.o hr12 ha12);unfold dG at HCL;go_wp2_with (refine bD rfl 26 (.tmp 3) rfl [.int .i64 10, .int .i64 r, .int .i64 a, .int .i64 xb, .int .i64 xi, .int .i64 xn] (by kernel_rfl) sb 0 rfl (ae s0 (ae s1 (ae s2 (ae s3 (ae s4 (ae s5 a9)))))) ?_);refine HCL.o.mono ?_;rintro e w3 ⟨rfl,ht⟩;have TO:=Hz (aV.aL K1.o ht);clear ht s0 s1 s2 s3 s4 s5 sl HCL;go_wp2_with fail;go_ret;exact ⟨by rw [HE.o];rfl,by rw [HE.o];exact TO.o⟩
theorem Aa (xr xa xb xi xn:Int) (B:a8 w h O) :
  Calls Tryz.prog 20 #[.pointer (some ⟨h.p,0,none⟩), .agg #[.int .i64 13, .int .i64 xr, .int .i64 xa, .int .i64 xb, .int .i64 xi, .int .i64 xn]] w (bT w h O ⟨13,xr,xa,xb,xi,xn⟩):=by
 unfold bT;have HB0:=Hz B;have ay:ak (w.alloc (.cells #[.int .i64 13, .int .i64 xr, .int .i64 xa, .int .i64 xb, .int .i64 xi, .int .i64 xn] 26)) w.heap.size [.int .i64 13, .int .i64 xr, .int .i64 xa, .int .i64 xb, .int .i64 xi, .int .i64 xn] 26:=ak.newAt _ rfl rfl;have ka:=(Kz w).alloc (.cells #[.int .i64 13, .int .i64 xr, .int .i64 xa, .int .i64 xb, .int .i64 xi, .int .i64 xn] 26);have s0:=ay.cell 0;have s1:=ay.cell 1;have s2:=ay.cell 2;have s3:=ay.cell 3;have s4:=ay.cell 4;have s5:=ay.cell 5;have sl:=ay.lt;simp only [Lz,aB] at s0 s1 s2 s3 s4 s5;have HSF:=Hz (λw=>dF ⟨13,xr,xa,xb,xi,xn⟩ w);obtain ⟨c,hc⟩:∃ c,bu ⟨13,xr,xa,xb,xi,xn⟩=c:=⟨_,rfl⟩;rw [hc] at HSF;have HC:=Hz hc;have HB:=Hz ay;have KA:=Hz ka;clear ay hc ka B;go_enter Tryz.func20,Tryz.ntmps20;go_wp2_with (refine bD rfl 26 (.tmp 3) rfl [.int .i64 13, .int .i64 xr, .int .i64 xa, .int .i64 xb, .int .i64 xi, .int .i64 xn] (by kernel_rfl) w.heap.size 0 rfl (ae s0 (ae s1 (ae s2 (ae s3 (ae s4 (ae s5 a9)))))) ?_);refine (HSF.o _).mono ?_;rintro e w1 ⟨rfl,hk⟩;have HB1:=Hz ((HB0.o.same KA.o).same hk);have K1:=Hz (KA.o.trans hk);have SB1:=Hz (hk.au HB.o (λh=>h));have SFR:=Hz (show ¬ h.Own w.heap.size from λe=>by have:=HB0.o.aZ e;omega);clear hk s0 s1 s2 s3 s4 s5 sl HSF KA HB;generalize w.heap.size=sb at *;have s0:=SB1.o.cell 0;have s1:=SB1.o.cell 1;have s2:=SB1.o.cell 2;have s3:=SB1.o.cell 3;have s4:=SB1.o.cell 4;have s5:=SB1.o.cell 5;have sl:=SB1.o.lt;simp only [Lz,aB] at s0 s1 s2 s3 s4 s5;by_cases h0:¬ c=0
 ·have HE:=Hz (show O.do ⟨13,xr,xa,xb,xi,xn⟩=(c,O) by unfold Wo.do;rw [HC.o,if_neg h0]);have hd:(c != 0)=true:=by simpa using h0
  clear h0;go_wp2_with fail;go_ret;exact ⟨by rw [HE.o];rfl,by rw [HE.o];exact aV.same HB0.o K1.o⟩
 have h0:c=0:=Zn.1 h0;subst h0;have hr:0<=xr/\xr<12:=(aJ _).1 ((aF HC.o).2.1 (show aP 13%2=1 by decide));obtain ⟨r,rfl⟩:∃ r:Nat,xr=r:=⟨xr.toNat,by omega⟩;have hr12:r<12:=by omega
 clear hr;have ha:0<=xa/\xa<12:=(aJ _).1 ((aF HC.o).2.2.1 (show aP 13/2%2=1 by decide));obtain ⟨a,rfl⟩:∃ a:Nat,xa=a:=⟨xa.toNat,by omega⟩;have ha12:a<12:=by omega
 clear ha;have HE:=Hz (show O.do ⟨13,r,a,xb,xi,xn⟩=O.iA r (O.qm (O.a5 a)) by unfold Wo.do;rw [if_pos HC.o];rfl);have HCL:=Hz (yP r a xb xi xn HB1.o hr12 ha12);unfold dG at HCL;go_wp2_with (refine bD rfl 26 (.tmp 3) rfl [.int .i64 13, .int .i64 r, .int .i64 a, .int .i64 xb, .int .i64 xi, .int .i64 xn] (by kernel_rfl) sb 0 rfl (ae s0 (ae s1 (ae s2 (ae s3 (ae s4 (ae s5 a9)))))) ?_);refine HCL.o.mono ?_;rintro e w3 ⟨rfl,ht⟩;have TO:=Hz (aV.aL K1.o ht);clear ht s0 s1 s2 s3 s4 s5 sl HCL;go_wp2_with fail;go_ret;exact ⟨by rw [HE.o];rfl,by rw [HE.o];exact TO.o⟩
theorem yS (xr xa xb xi xn:Int) (B:a8 w h O) :
  Calls Tryz.prog 20 #[.pointer (some ⟨h.p,0,none⟩), .agg #[.int .i64 14, .int .i64 xr, .int .i64 xa, .int .i64 xb, .int .i64 xi, .int .i64 xn]] w (bT w h O ⟨14,xr,xa,xb,xi,xn⟩):=by
 unfold bT;have HB0:=Hz B;have ay:ak (w.alloc (.cells #[.int .i64 14, .int .i64 xr, .int .i64 xa, .int .i64 xb, .int .i64 xi, .int .i64 xn] 26)) w.heap.size [.int .i64 14, .int .i64 xr, .int .i64 xa, .int .i64 xb, .int .i64 xi, .int .i64 xn] 26:=ak.newAt _ rfl rfl;have ka:=(Kz w).alloc (.cells #[.int .i64 14, .int .i64 xr, .int .i64 xa, .int .i64 xb, .int .i64 xi, .int .i64 xn] 26);have s0:=ay.cell 0;have s1:=ay.cell 1;have s2:=ay.cell 2;have s3:=ay.cell 3;have s4:=ay.cell 4;have s5:=ay.cell 5;have sl:=ay.lt;simp only [Lz,aB] at s0 s1 s2 s3 s4 s5;have HSF:=Hz (λw=>dF ⟨14,xr,xa,xb,xi,xn⟩ w);obtain ⟨c,hc⟩:∃ c,bu ⟨14,xr,xa,xb,xi,xn⟩=c:=⟨_,rfl⟩;rw [hc] at HSF;have HC:=Hz hc;have HB:=Hz ay;have KA:=Hz ka;clear ay hc ka B;go_enter Tryz.func20,Tryz.ntmps20;go_wp2_with (refine bD rfl 26 (.tmp 3) rfl [.int .i64 14, .int .i64 xr, .int .i64 xa, .int .i64 xb, .int .i64 xi, .int .i64 xn] (by kernel_rfl) w.heap.size 0 rfl (ae s0 (ae s1 (ae s2 (ae s3 (ae s4 (ae s5 a9)))))) ?_);refine (HSF.o _).mono ?_;rintro e w1 ⟨rfl,hk⟩;have HB1:=Hz ((HB0.o.same KA.o).same hk);have K1:=Hz (KA.o.trans hk);have SB1:=Hz (hk.au HB.o (λh=>h));have SFR:=Hz (show ¬ h.Own w.heap.size from λe=>by have:=HB0.o.aZ e;omega);clear hk s0 s1 s2 s3 s4 s5 sl HSF KA HB;generalize w.heap.size=sb at *;have s0:=SB1.o.cell 0;have s1:=SB1.o.cell 1;have s2:=SB1.o.cell 2;have s3:=SB1.o.cell 3;have s4:=SB1.o.cell 4;have s5:=SB1.o.cell 5;have sl:=SB1.o.lt;simp only [Lz,aB] at s0 s1 s2 s3 s4 s5;by_cases h0:¬ c=0
 ·have HE:=Hz (show O.do ⟨14,xr,xa,xb,xi,xn⟩=(c,O) by unfold Wo.do;rw [HC.o,if_neg h0]);have hd:(c != 0)=true:=by simpa using h0
  clear h0;go_wp2_with fail;go_ret;exact ⟨by rw [HE.o];rfl,by rw [HE.o];exact aV.same HB0.o K1.o⟩
 have h0:c=0:=Zn.1 h0;subst h0;have hr:0<=xr/\xr<12:=(aJ _).1 ((aF HC.o).2.1 (show aP 14%2=1 by decide));obtain ⟨r,rfl⟩:∃ r:Nat,xr=r:=⟨xr.toNat,by omega⟩;have hr12:r<12:=by omega
 clear hr;have ha:0<=xa/\xa<12:=(aJ _).1 ((aF HC.o).2.2.1 (show aP 14/2%2=1 by decide));obtain ⟨a,rfl⟩:∃ a:Nat,xa=a:=⟨xa.toNat,by omega⟩;have ha12:a<12:=by omega
 clear ha;have hb:0<=xb/\xb<12:=(aJ _).1 ((aF HC.o).2.2.2.1 (show aP 14/4%2=1 by decide));obtain ⟨b,rfl⟩:∃ b:Nat,xb=b:=⟨xb.toNat,by omega⟩;have hb12:b<12:=by omega
 clear hb;have he:O.do ⟨14,r,a,b,xi,xn⟩=O.iA r (4*(if O.a5 a=O.a5 b then 1 else 0),0):=by unfold Wo.do;rw [if_pos HC.o];rfl
 have hcl:=Cb r a b xi xn HB1.o hr12 ha12 hb12;unfold dG at hcl;generalize (if O.a5 (a:Int)=O.a5 (b:Int) then (1:Int) else 0)=q at he hcl;have HE:=Hz he;have HCL:=Hz hcl;clear he hcl;go_wp2_with (refine bD rfl 26 (.tmp 3) rfl [.int .i64 14, .int .i64 r, .int .i64 a, .int .i64 b, .int .i64 xi, .int .i64 xn] (by kernel_rfl) sb 0 rfl (ae s0 (ae s1 (ae s2 (ae s3 (ae s4 (ae s5 a9)))))) ?_);refine HCL.o.mono ?_;rintro e w3 ⟨rfl,ht⟩;have TO:=Hz (aV.aL K1.o ht);clear ht s0 s1 s2 s3 s4 s5 sl HCL;go_wp2_with fail;go_ret;exact ⟨by rw [HE.o];rfl,by rw [HE.o];exact TO.o⟩
theorem Ab (xr xa xb xi xn:Int) (B:a8 w h O) :
  Calls Tryz.prog 20 #[.pointer (some ⟨h.p,0,none⟩), .agg #[.int .i64 12, .int .i64 xr, .int .i64 xa, .int .i64 xb, .int .i64 xi, .int .i64 xn]] w (bT w h O ⟨12,xr,xa,xb,xi,xn⟩):=by
 unfold bT;have HB0:=Hz B;have ay:ak (w.alloc (.cells #[.int .i64 12, .int .i64 xr, .int .i64 xa, .int .i64 xb, .int .i64 xi, .int .i64 xn] 26)) w.heap.size [.int .i64 12, .int .i64 xr, .int .i64 xa, .int .i64 xb, .int .i64 xi, .int .i64 xn] 26:=ak.newAt _ rfl rfl;have ka:=(Kz w).alloc (.cells #[.int .i64 12, .int .i64 xr, .int .i64 xa, .int .i64 xb, .int .i64 xi, .int .i64 xn] 26);have s0:=ay.cell 0;have s1:=ay.cell 1;have s2:=ay.cell 2;have s3:=ay.cell 3;have s4:=ay.cell 4;have s5:=ay.cell 5;have sl:=ay.lt;simp only [Lz,aB] at s0 s1 s2 s3 s4 s5;have HSF:=Hz (λw=>dF ⟨12,xr,xa,xb,xi,xn⟩ w);obtain ⟨c,hc⟩:∃ c,bu ⟨12,xr,xa,xb,xi,xn⟩=c:=⟨_,rfl⟩;rw [hc] at HSF;have HC:=Hz hc;have HB:=Hz ay;have KA:=Hz ka;clear ay hc ka B;go_enter Tryz.func20,Tryz.ntmps20;go_wp2_with (refine bD rfl 26 (.tmp 3) rfl [.int .i64 12, .int .i64 xr, .int .i64 xa, .int .i64 xb, .int .i64 xi, .int .i64 xn] (by kernel_rfl) w.heap.size 0 rfl (ae s0 (ae s1 (ae s2 (ae s3 (ae s4 (ae s5 a9)))))) ?_);refine (HSF.o _).mono ?_;rintro e w1 ⟨rfl,hk⟩;have HB1:=Hz ((HB0.o.same KA.o).same hk);have K1:=Hz (KA.o.trans hk);have SB1:=Hz (hk.au HB.o (λh=>h));have SFR:=Hz (show ¬ h.Own w.heap.size from λe=>by have:=HB0.o.aZ e;omega);clear hk s0 s1 s2 s3 s4 s5 sl HSF KA HB;generalize w.heap.size=sb at *;have s0:=SB1.o.cell 0;have s1:=SB1.o.cell 1;have s2:=SB1.o.cell 2;have s3:=SB1.o.cell 3;have s4:=SB1.o.cell 4;have s5:=SB1.o.cell 5;have sl:=SB1.o.lt;simp only [Lz,aB] at s0 s1 s2 s3 s4 s5;by_cases h0:¬ c=0
 ·have HE:=Hz (show O.do ⟨12,xr,xa,xb,xi,xn⟩=(c,O) by unfold Wo.do;rw [HC.o,if_neg h0]);have hd:(c != 0)=true:=by simpa using h0
  clear h0;go_wp2_with fail;go_ret;exact ⟨by rw [HE.o];rfl,by rw [HE.o];exact aV.same HB0.o K1.o⟩
 have h0:c=0:=Zn.1 h0;subst h0;have ha:0<=xa/\xa<12:=(aJ _).1 ((aF HC.o).2.2.1 (show aP 12/2%2=1 by decide));obtain ⟨a,rfl⟩:∃ a:Nat,xa=a:=⟨xa.toNat,by omega⟩;have ha12:a<12:=by omega
 clear ha;have hb:0<=xb/\xb<12:=(aJ _).1 ((aF HC.o).2.2.2.1 (show aP 12/4%2=1 by decide));obtain ⟨b,rfl⟩:∃ b:Nat,xb=b:=⟨xb.toNat,by omega⟩;have hb12:b<12:=by omega
 clear hb;have HE:=Hz (show O.do ⟨12,xr,a,b,xi,xn⟩=O.set (O.a5 a) xi (O.a5 b) by unfold Wo.do;rw [if_pos HC.o];rfl);obtain ⟨b0,bl⟩:=HB1.o.pc;obtain ⟨g,o,cap,hro,hown,q0,q3,ql,gl,fz,rc⟩:=HB1.o.roots;have ra:=rc a ha12;have rb:=rc b hb12;have ra:w1.cell? ⟨g,o+a,none⟩=some (.int .i64 (O.a5 a)):=ra;have rb:w1.cell? ⟨g,o+b,none⟩=some (.int .i64 (O.a5 b)):=rb;have ha12i:(a:Int)<12:=by omega
 have hb12i:(b:Int)<12:=by omega
 clear hro hown fz rc;have hst:=λw' (R:bh w' h.a O)=>Bm (O.a5 a) xi (O.a5 b) R (lp R.ok _);generalize O.a5 (a:Int)=va at *;generalize O.a5 (b:Int)=vb at *;have HST:=Hz hst;clear hst;go_wp2_with fail;refine a6 (ftq [0,1,2,4,5,6,11,15,17,18,19,24] (.pure 3 (.pure 7 (.free 8 (.free 9 (.pure 10 (.pure 12 (.free 13 (ptq [14,16,20] (.free 21 (.free 22 (.pure 23 (.pure 25 (.free 26 (.pure 27 (.run 28 (.swi [] (.free 29 (.fin))))))))))))))))))) [28,29] (Fz b0 (Fz q3 (Fz ra (Fz rb (Fz s2 (Fz s3 (Fa s4))))))) ?_
 iterate 28 refine Wz ?_
 refine aD rfl rfl rfl (λK hK=>?_);unfold ax;go_simp;have hk1:=(Kz w1).drew;refine (HST.o _ (HB1.o.same hk1).H).mono ?_;rintro e w8 ⟨rfl,ht⟩;have TO:=Hz (aV.aL (K1.o.trans hk1) (rj.to ((HB1.o.same hk1).CL ht)));refine hK _ _ ?_;clear hK K ht hk1 s0 s1 s2 s3 s4 s5 sl b0 bl q0 q3 ql gl ra rb;refine aC (λ_=>True) trivial ?_;refine Wz ?_;refine av ?_;go_wp2_with fail;go_ret;exact ⟨by rw [HE.o];rfl,by rw [HE.o];exact TO.o⟩
theorem xL (xr xa xb xi xn:Int) (R:aI O W φ) (B:a8 w h O) :
  Calls Tryz.prog 20 #[.pointer (some ⟨h.p,0,none⟩), .agg #[.int .i64 15, .int .i64 xr, .int .i64 xa, .int .i64 xb, .int .i64 xi, .int .i64 xn]] w (bT w h O ⟨15,xr,xa,xb,xi,xn⟩):=by
 unfold bT;have HR:=Hz R;clear R;have HB0:=Hz B;have ay:ak (w.alloc (.cells #[.int .i64 15, .int .i64 xr, .int .i64 xa, .int .i64 xb, .int .i64 xi, .int .i64 xn] 26)) w.heap.size [.int .i64 15, .int .i64 xr, .int .i64 xa, .int .i64 xb, .int .i64 xi, .int .i64 xn] 26:=ak.newAt _ rfl rfl;have ka:=(Kz w).alloc (.cells #[.int .i64 15, .int .i64 xr, .int .i64 xa, .int .i64 xb, .int .i64 xi, .int .i64 xn] 26);have s0:=ay.cell 0;have s1:=ay.cell 1;have s2:=ay.cell 2;have s3:=ay.cell 3;have s4:=ay.cell 4;have s5:=ay.cell 5;have sl:=ay.lt;simp only [Lz,aB] at s0 s1 s2 s3 s4 s5;have HSF:=Hz (λw=>dF ⟨15,xr,xa,xb,xi,xn⟩ w);obtain ⟨c,hc⟩:∃ c,bu ⟨15,xr,xa,xb,xi,xn⟩=c:=⟨_,rfl⟩;rw [hc] at HSF;have HC:=Hz hc;have HB:=Hz ay;have KA:=Hz ka;clear ay hc ka B;go_enter Tryz.func20,Tryz.ntmps20;go_wp2_with (refine bD rfl 26 (.tmp 3) rfl [.int .i64 15, .int .i64 xr, .int .i64 xa, .int .i64 xb, .int .i64 xi, .int .i64 xn] (by kernel_rfl) w.heap.size 0 rfl (ae s0 (ae s1 (ae s2 (ae s3 (ae s4 (ae s5 a9)))))) ?_);refine (HSF.o _).mono ?_;rintro e w1 ⟨rfl,hk⟩;have HB1:=Hz ((HB0.o.same KA.o).same hk);have K1:=Hz (KA.o.trans hk);have SB1:=Hz (hk.au HB.o (λh=>h));have SFR:=Hz (show ¬ h.Own w.heap.size from λe=>by have:=HB0.o.aZ e;omega);clear hk s0 s1 s2 s3 s4 s5 sl HSF KA HB;generalize w.heap.size=sb at *;have s0:=SB1.o.cell 0;have s1:=SB1.o.cell 1;have s2:=SB1.o.cell 2;have s3:=SB1.o.cell 3;have s4:=SB1.o.cell 4;have s5:=SB1.o.cell 5;have sl:=SB1.o.lt;simp only [Lz,aB] at s0 s1 s2 s3 s4 s5;by_cases h0:¬ c=0
 ·have HE:=Hz (show O.do ⟨15,xr,xa,xb,xi,xn⟩=(c,O) by unfold Wo.do;rw [HC.o,if_neg h0]);have hd:(c != 0)=true:=by simpa using h0
  clear h0;go_wp2_with fail;go_ret;exact ⟨by rw [HE.o];rfl,by rw [HE.o];exact aV.same HB0.o K1.o⟩
 have h0:c=0:=Zn.1 h0;subst h0;have HE:=Hz (show O.do ⟨15,xr,xa,xb,xi,xn⟩=ir O by unfold Wo.do;rw [if_pos HC.o];rfl);obtain ⟨b0,bl⟩:=HB1.o.pc;go_wp2_with fail;refine (rF HR.o HB1.o.H).mono ?_;rintro e w5 ⟨rfl,ht⟩;have TO:=Hz (aV.aL K1.o (aV.sa HB1.o ht));clear ht b0 bl s0 s1 s2 s3 s4 s5 sl;go_wp2_with fail;go_ret;exact ⟨by rw [HE.o];rfl,by rw [HE.o];exact TO.o⟩
theorem xM (xr xa xb xi xn:Int) (R:aI O W φ) (B:a8 w h O) :
  Calls Tryz.prog 20 #[.pointer (some ⟨h.p,0,none⟩), .agg #[.int .i64 16, .int .i64 xr, .int .i64 xa, .int .i64 xb, .int .i64 xi, .int .i64 xn]] w (bT w h O ⟨16,xr,xa,xb,xi,xn⟩):=by
 unfold bT;have HR:=Hz R;clear R;have HB0:=Hz B;have ay:ak (w.alloc (.cells #[.int .i64 16, .int .i64 xr, .int .i64 xa, .int .i64 xb, .int .i64 xi, .int .i64 xn] 26)) w.heap.size [.int .i64 16, .int .i64 xr, .int .i64 xa, .int .i64 xb, .int .i64 xi, .int .i64 xn] 26:=ak.newAt _ rfl rfl;have ka:=(Kz w).alloc (.cells #[.int .i64 16, .int .i64 xr, .int .i64 xa, .int .i64 xb, .int .i64 xi, .int .i64 xn] 26);have s0:=ay.cell 0;have s1:=ay.cell 1;have s2:=ay.cell 2;have s3:=ay.cell 3;have s4:=ay.cell 4;have s5:=ay.cell 5;have sl:=ay.lt;simp only [Lz,aB] at s0 s1 s2 s3 s4 s5;have HSF:=Hz (λw=>dF ⟨16,xr,xa,xb,xi,xn⟩ w);obtain ⟨c,hc⟩:∃ c,bu ⟨16,xr,xa,xb,xi,xn⟩=c:=⟨_,rfl⟩;rw [hc] at HSF;have HC:=Hz hc;have HB:=Hz ay;have KA:=Hz ka;clear ay hc ka B;go_enter Tryz.func20,Tryz.ntmps20;go_wp2_with (refine bD rfl 26 (.tmp 3) rfl [.int .i64 16, .int .i64 xr, .int .i64 xa, .int .i64 xb, .int .i64 xi, .int .i64 xn] (by kernel_rfl) w.heap.size 0 rfl (ae s0 (ae s1 (ae s2 (ae s3 (ae s4 (ae s5 a9)))))) ?_);refine (HSF.o _).mono ?_;rintro e w1 ⟨rfl,hk⟩;have HB1:=Hz ((HB0.o.same KA.o).same hk);have K1:=Hz (KA.o.trans hk);have SB1:=Hz (hk.au HB.o (λh=>h));have SFR:=Hz (show ¬ h.Own w.heap.size from λe=>by have:=HB0.o.aZ e;omega);clear hk s0 s1 s2 s3 s4 s5 sl HSF KA HB;generalize w.heap.size=sb at *;have s0:=SB1.o.cell 0;have s1:=SB1.o.cell 1;have s2:=SB1.o.cell 2;have s3:=SB1.o.cell 3;have s4:=SB1.o.cell 4;have s5:=SB1.o.cell 5;have sl:=SB1.o.lt;simp only [Lz,aB] at s0 s1 s2 s3 s4 s5;by_cases h0:¬ c=0
 ·have HE:=Hz (show O.do ⟨16,xr,xa,xb,xi,xn⟩=(c,O) by unfold Wo.do;rw [HC.o,if_neg h0]);have hd:(c != 0)=true:=by simpa using h0
  clear h0;go_wp2_with fail;go_ret;exact ⟨by rw [HE.o];rfl,by rw [HE.o];exact aV.same HB0.o K1.o⟩
 have h0:c=0:=Zn.1 h0;subst h0;have HE:=Hz (show O.do ⟨16,xr,xa,xb,xi,xn⟩=ed O by unfold Wo.do;rw [if_pos HC.o];rfl);obtain ⟨b0,bl⟩:=HB1.o.pc;go_wp2_with fail;refine (rK HR.o HB1.o.H).mono ?_;rintro e w5 ⟨rfl,ht⟩;have TO:=Hz (aV.aL K1.o (aV.sa HB1.o ht));clear ht b0 bl s0 s1 s2 s3 s4 s5 sl;go_wp2_with fail;go_ret;exact ⟨by rw [HE.o];rfl,by rw [HE.o];exact TO.o⟩
theorem Cc {x:St} (h:bu x=0):1<=x.k/\x.k<=16:=by
 have h1:=(aF h).1;unfold aP at h1;by_cases h2:1<=x.k/\x.k<=16
 ·exact h2
 ·exfalso;apply h1;rw [if_neg (by omega),if_neg (by omega),if_neg (by omega),if_neg (by omega),if_neg (by omega)]
theorem D8 (x:St) (R:aI O W φ) (B:a8 w h O) :
  Calls Tryz.prog 20 #[.pointer (some ⟨h.p,0,none⟩), .agg #[.int .i64 x.k, .int .i64 x.r, .int .i64 x.a, .int .i64 x.b, .int .i64 x.i, .int .i64 x.n]] w (bT w h O x):=by
 obtain ⟨k,r,a,b,i,n⟩:=x;by_cases hc:bu ⟨k,r,a,b,i,n⟩=0
 ·have hk:=Cc hc;dsimp only at hk ⊢;have hcs:k=1\/k=2\/k=3\/k=4\/k=5\/k=6\/k=7\/k=8\/k=9\/k=10\/k=11\/k=12\/k=13\/k=14\/k=15\/k=16:=by omega
  clear hc hk;rcases hcs with rfl | rfl | rfl | rfl | rfl | rfl | rfl | rfl | rfl | rfl | rfl | rfl | rfl | rfl | rfl | rfl
  ·exact zG _ _ _ _ _ B
  ·exact z6 _ _ _ _ _ B
  ·exact yQ _ _ _ _ _ B
  ·exact yu _ _ _ _ _ B (gO.rep R (by omega))
  ·exact z7 _ _ _ _ _ R B
  ·exact yR _ _ _ _ _ R B
  ·exact xJ _ _ _ _ _ R B
  ·exact xK _ _ _ _ _ R B
  ·exact z8 _ _ _ _ _ B
  ·exact z9 _ _ _ _ _ B
  ·exact zH _ _ _ _ _ B
  ·exact Ab _ _ _ _ _ B
  ·exact Aa _ _ _ _ _ B
  ·exact yS _ _ _ _ _ B
  ·exact xL _ _ _ _ _ R B
  ·exact xM _ _ _ _ _ R B
 ·exact z5 _ _ _ _ _ _ B hc
end
end
section
open Go.RowKit
section
variable {w:World} {W:Wd}
theorem Wd.yT (W:Wd) (x:St):(W.do x).2.T.length<=W.T.length+1:=by
 have hnew:∀ (r k:Int) (l:List Int),(W.bz r k l).2.T.length<=W.T.length+1:=λr k l=>by
  unfold Wd.bz;split
  ·show ((W.room (1+(l.length:Int))).2.T ++ [_]).length<=_
   rw [Zq,Wd.ur];simp
  ·dsimp only;omega
 have hcut:∀ g,(W.cut g).2.T.length<=W.T.length+1:=λg=>by rw [Wd.Bw];omega
 have hreg:(W.eZ x).2.T.length<=W.T.length+1:=by
  unfold Wd.eZ;split
  ·dsimp only;omega
  ·split <;> (dsimp only;omega)
 have hpop:(W.pop x).2.T.length<=W.T.length+1:=by
  unfold Wd.pop;split
  ·dsimp only;omega
  ·split <;> (dsimp only;omega)
 have hget:(W.get x).2.T.length<=W.T.length+1:=by
  unfold Wd.get;split
  ·show (W.bF _ _).T.length<=_;rw [qn];omega
  ·dsimp only;omega
 have hset:(W.set x).2.T.length<=W.T.length+1:=by
  unfold Wd.set;split
  ·show (W.cK _ _).T.length<=_;rw [qo];omega
  ·dsimp only;omega
 have hlen:(W.len x).2.T.length<=W.T.length+1:=by
  unfold Wd.len;split
  ·dsimp only;omega
  ·show (W.bF _ _).T.length<=_;rw [qn];omega
 have hR:∀ (r:Int) (v:Vl),((0,W.bF r v):Int × Wd).2.T.length<=W.T.length+1:=λr v=>by show (W.bF _ _).T.length<=_;rw [qn];omega
 unfold Wd.do
 by_cases hc:bu x=0
 ·rw [if_pos hc];unfold Wd.step;by_cases h1:x.k=1;· rw [if_pos h1];exact hR _ _
  rw [if_neg h1];by_cases h2:x.k=2;· rw [if_pos h2];exact hR _ _
  rw [if_neg h2];by_cases h3:x.k=3;· rw [if_pos h3];exact hR _ _
  rw [if_neg h3];by_cases h4:x.k=4;· rw [if_pos h4];exact hnew _ _ _
  rw [if_neg h4];by_cases h5:x.k=5;· rw [if_pos h5];exact hnew _ _ _
  rw [if_neg h5];by_cases h6:x.k=6;· rw [if_pos h6];exact hnew _ _ _
  rw [if_neg h6];by_cases h7:x.k=7;· rw [if_pos h7];exact hnew _ _ _
  rw [if_neg h7];by_cases h8:x.k=8;· rw [if_pos h8];exact hnew _ _ _
  rw [if_neg h8];by_cases h9:x.k=9;· rw [if_pos h9];exact hreg
  rw [if_neg h9];by_cases h10:x.k=10;· rw [if_pos h10];exact hpop
  rw [if_neg h10];by_cases h11:x.k=11;· rw [if_pos h11];exact hget
  rw [if_neg h11];by_cases h12:x.k=12;· rw [if_pos h12];exact hset
  rw [if_neg h12];by_cases h13:x.k=13;· rw [if_pos h13];exact hlen
  rw [if_neg h13];by_cases h14:x.k=14;· rw [if_pos h14];exact hR _ _
  rw [if_neg h14];by_cases h15:x.k=15;· rw [if_pos h15];exact hcut _
  rw [if_neg h15];exact hcut _
 ·rw [if_neg hc];dsimp only;omega
end
end
section
open Go.RowKit
section
variable {w0 w w':World} {p q:Nat} {h:HH} {O O':Wo} {W W':Wd}
theorem HM.Ac (M:HM w0 w p h O) {φ:Int->Int} (R:aI O W φ) (x:St) :
  Calls Tryz.prog 20 #[.pointer (some ⟨p,0,none⟩), .agg #[.int .i64 x.k, .int .i64 x.r, .int .i64 x.a, .int .i64 x.b, .int .i64 x.i, .int .i64 x.n]] w (bT w h O x):=by
 have:=D8 x R M.B;rw [M.e] at this;exact this
end
end
section
open Go.RowKit
def qA (w:World) (cb lb:Nat):Prop:=ak w cb [.pointer (some ⟨lb,0,none⟩)] 156
section
variable {w w':World} {gx:GX} {gp lb ib cb:Nat} {rgv wv nv:Value} {ai q:List (Int × Int)} {fv:Nat->Value} {W:Wd} {t:List Bool}
theorem qA.lv (h:qA w cb lb) {t:List Bool × List Nat} (L:dC w gp lb ib nv t) (k:aa (gu lb ib nv) w w'):qA w' cb lb:=k.au h (λe=>by
 obtain ⟨_,c',T',hc',hT⟩:=L.bE e;refine h.ne hc' ?_ rfl
 rcases hT with rfl | rfl | rfl <;> decide)
theorem g6.join {w1:World} {nv1:Value} {t2:List Bool × List Nat} (k1:aa (gu lb ib nv) w w1) (o1:∀ k,aq nv1 k->aq nv k\/w.heap.size<=k) (U:g6 w1 gp lb ib nv1 w' t2):g6 w gp lb ib nv w' t2:=by
 obtain ⟨nv2,L2,k2,o2⟩:=U;refine ⟨nv2,L2,k1.then k2 (λb hb=>?_),λb hb=>?_⟩
 ·rcases hb with hb | hb | hb
  ·exact .inl (.inl hb)
  ·exact .inl (.inr (.inl hb))
  ·exact (o1 b hb).imp (λh=>.inr (.inr h)) id
 ·rcases o2 b hb with h | h
  ·exact o1 b h
  ·exact .inr (Za k1.size h)
theorem Cd (x:Int) (S:jT w gx gp rgv wv ai q fv W) (L:dC w gp lb ib nv (t,[])) (B:qA w cb lb) (N:l8 W t) (hok:W.ok) (hx:W.live x) (hq:∀ e ∈ q,W.dL e) (hT:W.T.length<=100000) (hql:q.length<=1000000) :
  Calls Tryz.prog 107 #[.int .i64 x, .pointer (some ⟨cb,0,none⟩)] w λe w'=>e=.returned (.int .i64 x)/\g6 w gp lb ib nv w' (W.cY q (t.set x.toNat true),[]):=by
 obtain ⟨e1,G1⟩:=N.mark (q:=q) hx;have HM:=Hz (pC (3,x) L (λ_=>⟨hx.1,by dsimp only;rw [N.len];exact hx.2.1⟩) (by dsimp only;rw [N.len];exact hT) (by simp));have HS:=Hz S;have HL:=Hz L;have HB:=Hz B;have HOK:=Hz hok;have HQ:=Hz hq;have HT:=Hz hT;have HQL:=Hz hql;have HE:=Hz e1;have HG:=Hz G1;have b0:=B.cell 0;have bl:=B.lt;simp only [Lz] at b0;clear S L B N hok hx hq hT hql e1 G1;go_enter Tryz.func107,Tryz.ntmps107;go_wp2_with fail;refine HM.o.mono ?_;rintro e w1 ⟨rfl,hU⟩;obtain ⟨nv1,L1,k1,o1⟩:=hU;have HL1:=Hz L1;have B1:=Hz (HB.o.lv HL.o k1);have S1:=Hz (HS.o.lv HL.o k1);have K1:=Hz k1;have O1:=Hz o1;clear b0 bl L1 k1 o1;have b0:=B1.o.cell 0;have bl:=B1.o.lt;simp only [Lz] at b0;go_wp2_with fail;refine (GSpread_c S1.o HL1.o HOK.o (by rw [HE.o];exact HG.o) HQ.o HT.o HQL.o).mono ?_;rintro e w2 ⟨rfl,h2⟩;rw [HE.o] at h2;have T2:=Hz (show g6 w gp lb ib nv w2 (W.cY q (t.set x.toNat true),[]) from g6.join K1.o O1.o h2);clear h2 b0 bl;go_wp2_with fail;go_ret;exact ⟨rfl,T2.o⟩
def GJ (gx:GX) (gp lb ib cb:Nat) (fv:Nat->Value) (W:Wd) (w:World) (t:List Bool) (F:Nat->Prop):Prop:=
 ∃ nv,dC w gp lb ib nv (t,[])/\qA w cb lb/\eV w gx.l fv W.T/\(∀ i b,aq (fv i) b->∃ c,ak w b c 77)/\l8 W t/\F=λk=>gu lb ib nv k\/k=cb\/aq gx.l k\/∃ i,aq (fv i) k
theorem GJ.type {F:Nat->Prop} (J:GJ gx gp lb ib cb fv W w t F) {k:Nat} (hk:F k):k<w.heap.size/\∃ c T,ak w k c T/\T≠86/\T≠119:=by
 obtain ⟨nv,L,B,hT,hF,-,rfl⟩:=J;rcases hk with hk | rfl | hk | ⟨i,hk⟩
 ·obtain ⟨h1,c,T,h2,h3⟩:=L.bE hk;refine ⟨h1,c,T,h2,?_⟩;rcases h3 with rfl | rfl | rfl <;> exact ⟨by decide,by decide⟩
 ·exact ⟨B.lt,_,_,B,by decide,by decide⟩
 ·obtain ⟨cs,hs,_⟩:=hT;obtain ⟨h1,c,hc⟩:=hs.own hk;exact ⟨h1,c,_,hc,by decide,by decide⟩
 ·obtain ⟨c,hc⟩:=hF i k hk;exact ⟨hc.lt,c,_,hc,by decide,by decide⟩
theorem GJ.apart {F:Nat->Prop} (J:GJ gx gp lb ib cb fv W w t F) (S:bX gx w gp rgv wv ai q):eG F gp rgv wv:=by
 rintro k ⟨h1,h2⟩;obtain ⟨_,c,T,hb,n1,n2⟩:=J.type h1;exact S.oh hb n1 n2 h2
noncomputable def qB (gx:GX) (gp lb ib cb:Nat) (fv:Nat->Value) (W:Wd) (hok:W.ok) (hT:W.T.length<=100000):fj gx Tryz.prog gp (List Bool) where
 J:=λw t F=>GJ gx gp lb ib cb fv W w t F
 D:=λ_ x=>W.live x
 DK:=λ_ x=>W.live x
 Q:=W.dL
 alive:=aw
 ab:=W.cq
 now:=iX
 fa:=105
 fk:=107
 fn:=106
 a1:=#[.pointer (some ⟨lb,0,none⟩)]
 a2:=#[]
 k1:=#[]
 k2:=#[.pointer (some ⟨cb,0,none⟩)]
 n1:=#[]
 n2:=#[]
 ea:=λargs w=>by kernel_rfl
 ek:=λargs w=>by kernel_rfl
 en:=λargs w=>by kernel_rfl
 J_keep:=λh k hn=>by
  obtain ⟨nv,h1,h2,h3,h4,h5,rfl⟩:=h;exact ⟨nv,h1.ab k (λb hb=>hn b (.inl hb)),k.au h2 (hn _ (.inr (.inl rfl))),h3.ab k (λb hb=>hn b (.inr (.inr (.inl hb)))) (λi b hb=>hn b (.inr (.inr (.inr ⟨i,hb⟩)))),
   λi b hb=>by obtain ⟨c,hc⟩:=h4 i b hb;exact ⟨c,k.au hc (hn b (.inr (.inr (.inr ⟨i,hb⟩))))⟩,h5,rfl⟩
 J_lt:=λh hk=>(GJ.type h hk).1
 cX:=λw t F x hJ hx=>by
  obtain ⟨nv,h1,-,-,-,h5,-⟩:=hJ;obtain ⟨x,rfl⟩:=Zg hx.1;have hl:=h5.len;exact (z4 x h1 (by have:=hx.2.1;dsimp only;omega) (by dsimp only;omega)).mono (by rintro e w' ⟨rfl,rfl⟩;exact ⟨rfl,aa.refl _ _⟩)
 now_c:=λw t F x hJ _=>by
  refine (show Calls Tryz.prog 106 #[.int .i64 x] w λe w'=>e=.returned (.int .i64 x)/\w=w' from ?_).mono (by rintro e w' ⟨rfl,rfl⟩;exact ⟨rfl,aa.refl _ _⟩);go_enter Tryz.func106,Tryz.ntmps106;go_wp2_with fail;go_ret;exact ⟨rfl,rfl⟩
 keep_c:=λw t F rv qv ai wait x hJ hS hA hx hq hl=>by
  obtain ⟨nv,h1,h2,h3,h4,h5,rfl⟩:=hJ;have S:jT w gx gp rv qv ai wait fv W:=⟨hS,h3,h4⟩;refine (Cd x S h1 h2 h5 hok hx (λe he=>(hq e he).2) hT hl).mono ?_;rintro e w' ⟨rfl,nv',L',k',o'⟩;have S':=S.lv h1 k';have J':GJ gx gp lb ib cb fv W w' (W.cY wait (t.set x.toNat true)) _:=⟨nv',L',h2.lv h1 k',S'.T,S'.F,l8.cY hok (λe he=>(hq e he).2) (by rw [List.length_set];exact h5.len) (λi hi=>by
   rcases (gU hx.1 (by rw [h5.len];exact hx.2.1)).1 hi with rfl | h
   ·exact hx
   ·exact h5.lv i h),rfl⟩
  refine ⟨rfl,_,J',S'.S,J'.apart S'.S,k'.mono (λk _ hk=>.inl (.inl hk)),λk hk=>?_⟩;rcases hk with (rfl | rfl | hk) | hk
  ·exact .inl (.inl (.inl rfl))
  ·exact .inl (.inl (.inr (.inl rfl)))
  ·exact (o' k hk).imp (λh=>.inl (.inr (.inr h))) id
  ·exact .inl (.inr hk)
 DK_D:=λh=>h
 DK_keep:=λ_ h=>h
 D_keep:=λ_ h=>h
 D_new:=λh=>h
 D_wait:=λ_ h=>h
 Q_new:=λ_ h=>h
 Q_wait:=λh=>h
 keep_len:=rfl
end
end
section
open Go.RowKit
structure kz (w:World) (gp lb ib cb:Nat) (nv:Value) (wr:World) (t:List Bool × List Nat):Prop where
 L:dC wr gp lb ib nv t
 B:qA wr cb lb
 K:aa (λb=>w.heap.size<=b) w wr
 O:∀ k,gu lb ib nv k\/k=cb->w.heap.size<=k
section
variable {w wr w':World} {h:dj} {W:Wd} {gp lb ib cb:Nat} {nv:Value} {t t':List Bool × List Nat}
theorem kz.to (C:kz w gp lb ib cb nv wr t) (T:g6 wr gp lb ib nv w' t'):∃ nv',kz w gp lb ib cb nv' w' t':=by
 obtain ⟨nv',L',k',o'⟩:=T;refine ⟨nv',L',C.B.lv C.L k',C.K.then k' (λk hk=>.inl (C.O k (.inl hk))),λk hk=>?_⟩;rcases hk with (hk | hk | hk) | hk
 ·exact C.O k (.inl (.inl hk))
 ·exact C.O k (.inl (.inr (.inl hk)))
 ·rcases o' k hk with h | h
  ·exact C.O k (.inl (.inr (.inr h)))
  ·exact Za C.K.size h
 ·exact C.O k (.inr hk)
theorem kz.begin {w1:World} {gp:Nat} (n:Nat) (k:aa (λ_=>False) w w1) :
  kz w gp (w1.heap.size+1) w1.heap.size (w1.heap.size+1+1) (.slice none 0 0) (((w1.alloc (.cells (Array.replicate n (.bool false)) 4)).alloc (.cells #[.pointer (some ⟨gp,0,none⟩), .slice (some ⟨w1.heap.size,0,none⟩) n n, .slice none 0 0] 158)).alloc (.cells #[.pointer (some ⟨w1.heap.size+1,0,none⟩)] 156)) (List.replicate n false,[]):=by
 have hz:=k.size;have b1:ak (w1.alloc (.cells (Array.replicate n (.bool false)) 4)) w1.heap.size (List.replicate n (.bool false)) 4:=ak.newAt _ rfl (by simp);have b2:ak ((w1.alloc (.cells (Array.replicate n (.bool false)) 4)).alloc (.cells #[.pointer (some ⟨gp,0,none⟩), .slice (some ⟨w1.heap.size,0,none⟩) n n, .slice none 0 0] 158)) (w1.heap.size+1) [.pointer (some ⟨gp,0,none⟩), .slice (some ⟨w1.heap.size,0,none⟩) n n, .slice none 0 0] 158:=ak.newAt _ (by simp) rfl;refine ⟨⟨?_,?_,Sl.nil _ _ _⟩,ak.newAt _ (by simp) rfl,?_,λb hb=>?_⟩
 ·have:=b2.alloc (.cells #[.pointer (some ⟨w1.heap.size+1,0,none⟩)] 156);simpa using this
 ·have:=(b1.alloc (.cells #[.pointer (some ⟨gp,0,none⟩), .slice (some ⟨w1.heap.size,0,none⟩) n n, .slice none 0 0] 158)).alloc (.cells #[.pointer (some ⟨w1.heap.size+1,0,none⟩)] 156);simpa using this
 ·exact (k.mono (λ_ _ h=>h.elim)).trans ((((aa.refl _ _).alloc _).alloc _).alloc _)
 ·rcases hb with (rfl | rfl | hb) | rfl
  ·omega
  ·exact hz
  ·exact absurd hb (by intro h;cases h)
  ·omega
theorem kz.same (C:kz w gp lb ib cb nv wr t) (k:aa (λ_=>False) wr w'):kz w gp lb ib cb nv w' t:=⟨C.L.same k,k.au C.B (λh=>h),C.K.trans (k.mono (λ_ _ h=>h.elim)),C.O⟩
theorem kz.mg (C:kz w gp lb ib cb nv wr t) (H:aR w h W):aR wr h W:=H.ab C.K (λb hb hk=>by have:=H.aZ hb;omega)
theorem aR.sp (H:aR w h W):jT w (h.gx W) h.p h.gv h.wv W.ai W.wait h.fv W:=⟨H.side,H.ht,λi b hb=>(H.af i b hb).2.1⟩
structure mO (w:World) (h:dj) (W:Wd) (lb ib cb cp:Nat) (is:List Bool) (ai wait:List (Int × Int)) (nv rgv wv cr cw:Value) (tx:Nat->Value) (T:List Th) (wr:World):Prop where
 L:dC wr h.p lb ib nv (is,[])
 B:qA wr cb lb
 T:eV wr h.tv tx T
 F:∀ i b,aq (tx i) b->∃ c,ak wr b c 77
 fo:∀ i b,aq (tx i) b->aq (h.fv i) b
 S:bX (h.gx W) wr h.p rgv wv ai wait
 C:a7 wr cp cr cw W.ai W.wait
 R:Sl wr 77 2 h.rv W.roots.length (aH W.roots)
 K:aa h.Own w wr
 sn:∀ b,aG h.p rgv wv b->aG h.p h.gv h.wv b\/w.heap.size<=b
 cn:∀ b,aG cp cr cw b->w.heap.size<=b
 ap:∀ b,¬ (aG h.p rgv wv b/\aG cp cr cw b)
 ln:∀ b,gu lb ib nv b->w.heap.size<=b
theorem mO.begin {cp:Nat} {is0 is:List Bool} {ai wait:List (Int × Int)} {rgv wv cr cw:Value} {F':Nat->Prop} (H:aR w h W) (I:kz w h.p lb ib cb nv wr (is0,[]))
  (C:a7 wr cp cr cw W.ai W.wait) (cn:∀ b,aG cp cr cw b->w.heap.size<=b) (cl:∀ b,aG cp cr cw b->¬ (gu lb ib nv b\/b=cb))
  (J:GJ (h.gx W) h.p lb ib cb h.fv W w' is F') (S:bX (h.gx W) w' h.p rgv wv ai wait)
  (K:aa (λb=>(gu lb ib nv b\/b=cb\/aq h.tv b\/∃ i,aq (h.fv i) b)\/aG h.p h.gv h.wv b) wr w') (fn:∀ b,F' b->(gu lb ib nv b\/b=cb\/aq h.tv b\/∃ i,aq (h.fv i) b)\/wr.heap.size<=b)
  (sn:∀ b,aG h.p rgv wv b->aG h.p h.gv h.wv b\/wr.heap.size<=b) :
  ∃ nv',mO w h W lb ib cb cp is ai wait nv' rgv wv cr cw h.fv W.T w':=by
 obtain ⟨nv',L',B',T',hF',N',rfl⟩:=J;have aK:∀ b,(aq h.tv b\/∃ i,aq (h.fv i) b)\/aG h.p h.gv h.wv b->h.Own b:=λb hb=>by
  rcases hb with (hb | hb) | (rfl | hb | hb)
  ·exact .inr (.inl hb)
  ·exact .inr (.inr (.inr (.inr (.inr hb))))
  ·exact .inl rfl
  ·exact .inr (.inr (.inr (.inl hb)))
  ·exact .inr (.inr (.inr (.inr (.inl hb))))
 have Hr:=I.mg H;have ncp:∀ b,aG cp cr cw b->¬ ((gu lb ib nv b\/b=cb\/aq h.tv b\/∃ i,aq (h.fv i) b)\/aG h.p h.gv h.wv b):=λb hb hk=>by
  have h1:=cn b hb;have h2:¬ h.Own b:=λe=>by have:=H.aZ e;omega
  rcases hk with (hk | hk | hk | hk) | hk
  ·exact cl b hb (.inl hk)
  ·exact cl b hb (.inr hk)
  ·exact h2 (aK b (.inl (.inl hk)))
  ·exact h2 (aK b (.inl (.inr hk)))
  ·exact h2 (aK b (.inr hk))
 have cpl:∀ b,aG cp cr cw b->b<wr.heap.size:=λb hb=>C.jX hb;have k0:=I.K;refine ⟨nv',L',B',T',hF',λi b hb=>hb,S,C.ab K ncp,Hr.hr.ab K (λb hb hk=>?_),⟨K.os.trans k0.os,K.tape.trans k0.tape,K.output.trans k0.output,Za k0.size K.size,λb hb hn=>?_⟩,λb hb=>?_,cn,λb hb=>?_,λb hb=>?_⟩
 ·obtain ⟨hl,c,hc⟩:=Hr.hr.own hb;have hn:b<w.heap.size:=H.aZ (.inr (.inr (.inl hb)));rcases hk with (hk | hk | hk | ⟨i,hk⟩) | hk
  ·have:=I.O b (.inl hk);omega
  ·have:=I.O b (.inr hk);omega
  ·obtain ⟨cs,hs,_⟩:=Hr.ht;obtain ⟨_,c',hc'⟩:=hs.own hk;exact hc.ne hc' (by decide) rfl
  ·exact (H.af i b hk).2.2 hb
  ·exact Hr.side.oh hc (by decide) (by decide) hk
 ·rw [K.block b (Nat.lt_of_lt_of_le hb k0.size) (λhk=>?_),k0.block b hb (by omega)];rcases hk with (hk | hk | hk | hk) | hk
  ·have:=I.O b (.inl hk);omega
  ·have:=I.O b (.inr hk);omega
  ·exact hn (aK b (.inl (.inl hk)))
  ·exact hn (aK b (.inl (.inr hk)))
  ·exact hn (aK b (.inr hk))
 ·rcases sn b hb with h1 | h1
  ·exact .inl h1
  ·exact .inr (Za I.K.size h1)
 ·rcases sn b hb.1 with h1 | h1
  ·exact ncp b hb.2 (.inr h1)
  ·have:=cpl b hb.2;omega
 ·rcases hb with rfl | rfl | hb
  ·exact I.O _ (.inl (.inl rfl))
  ·exact I.O _ (.inl (.inr (.inl rfl)))
  ·rcases fn b (.inl (.inr (.inr hb))) with (hk | hk | hk | ⟨i,hk⟩) | hk
   ·exact I.O _ (.inl hk)
   ·exact I.O _ (.inr hk)
   ·exfalso;obtain ⟨_,c1,T1,h1,h2⟩:=L'.bE (.inr (.inr hb));obtain ⟨cs,hs,_⟩:=T';obtain ⟨hl,c',hc'⟩:=hs.own hk;refine h1.ne hc' ?_ rfl;rcases h2 with rfl | rfl | rfl <;> decide
   ·exfalso;obtain ⟨_,c1,T1,h1,h2⟩:=L'.bE (.inr (.inr hb));obtain ⟨c',hc'⟩:=hF' i b hk;refine h1.ne hc' ?_ rfl;rcases h2 with rfl | rfl | rfl <;> decide
   ·exact Za I.K.size hk
theorem mO.back {cp:Nat} {is:List Bool} {ai wait:List (Int × Int)} {rgv wv cr cw:Value} (C:mO w h W lb ib cb cp is ai wait nv rgv wv cr cw h.fv W.T wr) (H:aR w h W) :
  aT w h ((wr.setCell ⟨h.p,2,none⟩ cr).setCell ⟨h.p,3,none⟩ cw) W:=by
 have K:=((aa.refl (·=h.p) wr).setCell (p:=⟨h.p,2,none⟩) (.inl rfl) cr).setCell (p:=⟨h.p,3,none⟩) (.inl rfl) cw;have ne:∀ {b:Nat} {c:List Value} {T:TypeId},ak wr b c T->T≠86->¬ b=h.p:=λhb hT e=>hb.ne C.S.hp hT e;have hp2:ak ((wr.setCell ⟨h.p,2,none⟩ cr).setCell ⟨h.p,3,none⟩ cw) h.p [h.tv,h.rv,cr,cw, .int .i64 W.aA, .int .i64 W.cD, .int .i64 W.most, .int .i64 W.grow] 86:=by
  simpa [dj.gx] using (C.S.hp.aE 2 cr).aE 3 cw
 have cn:∀ b,aq cr b\/aq cw b->w.heap.size<=b:=λb hb=>C.cn b (.inr hb);refine ⟨⟨h.p,h.tv,h.rv,cr,cw,h.fv⟩,⟨hp2,C.T.ab K (λb hb=>?_) (λi b hb=>?_),C.R.ab K (λb hb=>?_),C.C.hr.ab K (λb hb=>?_),C.C.hw.ab K (λb hb=>?_),C.C.ap,λi b hb=>?_,H.fi,H.fl,H.ok⟩,rfl,C.K.trans (K.mono (λb _ e=>e ▸ .inl rfl)),λb hb=>?_⟩
 ·obtain ⟨cs,hs,_⟩:=C.T;obtain ⟨_,c,hc⟩:=hs.own hb;exact ne hc (by decide)
 ·obtain ⟨c,hc⟩:=C.F i b hb;exact ne hc (by decide)
 ·obtain ⟨_,c,hc⟩:=C.R.own hb;exact ne hc (by decide)
 ·obtain ⟨_,c,hc⟩:=C.C.hr.own hb;exact ne hc (by decide)
 ·obtain ⟨_,c,hc⟩:=C.C.hw.own hb;exact ne hc (by decide)
 ·obtain ⟨h1,_,h3⟩:=H.af i b hb;obtain ⟨c,hc⟩:=C.F i b hb;exact ⟨Zd hc.lt K.size,⟨c,K.au hc (ne hc (by decide))⟩,h3⟩
 ·rcases hb with hb | hb | hb | hb | hb | hb
  ·exact .inl (.inl hb)
  ·exact .inl (.inr (.inl hb))
  ·exact .inl (.inr (.inr (.inl hb)))
  ·exact .inr (cn b (.inl hb))
  ·exact .inr (cn b (.inr hb))
  ·exact .inl (.inr (.inr (.inr (.inr (.inr hb)))))
theorem mO.settled {cp:Nat} {is:List Bool} {ai wait:List (Int × Int)} {rgv wv cr cw:Value} {tx:Nat->Value} {i:Nat} (C:mO w h W lb ib cb cp is ai wait nv rgv wv cr cw tx (gZ is W.T i) wr) (H:aR w h W)
  (hi:i<W.T.length) (T:yM wr h.tv tx (gZ is W.T i) is i w') (hc:mf is i (W.T.getD i Th.none)=dB is i (W.T.getD i Th.none)) :
  ∃ tx',mO w h W lb ib cb cp is ai wait nv rgv wv cr cw tx' (gZ is W.T (i+1)) w'/\∀ j k,aq (tx' j) k->aq (tx j) k/\(j=i->is.getD i false=true):=by
 obtain ⟨tx',T',K',F',e'⟩:=T;have eg:(gZ is W.T i).getD i Th.none=W.T.getD i Th.none:=by
  rw [Ld,Ld,Le (by rw [iy];exact hi),Le hi,uq _ _ hi]
 have e2:W.T.getD i Th.none=W.T[i]:=by rw [Ld,Le hi];rfl
 rw [eg,hc,e2,yj _ _ hi] at T';have tl:∀ b,aq h.tv b->∃ c,ak wr b c 151:=λb hb=>by
  obtain ⟨cs,hs,_⟩:=C.T;obtain ⟨_,c,hc⟩:=hs.own hb;exact ⟨c,hc⟩
 have ne:∀ {b:Nat} {c:List Value} {T:TypeId},ak wr b c T->T≠151->T≠77->¬ (aq h.tv b\/aq (tx i) b):=λ{b c T} hb h1 h2 e=>by
  rcases e with e | e
  ·obtain ⟨c',hc'⟩:=tl b e;exact hb.ne hc' h1 rfl
  ·obtain ⟨c',hc'⟩:=C.F i b e;exact hb.ne hc' h2 rfl
 have tn:∀ b,gu lb ib nv b->¬ (aq h.tv b\/aq (tx i) b):=λb hb=>by
  obtain ⟨_,c,T,h1,h2⟩:=C.L.bE hb;refine ne h1 ?_ ?_
  ·rcases h2 with rfl | rfl | rfl <;> decide
  ·rcases h2 with rfl | rfl | rfl <;> decide
 have sn:∀ b,aG h.p rgv wv b->¬ (aq h.tv b\/aq (tx i) b):=λb hb=>by
  rcases hb with rfl | hb | hb
  ·exact ne C.S.hp (by decide) (by decide)
  ·obtain ⟨_,c,hc⟩:=C.S.hr.own hb;exact ne hc (by decide) (by decide)
  ·obtain ⟨_,c,hc⟩:=C.S.hw.own hb;exact ne hc (by decide) (by decide)
 have cn:∀ b,aG cp cr cw b->¬ (aq h.tv b\/aq (tx i) b):=λb hb=>by
  rcases hb with rfl | hb | hb
  ·exact ne C.C.hp (by decide) (by decide)
  ·obtain ⟨_,c,hc⟩:=C.C.hr.own hb;exact ne hc (by decide) (by decide)
  ·obtain ⟨_,c,hc⟩:=C.C.hw.own hb;exact ne hc (by decide) (by decide)
 have own:∀ j k,aq (tx' j) k->aq (tx j) k/\(j=i->is.getD i false=true):=λj k hk=>by
  rw [e'] at hk;split at hk
  ·rename_i hb;exact ⟨hk,λ_=>hb⟩
  ·dsimp only at hk;split at hk
   ·exact absurd hk (by intro h;cases h)
   ·rename_i hj;exact ⟨hk,λe=>absurd e hj⟩
 refine ⟨tx',⟨C.L.ab K' tn,K'.au C.B (ne C.B (by decide) (by decide)),T',F',λj b hb=>C.fo j b (own j b hb).1,C.S.ab K' sn,C.C.ab K' cn,C.R.ab K' (λb hb e=>?_),C.K.then K' (λk hk=>?_),C.sn,C.cn,C.ap,C.ln⟩,own⟩
 ·rcases e with e | e
  ·obtain ⟨c',hc'⟩:=tl b e;obtain ⟨_,c,hc⟩:=C.R.own hb;exact hc.ne hc' (by decide) rfl
  ·exact (H.af i b (C.fo i b e)).2.2 hb
 ·rcases hk with hk | hk
  ·exact .inl (.inr (.inl hk))
  ·exact .inl (.inr (.inr (.inr (.inr (.inr ⟨i,C.fo i k hk⟩)))))
theorem mO.done {cp:Nat} {is:List Bool} {ai wait:List (Int × Int)} {rgv wv cr cw:Value} {tx:Nat->Value} {n:Int} (C:mO w h W lb ib cb cp is ai wait nv rgv wv cr cw tx (kQ is W.T) wr) (H:aR w h W)
  {W':Wd} (e:W'={ W with T:=kQ is W.T,ai:=ai,wait:=wait }) (hok:W'.ok) (hy:W'.aA=0) (ho:W'.cD=n) (hl:∀ (i:Nat) k,aq (tx i) k->W'.live (i:Int)) :
  aT w h ((wr.setCell ⟨h.p,4,none⟩ (.int .i64 0)).setCell ⟨h.p,5,none⟩ (.int .i64 n)) W':=by
 have K:=((aa.refl (·=h.p) wr).setCell (p:=⟨h.p,4,none⟩) (.inl rfl) (.int .i64 0)).setCell (p:=⟨h.p,5,none⟩) (.inl rfl) (.int .i64 n);have ne:∀ {b:Nat} {c:List Value} {T:TypeId},ak wr b c T->T≠86->¬ b=h.p:=λhb hT e=>hb.ne C.S.hp hT e;have hp2:ak ((wr.setCell ⟨h.p,4,none⟩ (.int .i64 0)).setCell ⟨h.p,5,none⟩ (.int .i64 n)) h.p [h.tv,h.rv,rgv,wv, .int .i64 0, .int .i64 n, .int .i64 W.most, .int .i64 W.grow] 86:=by
  simpa [dj.gx] using (C.S.hp.aE 4 (.int .i64 0)).aE 5 (.int .i64 n)
 subst e;refine ⟨⟨h.p,h.tv,h.rv,rgv,wv,tx⟩,⟨by rw [hy,ho];exact hp2,C.T.ab K (λb hb=>?_) (λi b hb=>?_),C.R.ab K (λb hb=>?_),C.S.hr.ab K (λb hb=>?_),C.S.hw.ab K (λb hb=>?_),C.S.ap,λi b hb=>?_,λi j k h1 h2=>H.fi i j k (C.fo i k h1) (C.fo j k h2),hl,hok⟩,rfl,C.K.trans (K.mono (λb _ e=>e ▸ .inl rfl)),λb hb=>?_⟩
 ·obtain ⟨cs,hs,_⟩:=C.T;obtain ⟨_,c,hc⟩:=hs.own hb;exact ne hc (by decide)
 ·obtain ⟨c,hc⟩:=C.F i b hb;exact ne hc (by decide)
 ·obtain ⟨_,c,hc⟩:=C.R.own hb;exact ne hc (by decide)
 ·obtain ⟨_,c,hc⟩:=C.S.hr.own hb;exact ne hc (by decide)
 ·obtain ⟨_,c,hc⟩:=C.S.hw.own hb;exact ne hc (by decide)
 ·obtain ⟨c,hc⟩:=C.F i b hb;exact ⟨Zd hc.lt K.size,⟨c,K.au hc (ne hc (by decide))⟩,(H.af i b (C.fo i b hb)).2.2⟩
 ·rcases hb with hb | hb | hb | hb | hb | ⟨i,hb⟩
  ·exact .inl (.inl hb)
  ·exact .inl (.inr (.inl hb))
  ·exact .inl (.inr (.inr (.inl hb)))
  ·rcases C.sn b (.inr (.inl hb)) with h1 | h1
   ·rcases h1 with h1 | h1 | h1
    ·exact .inl (.inl h1)
    ·exact .inl (.inr (.inr (.inr (.inl h1))))
    ·exact .inl (.inr (.inr (.inr (.inr (.inl h1)))))
   ·exact .inr h1
  ·rcases C.sn b (.inr (.inr hb)) with h1 | h1
   ·rcases h1 with h1 | h1 | h1
    ·exact .inl (.inl h1)
    ·exact .inl (.inr (.inr (.inr (.inl h1))))
    ·exact .inl (.inr (.inr (.inr (.inr (.inl h1)))))
   ·exact .inr h1
  ·exact .inl (.inr (.inr (.inr (.inr (.inr ⟨i,C.fo i b hb⟩)))))
theorem uY {g o n:Nat} {fo:Option Addr} {fc:Nat} (hg:g<w.heap.size) (hc:w.cell? ⟨g,o+1,none⟩=some (.slice fo n fc)) (hn:n<=1000) :
  Calls Tryz.prog 100 #[.pointer (some ⟨g,o,none⟩)] w λe w'=>e=.returned (.int .i64 (1+(n:Int)))/\w=w':=by
 go_enter Tryz.func100,Tryz.ntmps100;go_wp2_with fail;go_ret;exact ⟨rfl,rfl⟩
theorem kz.copy {cp:Nat} {cr cw:Value} {ai wait:List (Int × Int)} (I:kz w gp lb ib cb nv wr t) (S:a7 wr cp cr cw ai wait):∀ b,aG cp cr cw b->¬ (gu lb ib nv b\/b=cb):=λb hb hk=>by
 rcases hk with hk | rfl
 ·obtain ⟨_,c,T,h1,h2⟩:=I.L.bE hk;refine S.oh h1 ?_ ?_ hb
  ·rcases h2 with rfl | rfl | rfl <;> decide
  ·rcases h2 with rfl | rfl | rfl <;> decide
 ·exact S.oh I.B (by decide) (by decide) hb
end
end
section
open Go.RowKit
def St.xN (x:St):List Value:=[.int .i64 x.k, .int .i64 x.r, .int .i64 x.a, .int .i64 x.b, .int .i64 x.i, .int .i64 x.n]
def dD (L:List St):List Value:=L.flatMap St.xN
theorem mh (x:St) (L:List St):dD (x :: L)=.int .i64 x.k :: .int .i64 x.r :: .int .i64 x.a :: .int .i64 x.b :: .int .i64 x.i :: .int .i64 x.n :: dD L:=by simp [dD,St.xN]
theorem uZ (L M:List St):dD (L ++ M)=dD L ++ dD M:=by simp [dD]
theorem j7:∀ (L:List St),(dD L).length=L.length*6
 | []=>rfl
 | x :: L=>by rw [mh];simp [j7 L];omega
def St.zero:St:=⟨0,0,0,0,0,0⟩
theorem vd:∀ (L:List St) (k:Nat),k<L.length->(dD L)[k*6]? = some (.int .i64 (L.getD k St.zero).k)/\(dD L)[k*6+1]? = some (.int .i64 (L.getD k St.zero).r) /\
  (dD L)[k*6+2]? = some (.int .i64 (L.getD k St.zero).a)/\(dD L)[k*6+3]? = some (.int .i64 (L.getD k St.zero).b)/\(dD L)[k*6+4]? = some (.int .i64 (L.getD k St.zero).i)/\(dD L)[k*6+5]? = some (.int .i64 (L.getD k St.zero).n)
 | x :: L,0,_=>by rw [mh];simp
 | x :: L,k+1,h=>by
  have ih:=vd L k (by simpa using h);have e:(k+1)*6=k*6+1+1+1+1+1+1:=by omega
  rw [mh,e];simp only [aB,List.getD_cons_succ];exact ih
theorem Rd.step {w:World} {ao:Option Addr} {L:List St} (h:Rd w ao (dD L)) (k:Nat) (hk:k<L.length) :
  ∃ g o,ao=some ⟨g,o,none⟩/\g<w.heap.size/\w.cell? ⟨g,o+k*6,none⟩=some (.int .i64 (L.getD k St.zero).k)/\w.cell? ⟨g,o+k*6+1,none⟩=some (.int .i64 (L.getD k St.zero).r) /\
   w.cell? ⟨g,o+k*6+2,none⟩=some (.int .i64 (L.getD k St.zero).a)/\w.cell? ⟨g,o+k*6+3,none⟩=some (.int .i64 (L.getD k St.zero).b)/\w.cell? ⟨g,o+k*6+4,none⟩=some (.int .i64 (L.getD k St.zero).i)/\w.cell? ⟨g,o+k*6+5,none⟩=some (.int .i64 (L.getD k St.zero).n):=by
 have hl:=j7 L;obtain ⟨g,o,rfl,hg,hc⟩:=h (by intro e;rw [e] at hl;simp at hl;omega);obtain ⟨e0,e1,e2,e3,e4,e5⟩:=vd L k hk;refine ⟨g,o,rfl,hg,?_,?_,?_,?_,?_,?_⟩
 ·rw [hc _ (by omega)];exact e0
 ·rw [show o+k*6+1=o+(k*6+1) by omega,hc _ (by omega)];exact e1
 ·rw [show o+k*6+2=o+(k*6+2) by omega,hc _ (by omega)];exact e2
 ·rw [show o+k*6+3=o+(k*6+3) by omega,hc _ (by omega)];exact e3
 ·rw [show o+k*6+4=o+(k*6+4) by omega,hc _ (by omega)];exact e4
 ·rw [show o+k*6+5=o+(k*6+5) by omega,hc _ (by omega)];exact e5
def stL:List Int->List St
 | d :: r :: a :: b :: i :: z :: t=>⟨d,r,a,b,i,z⟩ :: stL t
 | _=>[]
theorem qC:∀ (m:Nat) (xs:List Int),xs.length=m*6->(stL xs).length=m/\dD (stL xs)=xs.map (Value.int .i64)
 | 0,xs,h=>by
  have:xs=[]:=List.eq_nil_of_length_eq_zero (by omega);subst this;exact ⟨rfl,rfl⟩
 | m+1,xs,h=>by
  match xs,h with
  | d :: r :: a :: b :: i :: z :: t,h=>
   have ih:=qC m t (by simp at h;omega);unfold stL;rw [mh];exact ⟨by simp [ih.1],by simp [ih.2]⟩
  | [],h=>simp at h
  | [_],h=>simp at h;omega
  | [_,_],h=>simp at h;omega
  | [_,_,_],h=>simp at h;omega
  | [_,_,_,_],h=>simp at h;omega
  | [_,_,_,_,_],h=>simp at h;omega
noncomputable def runL (W:Wd):List St->List Int × Wd
 | []=>([],W)
 | x :: l=>((W.do x).1 :: (runL (W.do x).2 l).1,(runL (W.do x).2 l).2)
theorem qD:∀ (W:Wd) (l m:List St),runL W (l ++ m)=((runL W l).1 ++ (runL (runL W l).2 m).1,(runL (runL W l).2 m).2)
 | W,[],m=>rfl
 | W,x :: l,m=>by
  have ih:=qD (W.do x).2 l m;simp only [List.cons_append,runL,ih]
theorem yU (W:Wd) (l:List St) (x:St):runL W (l ++ [x])=((runL W l).1 ++ [((runL W l).2.do x).1],((runL W l).2.do x).2):=qD W l [x]
theorem j8:∀ (W:Wd) (l:List St),(runL W l).1.length=l.length
 | _,[]=>rfl
 | W,x :: l=>by simp [runL,j8]
theorem pe {L:List St} {k:Nat} (h:k<L.length):L.take (k+1)=L.take k ++ [L.getD k St.zero]:=by
 rw [List.take_succ_eq_append_getElem h,Ld,Le h];rfl
theorem yV (W:Wd) {L:List St} {k:Nat} (h:k<L.length):runL W (L.take (k+1))=((runL W (L.take k)).1 ++ [((runL W (L.take k)).2.do (L.getD k St.zero)).1],((runL W (L.take k)).2.do (L.getD k St.zero)).2):=by
 rw [pe h,yU]
theorem yW:∀ (W:Wd) (l:List St),(runL W l).2.T.length<=W.T.length+l.length
 | _,[]=>by simp [runL]
 | W,x :: l=>by
  have h1:=yW (W.do x).2 l;have h2:=Wd.yT W x;simp only [runL,List.length_cons];omega
theorem yX (W:Wd) (l:List St) (k:Nat):(runL W (l.take k)).1=(runL W l).1.take k:=by
 have h:l=l.take k ++ l.drop k:=(List.take_append_drop k l).symm;have h2:(runL W l).1=(runL W (l.take k)).1 ++ (runL (runL W (l.take k)).2 (l.drop k)).1:=by
  conv=>lhs;rw [h]
  rw [qD]
 have hl:=j8 W (l.take k);rw [Zx] at hl;rw [h2];by_cases hk:k<=l.length
 ·rw [List.take_append_of_le_length (by omega)];exact (List.take_of_length_le (by omega)).symm
 ·have e:l.drop k=[]:=List.drop_of_length_le (by omega);rw [e];simp only [runL,List.append_nil];exact (List.take_of_length_le (by omega)).symm
end
section
def St.cut (x:St):Bool:=x.k == 15 || x.k == 16
def St.str (x:St):Bool:=!(x.k == 6 || x.k == 7 || x.k == 8 || x.k == 15 || x.k == 16)
theorem St.ve {x:St} (h:x.str=true):x.k≠6/\x.k≠7/\x.k≠8/\x.k≠15/\x.k≠16:=by
 unfold St.str at h;simp only [Bool.not_eq_true',Bool.or_eq_false_iff,beq_eq_false_iff_ne] at h;exact ⟨h.1.1.1.1,h.1.1.1.2,h.1.1.2,h.1.2,h.2⟩
theorem St.Ce {x:St} (h:x.str=true):x.cut=false:=by
 have:=St.ve h;unfold St.cut;simp [this.2.2.2.1,this.2.2.2.2]
def leftC:List St->List Int->List Int
 | x :: M,c :: l=>if x.cut=true then leftC M l else c :: leftC M l
 | _,_=>[]
theorem rL:∀ (M:List St) (l:List Int),(∀ x ∈ M,x.cut=false)->l.length=M.length->leftC M l=l
 | [],[],_,_=>rfl
 | [],_ :: _,_,h=>by simp at h
 | x :: M,[],_,h=>by simp at h
 | x :: M,c :: l,hx,h=>by
  have ih:=rL M l (λy hy=>hx y (by simp [hy])) (by simpa using h);unfold leftC;rw [if_neg (by rw [hx x (by simp)];decide),ih]
theorem Dt {x:St} (h:x.cut=true):∃ b, ∀ V:Wd,V.do x=V.cut b:=by
 unfold St.cut at h;simp only [Bool.or_eq_true,beq_iff_eq] at h;rcases h with h | h
 ·exact ⟨false,λV=>by unfold Wd.do;rw [if_pos (by unfold bu aP;simp [h])];unfold Wd.step;simp [h]⟩
 ·exact ⟨true,λV=>by unfold Wd.do;rw [if_pos (by unfold bu aP;simp [h])];unfold Wd.step;simp [h]⟩
theorem nV:∀ (M L:List St) (W V:Wd) (P:Int->Prop),M.filter (λx=>!x.cut)=L->(∀ x ∈ L,x.str=true)->dz W V P->W.ok->V.ok->W.bC->V.bC->¬ (3:Int) ∈ (runL W L).1->¬ (3:Int) ∈ leftC M (runL V M).1 ->
  leftC M (runL V M).1=(runL W L).1/\(runL V M).2.view=(runL W L).2.view
 | [],L,W,V,P,e,hL,A,hw,hv,ws,vs,_,_=>by
  subst e;exact ⟨rfl,A.view ws vs⟩
 | x :: M,L,W,V,P,e,hL,A,hw,hv,ws,vs,n0,n1=>by
  have hd:=hv.do x
  by_cases hc:x.cut=true
  ·obtain ⟨b,hb⟩:=Dt hc;obtain ⟨Q,B⟩:=A.symm.cut hv vs b;have e':M.filter (λx=>!x.cut)=L:=by rw [List.filter_cons,hc] at e;exact e
   rw [hb] at hd;simp only [runL,leftC,if_pos hc,hb] at n1 ⊢;exact nV M L W _ Q e' hL B.symm hw hd ws (vs.cut hv b) n0 n1
  ·have hc':x.cut=false:=by simpa using hc
   obtain ⟨L',rfl⟩:∃ L',L=x :: L':=⟨_,by rw [<-e,List.filter_cons,hc'];rfl⟩;have e':M.filter (λx=>!x.cut)=L':=by
    rw [List.filter_cons,hc'] at e;exact (List.cons.inj e).2
   obtain ⟨s6,s7,s8,s15,s16⟩:=St.ve (hL x (by simp));simp only [runL,leftC,if_neg hc] at n0 n1 ⊢;have d:=A.do hw hv ws vs s6 s7 s8 s15 s16 (λh=>n0 (by rw [h];simp)) (λh=>n1 (by rw [h];simp))
   obtain ⟨Q,B⟩:=d.2;have ih:=nV M L' _ _ Q e' (λy hy=>hL y (by simp [hy])) B (hw.do x) hd (ws.do hw s6 s7 s8) (vs.do hv s6 s7 s8) (λh=>n0 (by simp [h])) (λh=>n1 (by simp [h]));rw [ih.1,d.1];exact ⟨rfl,ih.2⟩
theorem dz.new (n o n' o':Int):dz (Wd.new n o) (Wd.new n' o') λ_=>False:=⟨rfl,rfl,λu hu h3=>by
 rw [List.eq_of_mem_replicate hu] at h3;exact absurd h3 (by decide),λ_ h=>h.elim,λ_ h=>h.elim⟩
end
section
open Go.RowKit
theorem tg:(Tryz.prog.info? 26).map (λi=>(i.zero,i.size,i.bytes))=some (some (.agg #[.int .i64 0, .int .i64 0, .int .i64 0, .int .i64 0, .int .i64 0, .int .i64 0]),6,48):=by kernel_rfl
structure jB (w0 w:World) (v:Value) (L:List St):Prop where
 S:Sl w 26 6 v L.length (dD L)
 nw:∀ b,aq v b->w0.heap.size<=b
theorem jB.nil (w0 w:World):jB w0 w (.slice none 0 0) []:=⟨Sl.nil _ _ _,λb hb=>(b9 hb).elim⟩
theorem jB.ab {w0 w w':World} {v:Value} {L:List St} {S:Nat->Prop} (h:jB w0 w v L) (k:aa S w w') (hn:∀ b,aq v b->¬ S b):jB w0 w' v L:=⟨h.S.ab k hn,h.nw⟩
theorem jB.rd {w0 w:World} {v:Value} {L:List St} (h:jB w0 w v L):∃ ao cap,v=.slice ao L.length cap/\Rd w ao (dD L)/\L.length<=cap:=by
 obtain ⟨ao,cap,e,r,-,h2⟩:=h.S.rd;exact ⟨ao,cap,e,r,h2⟩
theorem jB.app {w0 w w2:World} {v v':Value} {N:Nat} {L:List St} {x:St} (h:jB w0 w v L) (hs:Sl w2 26 6 v' (L.length+1) (dD L ++ x.xN)) (hl:w0.heap.size<=N) (ho:∀ b,aq v' b->aq v b\/N<=b):jB w0 w2 v' (L ++ [x]):=
 ⟨by rw [uZ,Zq];have e:dD [x]=x.xN:=(by simp [dD]);rw [e];exact hs,λb hb=>(ho b hb).elim (h.nw b) (λh2=>Za hl h2)⟩
section
variable {w:World}
theorem yY (L:List St) (lo:Option Addr) (lc m:Nat) (w:World) (h0:Rd w lo (dD L)) (hm:L.length=m) (hl:m<=2000) :
  Calls Tryz.prog 12 #[.slice lo m lc] w λe w'=>∃ v,e=.returned v/\jB w w' v (L.filter λx=>!x.cut)/\aa (λ_=>False) w w':=by
 obtain ⟨i0,hi,hz0,hz1,hz2⟩:=dJ tg;have Hi:=Hz hi;have Hz0:=Hz hz0;have Hz1:=Hz hz1;have Hz2:=Hz hz2;clear hi hz0 hz1 hz2;have H0:=Hz h0;have HM:=Hz hm;have HL:=Hz hl;clear h0 hm;go_enter Tryz.func12,Tryz.ntmps12;go_wp2_with fail;refine lG (λi=>Nat.beq i 3 || Nat.beq i 5 || Nat.blt 7 i) (λs wr=>∃ (k:Nat) (v:Value),k<=m/\s 8=.int .i64 k/\s 3=v/\jB w wr v ((L.take k).filter λx=>!x.cut)/\aa (λ_=>False) w wr) (λs _=>m-(intOf (s 8)).toNat) ?_ ?_
 ·exact ⟨0,_,Zc _,rfl,rfl,jB.nil _ _,aa.refl _ _⟩
 ·intro u0 wr hrel K hK;obtain ⟨k,v,hk,e8,e3,hS,hKK⟩:=hrel;have e8:u0 8=.int .i64 k:=e8;have e3:u0 3=v:=e3;have HS:=Hz hS;have KK:=Hz hKK;clear hS hKK;simp only [fI,overL,List.toList_toArray,Nat.blt,Nat.beq,Nat.ble,Nat.reduceAdd,Bool.or_false,Bool.false_or,Bool.or_true,Bool.true_or,Bool.and_true,Bool.true_and,Bool.and_false,Bool.false_and,cond_true,cond_false];rw [e8,e3];have E8:=Hz e8;clear e8 e3;by_cases hlt:k<m
  ·have hki:(k:Int)<m:=by omega
   obtain ⟨gs,os,rfl,hgl,d0,d1,d2,d3,d4,d5⟩:=H0.o.step k (by rw [HM.o];exact hlt);have HTK:=Hz (pe (L:=L) (k:=k) (by rw [HM.o];exact hlt));generalize L.getD k St.zero=x at *;obtain ⟨d,r,a,b,i,z⟩:=x;dsimp only at d0 d1 d2 d3 d4 d5;have hcc:∀ q,wr.cell? ⟨gs,q,none⟩=w.cell? ⟨gs,q,none⟩:=λq=>World.cell?_of_block (w:=w) (a:=⟨gs,q,none⟩) (KK.o.block gs hgl (λh=>h));rw [<-hcc] at d0 d1 d2 d3 d4 d5;have hgr:=Zd hgl KK.o.size;clear hcc;go_upto_region 5 with fail
   have kal:=(Kz wr).alloc (.cells #[.int .i64 d, .int .i64 r, .int .i64 a, .int .i64 b, .int .i64 i, .int .i64 z] 26);have BX:=Hz (ak.new wr [.int .i64 d, .int .i64 r, .int .i64 a, .int .i64 b, .int .i64 i, .int .i64 z] 26);have HS1:=Hz (HS.o.ab kal (λ_ _ h=>h));have KK1:=Hz (KK.o.trans kal);clear kal d0 d1 d2 d3 d4 d5 hgr HS KK;generalize wr.alloc (.cells #[.int .i64 d, .int .i64 r, .int .i64 a, .int .i64 b, .int .i64 i, .int .i64 z] 26)=w5 at *;generalize wr.heap.size=xb at *;have e0:=BX.o.cell 0;have e1:=BX.o.cell 1;have e2:=BX.o.cell 2;have e3:=BX.o.cell 3;have e4:=BX.o.cell 4;have e5:=BX.o.cell 5;have el:=BX.o.lt;simp only [Lz,aB] at e0 e1 e2 e3 e4 e5;clear BX;by_cases hc:d=15\/d=16
   ·have FL:=Hz (show (L.take (k+1)).filter (λx=>!x.cut)=(L.take k).filter (λx=>!x.cut) from by
     rw [HTK.o,List.filter_append];have:(St.mk d r a b i z).cut=true:=by unfold St.cut;simpa using hc
     simp [this])
    have HF:=Hz (show jB w w5 v ((L.take (k+1)).filter λx=>!x.cut) from by rw [FL.o];exact HS1.o);clear HS1 FL;rcases hc with rfl | rfl
    all_goals
     go_wp2_with fail;refine ⟨⟨by kernel_rfl,?rel⟩,?measure⟩
     case rel=>exact ⟨k+1,v,hlt,by go_num,rfl,HF.o,KK1.o⟩
     case measure=>exact mH (by go_num) (by first | rfl | exact E8.o) hlt
   ·have n15:(d != 15)=true:=bne_iff_ne.2 λe=>hc (.inl e);have n16:(d != 16)=true:=bne_iff_ne.2 λe=>hc (.inr e);have FL:=Hz (show (L.take (k+1)).filter (λx=>!x.cut)=(L.take k).filter (λx=>!x.cut) ++ [⟨d,r,a,b,i,z⟩] from by
     rw [HTK.o,List.filter_append];have:(St.mk d r a b i z).cut=false:=by unfold St.cut;simp at n15 n16 ⊢;exact ⟨n15,n16⟩
     simp [this])
    have LE:=Hz (show ((L.take k).filter λx=>!x.cut).length<=k from Za (List.length_filter_le _ _) (by rw [Zx];omega));have le:=LE.o;have hl:=HL.o;go_wp2_with (at_builtin;refine cE rfl (.tmp 20) (.tmp 22) 22 rfl 26 i0 (.agg #[.int .i64 0, .int .i64 0, .int .i64 0, .int .i64 0, .int .i64 0, .int .i64 0]) 6 48 Tryz.underlying22 Hi.o Hz0.o Hz1.o Hz2.o rfl (by decide) _ _ _ rfl (HS1.o.S.ab ((Kz w5).alloc _) (λ_ _ h=>h)) ⟨w5.heap.size,0,none⟩ 1 1 [.int .i64 d, .int .i64 r, .int .i64 a, .int .i64 b, .int .i64 i, .int .i64 z] rfl rfl (bV w5 26 #[.int .i64 d, .int .i64 r, .int .i64 a, .int .i64 b, .int .i64 i, .int .i64 z]) (by intro u hu;simp at hu;rcases hu with rfl | rfl | rfl | rfl | rfl | rfl <;> rfl) (by unfold maxLen;omega) (by omega) ?_);intro v6 w6 hs6 hk6 ho6;have HF:=Hz (show jB w w6 v6 ((L.take (k+1)).filter λx=>!x.cut) from by rw [FL.o];exact HS1.o.app hs6 (Nat.le_succ_of_le KK1.o.size) ho6);have KK6:=Hz ((KK1.o.alloc (.cells #[.int .i64 d, .int .i64 r, .int .i64 a, .int .i64 b, .int .i64 i, .int .i64 z] 26)).then hk6 (λb hb=>.inr (HS1.o.nw b hb)));clear hs6 hk6 ho6 FL LE le HS1 KK1 e0 e1 e2 e3 e4 e5 el;go_wp2_with fail;refine ⟨⟨by kernel_rfl,?rel⟩,?measure⟩
    case rel=>exact ⟨k+1,v6,hlt,by go_num,rfl,HF.o,KK6.o⟩
    case measure=>exact mH (by go_num) (by first | rfl | exact E8.o) hlt
  ·obtain rfl:k=m:=by omega
   have HT:=Hz (show L.take k=L by rw [<-HM.o,List.take_length]);go_wp2_with fail;go_ret;rw [HT.o] at HS;exact ⟨_,rfl,HS.o,KK.o⟩
end
end
end Go.Proofs.YtjifdalflepcoadGreat
