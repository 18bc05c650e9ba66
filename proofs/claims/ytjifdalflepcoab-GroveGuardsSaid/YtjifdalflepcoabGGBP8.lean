/-
  Parts of the proof, merged: what the functions do, and plain laws.
-/
import Derived.Test.YtjifdalflepcoabGGBP7
import Derived.Test.YtjifdalflepcoabGGBP6
import Derived.Test.YtjifdalflepcoabGGBP1
import Derived.Test.YtjifdalflepcoabGGBP4
set_option maxHeartbeats 16000000
set_option maxRecDepth 100000
set_option linter.unusedVariables false
set_option linter.unusedSimpArgs false
namespace Go.Proofs.Ytjifdalflepcoab
section
open Go.RowKit
theorem sx {x:St} (h:bZ x=0):x.k=1∨x.k=2∨x.k=3∨x.k=4∨x.k=5∨x.k=6∨x.k=7∨x.k=8∨x.k=9∨x.k=10∨x.k=11∨x.k=12∨x.k=13∨x.k=14∨x.k=15∨x.k=16:=by
 have h1:=(aN h).1;unfold aJ at h1;by_cases h2:1≤x.k∧x.k≤16
 ·omega
 ·exfalso;apply h1;rw [if_neg (by omega),if_neg (by omega),if_neg (by omega),if_neg (by omega),if_neg (by omega)]
section
variable {w w':World} {h:bT} {W:Wd}
theorem sy (xk xr xa xb xi xn:Int) (H:aG w h W) (hT:W.T.length≤90000) :
  Calls Try.prog 59 #[.pointer (some ⟨h.p,0,none⟩), .agg #[.int .i64 xk, .int .i64 xr, .int .i64 xa, .int .i64 xb, .int .i64 xi, .int .i64 xn]] w (bH w h (W.do ⟨xk,xr,xa,xb,xi,xn⟩)):=by
 unfold bH;have HT:=Hz hT;have HB0:=Hz H;have hb1:ah (w.alloc (.cells #[.int .i64 xk, .int .i64 xr, .int .i64 xa, .int .i64 xb, .int .i64 xi, .int .i64 xn] 98)) w.heap.size [.int .i64 xk, .int .i64 xr, .int .i64 xa, .int .i64 xb, .int .i64 xi, .int .i64 xn] 98:=ah.newAt _ rfl rfl;have ka:=(Kz w).alloc (.cells #[.int .i64 xk, .int .i64 xr, .int .i64 xa, .int .i64 xb, .int .i64 xi, .int .i64 xn] 98);have HB1:=Hz (H.same ka);have K1:=Hz ka;have SB1:=Hz hb1;have SOW:=Hz (show ¬ h.Own w.heap.size from fun e=>by have:=H.dE e;omega);clear hb1 ka H;go_enter Try.func59,Try.ntmps59;go_upto_region 1 with fail
 generalize w.alloc (.cells #[.int .i64 xk, .int .i64 xr, .int .i64 xa, .int .i64 xb, .int .i64 xi, .int .i64 xn] 98)=w1 at *;generalize w.heap.size=sb at *;have s0:=SB1.out.cell 0;have s1:=SB1.out.cell 1;have s2:=SB1.out.cell 2;have s3:=SB1.out.cell 3;have s4:=SB1.out.cell 4;have s5:=SB1.out.cell 5;have sl:=SB1.out.lt;simp only [Lz,Ls] at s0 s1 s2 s3 s4 s5;have HSF:=Hz (fun w=>rC ⟨xk,xr,xa,xb,xi,xn⟩ w);obtain ⟨c,hc⟩:∃ c,bZ ⟨xk,xr,xa,xb,xi,xn⟩=c:=⟨_,rfl⟩;rw [hc] at HSF;have HC:=Hz hc;clear hc;go_wp2_with (refine fh rfl 98 (.tmp 3) rfl [.int .i64 xk, .int .i64 xr, .int .i64 xa, .int .i64 xb, .int .i64 xi, .int .i64 xn] (by kernel_rfl) sb 0 rfl (aE s0 (aE s1 (aE s2 (aE s3 (aE s4 (aE s5 dw)))))) ?_);refine (HSF.out _).mono ?_;rintro e w2 ⟨rfl,hk⟩;have HB2:=Hz (HB1.out.same hk);have K2:=Hz (K1.out.trans hk);have SB2:=Hz (hk.ai SB1.out (fun h=>h));clear hk s0 s1 s2 s3 s4 s5 sl HSF HB1 K1 SB1;have s0:=SB2.out.cell 0;have s1:=SB2.out.cell 1;have s2:=SB2.out.cell 2;have s3:=SB2.out.cell 3;have s4:=SB2.out.cell 4;have s5:=SB2.out.cell 5;have sl:=SB2.out.lt;simp only [Lz,Ls] at s0 s1 s2 s3 s4 s5;by_cases h0:¬ c=0
 ·have HE:=Hz (show W.do ⟨xk,xr,xa,xb,xi,xn⟩=(c,W) by unfold Wd.do;rw [HC.out,if_neg h0]);have hd:(c != 0)=true:=by simpa using h0
  clear h0;go_wp2_with fail;go_ret;rw [HE.out];exact ⟨rfl,aI.same HB0.out K2.out⟩
 have h0:c=0:=Classical.not_not.1 h0;subst h0;have hcs:=sx HC.out;dsimp only at hcs;rcases hcs with rfl | rfl | rfl | rfl | rfl | rfl | rfl | rfl | rfl | rfl | rfl | rfl | rfl | rfl | rfl | rfl
 ·skip
  have hr:0≤xr∧xr<12:=(aT _).1 ((aN HC.out).2.1 (show aJ 1%2=1 by decide));obtain ⟨r,rfl⟩:∃ r:Nat,xr=r:=⟨xr.toNat,by omega⟩;have hr12:r<12:=by omega
  clear hr;have hn:-dy≤xn∧xn<dy:=(aN HC.out).2.2.2.2.1 rfl;have HE:=Hz (show W.do ⟨1,r,xa,xb,xi,xn⟩=(0,W.aP r (1,xn)) by unfold Wd.do;rw [if_pos HC.out];rfl);have HV:=Hz (show W.dp (1,xn) from Wd.gF hn.1 hn.2);clear hn;obtain ⟨gr,orr,rc,erv,hgr,q1,-,-,hrs⟩:=HB2.out.dt hr12;have RS:=Hz hrs;have ERV:=Hz erv;have pl:=HB2.out.hp.lt;have h12:(r:Int)<12:=by omega
  have h12':¬ (12:Int)≤(r:Int):=by omega
  have h12n:¬ (12:Nat)≤r:=by omega
  clear erv hrs;go_wp2_with fail;refine aq (.free 0 (.free 1 (.free 2 (.free 4 (.free 6 (.pure 3 (.pure 5 (.pure 7 (.free 8 (.free 9 (.run 10 (.swi [] (.fin))))))))))))) [10] (fun w'=>w'.cell? ⟨h.p,1,none⟩=some (.slice (some ⟨gr,orr,none⟩) 12 rc)∧w'.cell? ⟨sb,1,none⟩=some (.int .i64 r)∧w'.cell? ⟨sb,5,none⟩=some (.int .i64 xn)) (by kernel_rfl) (by kernel_rfl) ⟨q1,s1,s5⟩ ?_
  iterate 10 ((first | refine ak rfl rfl fun K hK=>?_ | refine aj rfl rfl fun K hK=>?_ | refine aB rfl rfl fun K hK=>?_ | refine aw rfl rfl fun K hK=>?_ | refine aA rfl rfl fun K hK=>?_);go_simp;refine hK _ ?_;clear hK K)
  refine aK rfl rfl rfl (fun K hK=>?_);refine bD 78 (.tmp 28) (.tmp 27) rfl rfl gr orr 12 rc r _ 78 (.int .i64 1) (.int .i64 xn) rfl rfl (RS.out.ae (Kz _).drew (fun _ _ h=>h)) hr12 (by kernel_rfl) rfl rfl ?_;intro wz hsz hkz hzz;refine hK _ _ ?_;clear hK K;refine aH (fun _=>True) trivial (aD ?_);have T6:=Hz (HB2.out.dv ERV.out hr12 (v:=(1,xn)) HV.out hsz (((Kz w2).drew.mono (fun _ _ h=>h.elim)).trans hkz));clear hsz hkz hzz q1 s0 s1 s2 s3 s4 s5 sl pl;go_wp2_with fail;go_ret;rw [HE.out];exact ⟨rfl,aI.aY K2.out T6.out⟩
 ·skip
  have hr:0≤xr∧xr<12:=(aT _).1 ((aN HC.out).2.1 (show aJ 2%2=1 by decide));obtain ⟨r,rfl⟩:∃ r:Nat,xr=r:=⟨xr.toNat,by omega⟩;have hr12:r<12:=by omega
  clear hr;have HE:=Hz (show W.do ⟨2,r,xa,xb,xi,xn⟩=(0,W.aP r (0,0)) by unfold Wd.do;rw [if_pos HC.out];rfl);have HV:=Hz (show W.dp (0,0) from .inl ⟨rfl,rfl⟩);obtain ⟨gr,orr,rc,erv,hgr,q1,-,-,hrs⟩:=HB2.out.dt hr12;have RS:=Hz hrs;have ERV:=Hz erv;have pl:=HB2.out.hp.lt;have h12:(r:Int)<12:=by omega
  have h12':¬ (12:Int)≤(r:Int):=by omega
  have h12n:¬ (12:Nat)≤r:=by omega
  clear erv hrs;go_wp2_with fail;refine aq (.free 0 (.free 1 (.free 2 (.free 4 (.free 6 (.pure 3 (.pure 5 (.free 7 (.run 8 (.swi [] (.fin))))))))))) [8] (fun w'=>w'.cell? ⟨h.p,1,none⟩=some (.slice (some ⟨gr,orr,none⟩) 12 rc)∧w'.cell? ⟨sb,1,none⟩=some (.int .i64 r)) (by kernel_rfl) (by kernel_rfl) ⟨q1,s1⟩ ?_
  iterate 8 ((first | refine ak rfl rfl fun K hK=>?_ | refine aj rfl rfl fun K hK=>?_ | refine aB rfl rfl fun K hK=>?_ | refine aw rfl rfl fun K hK=>?_ | refine aA rfl rfl fun K hK=>?_);go_simp;refine hK _ ?_;clear hK K)
  refine aK rfl rfl rfl (fun K hK=>?_);refine bD 78 (.tmp 38) (.tmp 37) rfl rfl gr orr 12 rc r _ 78 (.int .i64 0) (.int .i64 0) rfl rfl (RS.out.ae (Kz _).drew (fun _ _ h=>h)) hr12 (by kernel_rfl) rfl rfl ?_;intro wz hsz hkz hzz;refine hK _ _ ?_;clear hK K;refine aH (fun _=>True) trivial (aD ?_);have T6:=Hz (HB2.out.dv ERV.out hr12 (v:=(0,0)) HV.out hsz (((Kz w2).drew.mono (fun _ _ h=>h.elim)).trans hkz));clear hsz hkz hzz q1 s0 s1 s2 s3 s4 s5 sl pl;go_wp2_with fail;go_ret;rw [HE.out];exact ⟨rfl,aI.aY K2.out T6.out⟩
 ·skip
  have hr:0≤xr∧xr<12:=(aT _).1 ((aN HC.out).2.1 (show aJ 3%2=1 by decide));obtain ⟨r,rfl⟩:∃ r:Nat,xr=r:=⟨xr.toNat,by omega⟩;have hr12:r<12:=by omega
  clear hr;have ha:0≤xa∧xa<12:=(aT _).1 ((aN HC.out).2.2.1 (show aJ 3/2%2=1 by decide));obtain ⟨a,rfl⟩:∃ a:Nat,xa=a:=⟨xa.toNat,by omega⟩;have ha12:a<12:=by omega
  clear ha;have HE:=Hz (show W.do ⟨3,r,a,xb,xi,xn⟩=(0,W.aP r (W.rt a)) by unfold Wd.do;rw [if_pos HC.out];rfl);have HV:=Hz (Wd.fT HB2.out.ok (a:Int));obtain ⟨gr,orr,rc,erv,hgr,q1,-,-,hrs⟩:=HB2.out.dt hr12;have RS:=Hz hrs;have ERV:=Hz erv;have pl:=HB2.out.hp.lt;have h12:(r:Int)<12:=by omega
  have h12':¬ (12:Int)≤(r:Int):=by omega
  have h12n:¬ (12:Nat)≤r:=by omega
  clear erv hrs;obtain ⟨gr',or',rc',-,-,q1',ra0,ra1,-⟩:=HB2.out.dt ha12;rw [q1] at q1';cases q1';have hai:(a:Int)<12:=by omega
  generalize W.rt (a:Int)=v at *;obtain ⟨v1,v2⟩:=v;dsimp only at ra0 ra1;go_wp2_with fail;refine aq (.free 0 (.free 1 (.free 2 (.free 4 (.free 6 (.free 7 (.free 8 (.free 10 (.pure 3 (.pure 5 (.pure 9 (.pure 11 (.free 12 (.pure 13 (.free 14 (.run 15 (.swi [] (.fin)))))))))))))))))) [15] (fun w'=>w'.cell? ⟨h.p,1,none⟩=some (.slice (some ⟨gr,orr,none⟩) 12 rc)∧w'.cell? ⟨sb,1,none⟩=some (.int .i64 r)∧w'.cell? ⟨sb,2,none⟩=some (.int .i64 a)∧w'.cell? ⟨gr,orr+a*2,none⟩=some (.int .i64 v1)∧w'.cell? ⟨gr,orr+a*2+1,none⟩=some (.int .i64 v2)) (by kernel_rfl) (by kernel_rfl) ⟨q1,s1,s2,ra0,ra1⟩ ?_
  iterate 15 ((first | refine ak rfl rfl fun K hK=>?_ | refine aj rfl rfl fun K hK=>?_ | refine aB rfl rfl fun K hK=>?_ | refine aw rfl rfl fun K hK=>?_ | refine aA rfl rfl fun K hK=>?_);go_simp;refine hK _ ?_;clear hK K)
  refine aK rfl rfl rfl (fun K hK=>?_);refine bD 78 (.tmp 55) (.tmp 54) rfl rfl gr orr 12 rc r _ 78 (.int .i64 v1) (.int .i64 v2) rfl rfl (RS.out.ae (Kz _).drew (fun _ _ h=>h)) hr12 (by kernel_rfl) rfl rfl ?_;intro wz hsz hkz hzz;refine hK _ _ ?_;clear hK K;refine aH (fun _=>True) trivial (aD ?_);have T6:=Hz (HB2.out.dv ERV.out hr12 (v:=(v1,v2)) HV.out hsz (((Kz w2).drew.mono (fun _ _ h=>h.elim)).trans hkz));clear hsz hkz hzz q1 s0 s1 s2 s3 s4 s5 sl pl;go_wp2_with fail;go_ret;rw [HE.out];exact ⟨rfl,aI.aY K2.out T6.out⟩
 ·skip
  have hr:0≤xr∧xr<12:=(aT _).1 ((aN HC.out).2.1 (show aJ 4%2=1 by decide));obtain ⟨r,rfl⟩:∃ r:Nat,xr=r:=⟨xr.toNat,by omega⟩;have hr12:r<12:=by omega
  clear hr;have ha:0≤xa∧xa<12:=(aT _).1 ((aN HC.out).2.2.1 (show aJ 4/2%2=1 by decide));obtain ⟨a,rfl⟩:∃ a:Nat,xa=a:=⟨xa.toNat,by omega⟩;have ha12:a<12:=by omega
  clear ha;have hb:0≤xb∧xb<12:=(aT _).1 ((aN HC.out).2.2.2.1 (show aJ 4/4%2=1 by decide));obtain ⟨b,rfl⟩:∃ b:Nat,xb=b:=⟨xb.toNat,by omega⟩;have hb12:b<12:=by omega
  clear hb;have HE:=Hz (show W.do ⟨4,r,a,b,xi,xn⟩=W.aW r 1 ([a,b].map fun (k:Nat)=>(k:Int)) by unfold Wd.do;rw [if_pos HC.out];rfl);have ka:=(Kz w2).alloc (.cells #[.int .i64 a, .int .i64 b] 3);have hbl:ah (w2.alloc (.cells #[.int .i64 a, .int .i64 b] 3)) w2.heap.size [.int .i64 a, .int .i64 b] 3:=ah.newAt _ rfl rfl;have HMK:=Hz (iA r 1 [a,b] (some ⟨w2.heap.size,0,none⟩) 2 (HB2.out.same ka) HT.out hr12 (by intro k hk;simp at hk;omega) (show aQ 1 2=true by decide) ⟨rfl, .inr ⟨_,0,2,_,rfl,hbl,Nat.le_refl _,by unfold maxLen;omega,by simp,rfl⟩⟩);have HKA:=Hz ka;clear ka hbl;go_wp2_with fail;refine HMK.out.mono ?_;rintro e w3 ⟨rfl,ht⟩;have TO:=Hz (aI.aY (K2.out.trans HKA.out) ht);clear ht s0 s1 s2 s3 s4 s5 sl HMK;go_wp2_with fail;go_ret;rw [HE.out];exact ⟨rfl,TO.out⟩
 ·skip
  have hr:0≤xr∧xr<12:=(aT _).1 ((aN HC.out).2.1 (show aJ 5%2=1 by decide));obtain ⟨r,rfl⟩:∃ r:Nat,xr=r:=⟨xr.toNat,by omega⟩;have hr12:r<12:=by omega
  clear hr;have ha:0≤xa∧xa<12:=(aT _).1 ((aN HC.out).2.2.1 (show aJ 5/2%2=1 by decide));obtain ⟨a,rfl⟩:∃ a:Nat,xa=a:=⟨xa.toNat,by omega⟩;have ha12:a<12:=by omega
  clear ha;have hn:0≤xn∧xn≤12:=(aN HC.out).2.2.2.2.2 rfl;obtain ⟨n,rfl⟩:∃ n:Nat,xn=n:=⟨xn.toNat,by omega⟩;have hn12:n≤12:=by omega
  have hrl:(List.replicate n a).length=n:=List.length_replicate;have hvr:fV (List.replicate n a)=List.replicate n (.int .i64 (a:Int)):=by simp [fV]
  have HE:=Hz (show W.do ⟨5,r,a,xb,xi,n⟩=W.aW r 2 ((List.replicate n a).map fun (k:Nat)=>(k:Int)) by
   rw [List.map_replicate]
   unfold Wd.do;rw [if_pos HC.out];rfl)
  clear hn;have HRL:=Hz hrl;have HVR:=Hz hvr;clear hrl hvr;go_wp2_with fail;refine aq (.free 0 (.free 1 (.free 3 (.free 6 (.pure 2 (.pure 4 (.pure 7 (.run 5 (.run 8 (.run 9 (.swi [] (.free 10 (.fin))))))))))))) [9,10] (fun w'=>w'.cell? ⟨sb,1,none⟩=some (.int .i64 r)∧w'.cell? ⟨sb,2,none⟩=some (.int .i64 a)∧w'.cell? ⟨sb,5,none⟩=some (.int .i64 n)) (by kernel_rfl) (by kernel_rfl) ⟨s1,s2,s5⟩ ?_
  iterate 7 ((first | refine ak rfl rfl fun K hK=>?_ | refine aj rfl rfl fun K hK=>?_ | refine aB rfl rfl fun K hK=>?_ | refine aw rfl rfl fun K hK=>?_ | refine aA rfl rfl fun K hK=>?_);go_simp;refine hK _ ?_;clear hK K)
  refine bO rfl rfl (fun K hK=>?_);unfold aM;go_simp;have ka:aa (fun _=>False) w2 ((w2.alloc (.cells #[.int .i64 a] 3)).drew):=((Kz w2).alloc (.cells #[.int .i64 a] 3)).drew;have hbl:ah ((w2.alloc (.cells #[.int .i64 a] 3)).drew) w2.heap.size [.int .i64 (a:Int)] 3:=ah.drew (ah.newAt _ rfl rfl);refine hK _ _ (fun _=>⟨(ka.ai SB2.out (fun h=>h)).cell 1,(ka.ai SB2.out (fun h=>h)).cell 2,(ka.ai SB2.out (fun h=>h)).cell 5⟩) ?_;clear hK K;refine bO rfl rfl (fun K hK=>?_);unfold aM;go_simp;refine (qs a n w2.heap.size 0 1 hn12 _ (hbl.cell 0) hbl.lt).mono ?_;rintro e w4 ⟨b,rfl,hs4,hk4,hb4⟩;have K4:=Hz (ka.trans hk4);have S4:=Hz hs4;clear ka hbl hk4 hb4 hs4;refine hK _ _ (fun _=>⟨(K4.out.ai SB2.out (fun h=>h)).cell 1,(K4.out.ai SB2.out (fun h=>h)).cell 2,(K4.out.ai SB2.out (fun h=>h)).cell 5⟩) ?_;clear hK K;refine aK rfl rfl rfl (fun K hK=>?_);unfold aM;go_simp;have hmk:=iA r 2 (List.replicate n a) (some ⟨b,0,none⟩) n (HB2.out.same K4.out) HT.out hr12 (fun j hj=>by rw [(List.mem_replicate.1 hj).2];exact ha12) (by rw [HRL.out];simp [aQ];omega) (by rw [HRL.out,HVR.out];exact S4.out);rw [HRL.out] at hmk;refine hmk.mono ?_;rintro e w5 ⟨rfl,ht⟩;have TO:=Hz (aI.aY (K2.out.trans K4.out) ht);refine hK _ _ ?_;clear hK K ht hmk s0 s1 s2 s3 s4 s5 sl;refine aH (fun _=>True) trivial ?_
  iterate 1 ((first | refine ak rfl rfl fun K hK=>?_ | refine aj rfl rfl fun K hK=>?_);go_simp;refine hK _ ?_;clear hK K)
  refine aD ?_;go_wp2_with fail;go_ret;rw [HE.out];refine ⟨?_,TO.out⟩
  (try rw [List.map_replicate])
  rfl
 ·skip
  have hr:0≤xr∧xr<12:=(aT _).1 ((aN HC.out).2.1 (show aJ 6%2=1 by decide));obtain ⟨r,rfl⟩:∃ r:Nat,xr=r:=⟨xr.toNat,by omega⟩;have hr12:r<12:=by omega
  clear hr;have ha:0≤xa∧xa<12:=(aT _).1 ((aN HC.out).2.2.1 (show aJ 6/2%2=1 by decide));obtain ⟨a,rfl⟩:∃ a:Nat,xa=a:=⟨xa.toNat,by omega⟩;have ha12:a<12:=by omega
  clear ha;have hb:0≤xb∧xb<12:=(aT _).1 ((aN HC.out).2.2.2.1 (show aJ 6/4%2=1 by decide));obtain ⟨b,rfl⟩:∃ b:Nat,xb=b:=⟨xb.toNat,by omega⟩;have hb12:b<12:=by omega
  clear hb;have HE:=Hz (show W.do ⟨6,r,a,b,xi,xn⟩=W.aW r 3 ([a,b].map fun (k:Nat)=>(k:Int)) by unfold Wd.do;rw [if_pos HC.out];rfl);have ka:=(Kz w2).alloc (.cells #[.int .i64 a, .int .i64 b] 3);have hbl:ah (w2.alloc (.cells #[.int .i64 a, .int .i64 b] 3)) w2.heap.size [.int .i64 a, .int .i64 b] 3:=ah.newAt _ rfl rfl;have HMK:=Hz (iA r 3 [a,b] (some ⟨w2.heap.size,0,none⟩) 2 (HB2.out.same ka) HT.out hr12 (by intro k hk;simp at hk;omega) (show aQ 3 2=true by decide) ⟨rfl, .inr ⟨_,0,2,_,rfl,hbl,Nat.le_refl _,by unfold maxLen;omega,by simp,rfl⟩⟩);have HKA:=Hz ka;clear ka hbl;go_wp2_with fail;refine HMK.out.mono ?_;rintro e w3 ⟨rfl,ht⟩;have TO:=Hz (aI.aY (K2.out.trans HKA.out) ht);clear ht s0 s1 s2 s3 s4 s5 sl HMK;go_wp2_with fail;go_ret;rw [HE.out];exact ⟨rfl,TO.out⟩
 ·skip
  have hr:0≤xr∧xr<12:=(aT _).1 ((aN HC.out).2.1 (show aJ 7%2=1 by decide));obtain ⟨r,rfl⟩:∃ r:Nat,xr=r:=⟨xr.toNat,by omega⟩;have hr12:r<12:=by omega
  clear hr;have ha:0≤xa∧xa<12:=(aT _).1 ((aN HC.out).2.2.1 (show aJ 7/2%2=1 by decide));obtain ⟨a,rfl⟩:∃ a:Nat,xa=a:=⟨xa.toNat,by omega⟩;have ha12:a<12:=by omega
  clear ha;have hb:0≤xb∧xb<12:=(aT _).1 ((aN HC.out).2.2.2.1 (show aJ 7/4%2=1 by decide));obtain ⟨b,rfl⟩:∃ b:Nat,xb=b:=⟨xb.toNat,by omega⟩;have hb12:b<12:=by omega
  clear hb;have HE:=Hz (show W.do ⟨7,r,a,b,xi,xn⟩=W.aW r 4 ([a,b].map fun (k:Nat)=>(k:Int)) by unfold Wd.do;rw [if_pos HC.out];rfl);have ka:=(Kz w2).alloc (.cells #[.int .i64 a, .int .i64 b] 3);have hbl:ah (w2.alloc (.cells #[.int .i64 a, .int .i64 b] 3)) w2.heap.size [.int .i64 a, .int .i64 b] 3:=ah.newAt _ rfl rfl;have HMK:=Hz (iA r 4 [a,b] (some ⟨w2.heap.size,0,none⟩) 2 (HB2.out.same ka) HT.out hr12 (by intro k hk;simp at hk;omega) (show aQ 4 2=true by decide) ⟨rfl, .inr ⟨_,0,2,_,rfl,hbl,Nat.le_refl _,by unfold maxLen;omega,by simp,rfl⟩⟩);have HKA:=Hz ka;clear ka hbl;go_wp2_with fail;refine HMK.out.mono ?_;rintro e w3 ⟨rfl,ht⟩;have TO:=Hz (aI.aY (K2.out.trans HKA.out) ht);clear ht s0 s1 s2 s3 s4 s5 sl HMK;go_wp2_with fail;go_ret;rw [HE.out];exact ⟨rfl,TO.out⟩
 ·skip
  have hr:0≤xr∧xr<12:=(aT _).1 ((aN HC.out).2.1 (show aJ 8%2=1 by decide));obtain ⟨r,rfl⟩:∃ r:Nat,xr=r:=⟨xr.toNat,by omega⟩;have hr12:r<12:=by omega
  clear hr;have HE:=Hz (show W.do ⟨8,r,xa,xb,xi,xn⟩=W.aW r 5 (([]:List Nat).map fun (k:Nat)=>(k:Int)) by unfold Wd.do;rw [if_pos HC.out];rfl);have HMK:=Hz (iA r 5 [] none 0 HB2.out HT.out hr12 (by intro k hk;cases hk) (show aQ 5 0=true by decide) (Sl.nil _ _ _));go_wp2_with fail;refine HMK.out.mono ?_;rintro e w3 ⟨rfl,ht⟩;have TO:=Hz (aI.aY K2.out ht);clear ht s0 s1 s2 s3 s4 s5 sl HMK;go_wp2_with fail;go_ret;rw [HE.out];exact ⟨rfl,TO.out⟩
 ·skip
  have ha:0≤xa∧xa<12:=(aT _).1 ((aN HC.out).2.2.1 (show aJ 9/2%2=1 by decide));obtain ⟨a,rfl⟩:∃ a:Nat,xa=a:=⟨xa.toNat,by omega⟩;have ha12:a<12:=by omega
  clear ha;have hb:0≤xb∧xb<12:=(aT _).1 ((aN HC.out).2.2.2.1 (show aJ 9/4%2=1 by decide));obtain ⟨b,rfl⟩:∃ b:Nat,xb=b:=⟨xb.toNat,by omega⟩;have hb12:b<12:=by omega
  clear hb;have HE:=Hz (show W.do ⟨9,xr,a,b,xi,xn⟩=W.gP ⟨9,xr,a,b,xi,xn⟩ by unfold Wd.do;rw [if_pos HC.out];rfl);have HCL:=Hz (sw a b xr xi xn HB2.out ha12 hb12);unfold bH at HCL;go_wp2_with (refine fh rfl 98 (.tmp 3) rfl [.int .i64 9, .int .i64 xr, .int .i64 a, .int .i64 b, .int .i64 xi, .int .i64 xn] (by kernel_rfl) sb 0 rfl (aE s0 (aE s1 (aE s2 (aE s3 (aE s4 (aE s5 dw)))))) ?_);refine HCL.out.mono ?_;rintro e w3 ⟨rfl,ht⟩;have TO:=Hz (aI.aY K2.out ht);clear ht s0 s1 s2 s3 s4 s5 sl HCL;go_wp2_with fail;go_ret;rw [HE.out];exact ⟨rfl,TO.out⟩
 ·skip
  have hr:0≤xr∧xr<12:=(aT _).1 ((aN HC.out).2.1 (show aJ 10%2=1 by decide));obtain ⟨r,rfl⟩:∃ r:Nat,xr=r:=⟨xr.toNat,by omega⟩;have hr12:r<12:=by omega
  clear hr;have ha:0≤xa∧xa<12:=(aT _).1 ((aN HC.out).2.2.1 (show aJ 10/2%2=1 by decide));obtain ⟨a,rfl⟩:∃ a:Nat,xa=a:=⟨xa.toNat,by omega⟩;have ha12:a<12:=by omega
  clear ha;have HE:=Hz (show W.do ⟨10,r,a,xb,xi,xn⟩=W.pop ⟨10,r,a,xb,xi,xn⟩ by unfold Wd.do;rw [if_pos HC.out];rfl);have HCL:=Hz (rG r a xb xi xn HB2.out hr12 ha12);unfold bH at HCL;go_wp2_with (refine fh rfl 98 (.tmp 3) rfl [.int .i64 10, .int .i64 r, .int .i64 a, .int .i64 xb, .int .i64 xi, .int .i64 xn] (by kernel_rfl) sb 0 rfl (aE s0 (aE s1 (aE s2 (aE s3 (aE s4 (aE s5 dw)))))) ?_);refine HCL.out.mono ?_;rintro e w3 ⟨rfl,ht⟩;have TO:=Hz (aI.aY K2.out ht);clear ht s0 s1 s2 s3 s4 s5 sl HCL;go_wp2_with fail;go_ret;rw [HE.out];exact ⟨rfl,TO.out⟩
 ·skip
  have hr:0≤xr∧xr<12:=(aT _).1 ((aN HC.out).2.1 (show aJ 11%2=1 by decide));obtain ⟨r,rfl⟩:∃ r:Nat,xr=r:=⟨xr.toNat,by omega⟩;have hr12:r<12:=by omega
  clear hr;have ha:0≤xa∧xa<12:=(aT _).1 ((aN HC.out).2.2.1 (show aJ 11/2%2=1 by decide));obtain ⟨a,rfl⟩:∃ a:Nat,xa=a:=⟨xa.toNat,by omega⟩;have ha12:a<12:=by omega
  clear ha;have HCF:=Hz (mJ a xi ⟨11,r,a,xb,xi,xn⟩ rfl rfl ha12 HB2.out);have HE:=Hz (show W.do ⟨11,r,a,xb,xi,xn⟩=W.get ⟨11,r,a,xb,xi,xn⟩ by unfold Wd.do;rw [if_pos HC.out];rfl);have HFA:=Hz (fun h=>Wd.fK (W:=W) (x:=⟨11,r,a,xb,xi,xn⟩) h);have HEN:=Hz (show W.bm ⟨11,r,a,xb,xi,xn⟩≠0→W.get ⟨11,r,a,xb,xi,xn⟩=(W.bm ⟨11,r,a,xb,xi,xn⟩,W) from fun h=>by unfold Wd.get;rw [if_neg h]);go_wp2_with fail;refine HCF.out.mono ?_;rintro e w3 ⟨⟨p,rfl,hp⟩,hk⟩;have HB3:=Hz (HB2.out.same hk);have K3:=Hz (K2.out.trans hk);have SB3:=Hz (hk.ai SB2.out (fun h=>h));have HPP:=Hz hp;clear hk hp s0 s1 s2 s3 s4 s5 sl HCF;have s0:=SB3.out.cell 0;have s1:=SB3.out.cell 1;have s2:=SB3.out.cell 2;have s3:=SB3.out.cell 3;have s4:=SB3.out.cell 4;have s5:=SB3.out.cell 5;have sl:=SB3.out.lt;simp only [Lz,Ls] at s0 s1 s2 s3 s4 s5;by_cases hf0:¬ W.bm ⟨11,r,a,xb,xi,xn⟩=0
  ·have HEE:=Hz (HE.out.trans (HEN.out hf0));have hd:(W.bm ⟨11,r,a,xb,xi,xn⟩ != 0)=true:=by simpa using hf0
   clear hf0;generalize W.bm ⟨11,r,a,xb,xi,xn⟩=c at *;go_wp2_with fail;go_ret;rw [HEE.out];exact ⟨rfl,aI.same HB0.out K3.out⟩
  have hf0:W.bm ⟨11,r,a,xb,xi,xn⟩=0:=Classical.not_not.1 hf0;have hfa:=HFA.out hf0
  try dsimp only at hfa
  obtain ⟨hta,h5,hi0,hi1⟩:=hfa;have hla:=Wd.bJ HB3.out.ok (k:=(a:Int)) (by omega);obtain ⟨gf,of,fc,efv,rfl⟩:=HPP.out hf0;obtain ⟨g1,o1,nc1,fo1,fc1,-,-,-,-,efv1,hfs⟩:=HB3.out.rowAt hla;rw [efv] at efv1;cases efv1;obtain ⟨i,rfl⟩:=Int.eq_ofNat_of_zero_le hi0;have hil:i<(W.th (W.au a)).fs.length:=by omega
  have HEE:=Hz (show W.do ⟨11,r,a,xb,i,xn⟩=(0,W.aP r ((W.th (W.au a)).fs.getD i (0,0))) by rw [HE.out];unfold Wd.get;rw [if_pos hf0];rfl);have hin:(W.th (W.au a)).fs.getD i (0,0) ∈ (W.th (W.au a)).fs:=by rw [Ld,Le hil];exact List.getElem_mem hil
  have HV:=Hz (HB3.out.ok.tv _ hla _ hin);obtain ⟨_,_,e',hrd,-,-⟩:=hfs.rd;cases e';obtain ⟨gf',of',e',hgf,u0,u1⟩:=hrd.dA i hil;cases e';obtain ⟨gr,orr,rc,erv,hgr,q1,-,-,hrs⟩:=HB3.out.dt hr12;have RS:=Hz hrs;have ERV:=Hz erv;have pl:=HB3.out.hp.lt;have h12:(r:Int)<12:=by omega
  have h12':¬ (12:Int)≤(r:Int):=by omega
  have h12n:¬ (12:Nat)≤r:=by omega
  clear erv hrs;have HE:=HEE;clear hin hil hfs hrd hla h5 hta hi0 hi1 efv HFA HEN HPP HEE;generalize (W.th (W.au a)).fs.getD i (0,0)=v at *;obtain ⟨v1,v2⟩:=v;dsimp only at u0 u1;rw [hf0];simp only [Int.toNat_natCast];clear hf0;go_wp2_with fail;refine aq (.free 0 (.free 1 (.free 2 (.free 4 (.free 6 (.free 7 (.pure 3 (.pure 5 (.pure 8 (.free 9 (.run 10 (.swi [] (.fin))))))))))))) [10] (fun w'=>w'.cell? ⟨h.p,1,none⟩=some (.slice (some ⟨gr,orr,none⟩) 12 rc)∧w'.cell? ⟨sb,1,none⟩=some (.int .i64 r)∧w'.cell? ⟨gf,of+i*2,none⟩=some (.int .i64 v1)∧w'.cell? ⟨gf,of+i*2+1,none⟩=some (.int .i64 v2)) (by kernel_rfl) (by kernel_rfl) ⟨q1,s1,u0,u1⟩ ?_
  iterate 10 ((first | refine ak rfl rfl fun K hK=>?_ | refine aj rfl rfl fun K hK=>?_ | refine aB rfl rfl fun K hK=>?_ | refine aw rfl rfl fun K hK=>?_ | refine aA rfl rfl fun K hK=>?_);go_simp;refine hK _ ?_;clear hK K)
  refine aK rfl rfl rfl (fun K hK=>?_);refine bD 78 (.tmp 136) (.tmp 135) rfl rfl gr orr 12 rc r _ 78 (.int .i64 v1) (.int .i64 v2) rfl rfl (RS.out.ae (Kz _).drew (fun _ _ h=>h)) hr12 (by kernel_rfl) rfl rfl ?_;intro wz hsz hkz hzz;refine hK _ _ ?_;clear hK K;refine aH (fun _=>True) trivial (aD ?_);have T6:=Hz (HB3.out.dv ERV.out hr12 (v:=(v1,v2)) HV.out hsz (((Kz w3).drew.mono (fun _ _ h=>h.elim)).trans hkz));clear hsz hkz hzz q1 s0 s1 s2 s3 s4 s5 sl pl;go_wp2_with fail;go_ret;rw [HE.out];exact ⟨rfl,aI.aY K3.out T6.out⟩
 ·skip
  have ha:0≤xa∧xa<12:=(aT _).1 ((aN HC.out).2.2.1 (show aJ 12/2%2=1 by decide));obtain ⟨a,rfl⟩:∃ a:Nat,xa=a:=⟨xa.toNat,by omega⟩;have ha12:a<12:=by omega
  clear ha;have hb:0≤xb∧xb<12:=(aT _).1 ((aN HC.out).2.2.2.1 (show aJ 12/4%2=1 by decide));obtain ⟨b,rfl⟩:∃ b:Nat,xb=b:=⟨xb.toNat,by omega⟩;have hb12:b<12:=by omega
  clear hb;have HCF:=Hz (mJ a xi ⟨12,xr,a,b,xi,xn⟩ rfl rfl ha12 HB2.out);have HE:=Hz (show W.do ⟨12,xr,a,b,xi,xn⟩=W.set ⟨12,xr,a,b,xi,xn⟩ by unfold Wd.do;rw [if_pos HC.out];rfl);have HFA:=Hz (fun h=>Wd.fK (W:=W) (x:=⟨12,xr,a,b,xi,xn⟩) h);have HEN:=Hz (show W.bm ⟨12,xr,a,b,xi,xn⟩≠0→W.set ⟨12,xr,a,b,xi,xn⟩=(W.bm ⟨12,xr,a,b,xi,xn⟩,W) from fun h=>by unfold Wd.set;rw [if_neg h]);go_wp2_with fail;refine HCF.out.mono ?_;rintro e w3 ⟨⟨p,rfl,hp⟩,hk⟩;have HB3:=Hz (HB2.out.same hk);have K3:=Hz (K2.out.trans hk);have SB3:=Hz (hk.ai SB2.out (fun h=>h));have HPP:=Hz hp;clear hk hp s0 s1 s2 s3 s4 s5 sl HCF;have s0:=SB3.out.cell 0;have s1:=SB3.out.cell 1;have s2:=SB3.out.cell 2;have s3:=SB3.out.cell 3;have s4:=SB3.out.cell 4;have s5:=SB3.out.cell 5;have sl:=SB3.out.lt;simp only [Lz,Ls] at s0 s1 s2 s3 s4 s5;by_cases hf0:¬ W.bm ⟨12,xr,a,b,xi,xn⟩=0
  ·have HEE:=Hz (HE.out.trans (HEN.out hf0));have hd:(W.bm ⟨12,xr,a,b,xi,xn⟩ != 0)=true:=by simpa using hf0
   clear hf0;generalize W.bm ⟨12,xr,a,b,xi,xn⟩=c at *;go_wp2_with fail;go_ret;rw [HEE.out];exact ⟨rfl,aI.same HB0.out K3.out⟩
  have hf0:W.bm ⟨12,xr,a,b,xi,xn⟩=0:=Classical.not_not.1 hf0;have hfa:=HFA.out hf0
  try dsimp only at hfa
  obtain ⟨hta,h5,hi0,hi1⟩:=hfa;have hla:=Wd.bJ HB3.out.ok (k:=(a:Int)) (by omega);obtain ⟨gf,of,fc,efv,rfl⟩:=HPP.out hf0;obtain ⟨g1,o1,nc1,fo1,fc1,-,-,-,-,efv1,hfs⟩:=HB3.out.rowAt hla;rw [efv] at efv1;cases efv1;obtain ⟨i,rfl⟩:=Int.eq_ofNat_of_zero_le hi0;have hil:i<(W.th (W.au a)).fs.length:=by omega
  have HEE:=Hz (show W.do ⟨12,xr,a,b,i,xn⟩=(0,W.cm (W.au a) ((W.th (W.au a)).fs.set i (W.rt b))) by rw [HE.out];unfold Wd.set;rw [if_pos hf0];rfl);have HVB:=Hz (Wd.fT HB3.out.ok (b:Int));have HTV:=Hz (HB3.out.ok.tv _ hla);obtain ⟨gr,orr,rc,-,hgr,q1,rb0,rb1,-⟩:=HB3.out.dt hb12;have pl:=HB3.out.hp.lt;obtain ⟨ti,hti⟩:=Int.eq_ofNat_of_zero_le hla.1;have HFS:=Hz hfs;have HLA:=Hz hla;have HEF:=Hz efv;have HTI:=Hz hti;have HIL:=Hz hil;clear hil hfs hla h5 hta hi0 hi1 efv HFA HEN HPP hti HE;have hbi:(b:Int)<12:=by omega
  rw [hf0];simp only [Int.toNat_natCast];clear hf0;generalize W.rt (b:Int)=v at *;obtain ⟨v1,v2⟩:=v;dsimp only at rb0 rb1;go_wp2_with fail;refine aq (.free 0 (.free 1 (.free 2 (.free 3 (.free 5 (.pure 4 (.pure 6 (.free 7 (.pure 8 (.free 9 (.run 10 (.swi [] (.fin))))))))))))) [10] (fun w'=>w'.cell? ⟨h.p,1,none⟩=some (.slice (some ⟨gr,orr,none⟩) 12 rc)∧w'.cell? ⟨sb,3,none⟩=some (.int .i64 b)∧w'.cell? ⟨gr,orr+b*2,none⟩=some (.int .i64 v1)∧w'.cell? ⟨gr,orr+b*2+1,none⟩=some (.int .i64 v2)) (by kernel_rfl) (by kernel_rfl) ⟨q1,s3,rb0,rb1⟩ ?_
  iterate 10 ((first | refine ak rfl rfl fun K hK=>?_ | refine aj rfl rfl fun K hK=>?_ | refine aB rfl rfl fun K hK=>?_ | refine aw rfl rfl fun K hK=>?_ | refine aA rfl rfl fun K hK=>?_);go_simp;refine hK _ ?_;clear hK K)
  refine aK rfl rfl rfl (fun K hK=>?_);refine bD 78 (.tmp 160) (.tmp 159) rfl rfl gf of (W.th (W.au a)).fs.length fc i _ 78 (.int .i64 v1) (.int .i64 v2) rfl rfl (HFS.out.ae (Kz _).drew (fun _ _ h=>h)) HIL.out (by kernel_rfl) rfl rfl ?_;intro wz hsz hkz hzz;refine hK _ _ ?_;clear hK K;refine aH (fun _=>True) trivial (aD ?_);have T6:=Hz (show aI w3 h wz (W.cm (W.au a) ((W.th (W.au a)).fs.set i (v1,v2))) by
   have hla:=HLA.out;have hef:=HEF.out;have hte:∀ u ∈ (W.th (W.au a)).fs.set i (v1,v2),W.dp u:=fun u hu=>by
    rcases List.mem_or_eq_of_mem_set hu with h1 | h1
    ·exact HTV.out u h1
    ·rw [h1];exact HVB.out
   rw [←gh (W.th (W.au a)).fs i (v1,v2)] at hsz;have hl2:((W.th (W.au a)).fs.set i (v1,v2)).length=(W.th (W.au a)).fs.length:=List.length_set;generalize hth:W.au a=th at *;obtain rfl:th=(ti:Int):=HTI.out;rw [Int.toNat_natCast] at hef
   exact HB3.out.sV hla hl2 hte (g:=gf) (by rw [hef];rfl) (by rw [hef,hl2];exact hsz) (((Kz w3).drew.mono (fun _ _ h=>h.elim)).trans hkz))
  clear hsz hkz hzz q1 s0 s1 s2 s3 s4 s5 sl pl rb0 rb1;go_wp2_with fail;go_ret;rw [HEE.out];exact ⟨rfl,aI.aY K3.out T6.out⟩
 ·skip
  have hr:0≤xr∧xr<12:=(aT _).1 ((aN HC.out).2.1 (show aJ 13%2=1 by decide));obtain ⟨r,rfl⟩:∃ r:Nat,xr=r:=⟨xr.toNat,by omega⟩;have hr12:r<12:=by omega
  clear hr;have ha:0≤xa∧xa<12:=(aT _).1 ((aN HC.out).2.2.1 (show aJ 13/2%2=1 by decide));obtain ⟨a,rfl⟩:∃ a:Nat,xa=a:=⟨xa.toNat,by omega⟩;have ha12:a<12:=by omega
  clear ha;have HE:=Hz (show W.do ⟨13,r,a,xb,xi,xn⟩=W.len ⟨13,r,a,xb,xi,xn⟩ by unfold Wd.do;rw [if_pos HC.out];rfl);have HCL:=Hz (rH r a xb xi xn HB2.out hr12 ha12);unfold bH at HCL;go_wp2_with (refine fh rfl 98 (.tmp 3) rfl [.int .i64 13, .int .i64 r, .int .i64 a, .int .i64 xb, .int .i64 xi, .int .i64 xn] (by kernel_rfl) sb 0 rfl (aE s0 (aE s1 (aE s2 (aE s3 (aE s4 (aE s5 dw)))))) ?_);refine HCL.out.mono ?_;rintro e w3 ⟨rfl,ht⟩;have TO:=Hz (aI.aY K2.out ht);clear ht s0 s1 s2 s3 s4 s5 sl HCL;go_wp2_with fail;go_ret;rw [HE.out];exact ⟨rfl,TO.out⟩
 ·skip
  have hr:0≤xr∧xr<12:=(aT _).1 ((aN HC.out).2.1 (show aJ 14%2=1 by decide));obtain ⟨r,rfl⟩:∃ r:Nat,xr=r:=⟨xr.toNat,by omega⟩;have hr12:r<12:=by omega
  clear hr;have ha:0≤xa∧xa<12:=(aT _).1 ((aN HC.out).2.2.1 (show aJ 14/2%2=1 by decide));obtain ⟨a,rfl⟩:∃ a:Nat,xa=a:=⟨xa.toNat,by omega⟩;have ha12:a<12:=by omega
  clear ha;have hb:0≤xb∧xb<12:=(aT _).1 ((aN HC.out).2.2.2.1 (show aJ 14/4%2=1 by decide));obtain ⟨b,rfl⟩:∃ b:Nat,xb=b:=⟨xb.toNat,by omega⟩;have hb12:b<12:=by omega
  clear hb;have HE:=Hz (show W.do ⟨14,r,a,b,xi,xn⟩=W.same ⟨14,r,a,b,xi,xn⟩ by unfold Wd.do;rw [if_pos HC.out];rfl);have HCL:=Hz (qq r a b xi xn HB2.out hr12 ha12 hb12);unfold bH at HCL;go_wp2_with (refine fh rfl 98 (.tmp 3) rfl [.int .i64 14, .int .i64 r, .int .i64 a, .int .i64 b, .int .i64 xi, .int .i64 xn] (by kernel_rfl) sb 0 rfl (aE s0 (aE s1 (aE s2 (aE s3 (aE s4 (aE s5 dw)))))) ?_);refine HCL.out.mono ?_;rintro e w3 ⟨rfl,ht⟩;have TO:=Hz (aI.aY K2.out ht);clear ht s0 s1 s2 s3 s4 s5 sl HCL;go_wp2_with fail;go_ret;rw [HE.out];exact ⟨rfl,TO.out⟩
 ·have HE:=Hz (show W.do ⟨15,xr,xa,xb,xi,xn⟩=W.cut false by unfold Wd.do;rw [if_pos HC.out];rfl);have HCU:=Hz (mH false HB2.out (by have:=HT.out;omega));go_wp2_with fail;refine HCU.out.mono ?_;rintro e w3 ⟨rfl,ht⟩;have TO:=Hz (aI.aY K2.out ht);clear ht s0 s1 s2 s3 s4 s5 sl HCU;go_wp2_with fail;go_ret;rw [HE.out];exact ⟨rfl,TO.out⟩
 ·have HE:=Hz (show W.do ⟨16,xr,xa,xb,xi,xn⟩=W.cut true by unfold Wd.do;rw [if_pos HC.out];rfl);have HCU:=Hz (mH true HB2.out (by have:=HT.out;omega));go_wp2_with fail;refine HCU.out.mono ?_;rintro e w3 ⟨rfl,ht⟩;have TO:=Hz (aI.aY K2.out ht);clear ht s0 s1 s2 s3 s4 s5 sl HCU;go_wp2_with fail;go_ret;rw [HE.out];exact ⟨rfl,TO.out⟩
end
end
section
open Go.RowKit
section
variable {w w':World} {h:bT} {W:Wd} {q b:Nat}
structure dG (w:World) (q:Nat) (h:bT) (W:Wd) (b:Nat) (wr:World) (rv nv:Value) (F:Nat→Prop) (s:VS) (l:List Vl):Prop where
 V:bW wr q h W b rv nv F s
 K:aa (fun _=>False) w wr
 o1:∀ k,ag nv k→w.heap.size≤k
 o2:∀ k,F k→w.heap.size<k
 L:Sl wr 78 2 rv l.length (aC l)
 o3:∀ k,ag rv k→w.heap.size≤k∧¬ F k
 oq:w.heap.size≤q
 ob:w.heap.size≤b
 B:ah wr w.heap.size [.slice none 0 0, .slice none 0 0] 72
 ol:∀ k,h.Own k→k<w.heap.size
theorem dG.kG {w wr:World} {rv nv:Value} {F:Nat→Prop} {s:VS} {l:List Vl} (I:dG w q h W b wr rv nv F s l) {k:Nat} (hk:ag rv k):¬ fD q b nv k∧¬ h.Own k:=by
 obtain ⟨_,c,hc⟩:=I.L.own hk;exact ⟨I.V.dC hc (by decide) (by decide) (by decide),fun h1=>by have:=I.ol k h1;have:=(I.o3 k hk).1;omega⟩
theorem dG.told {w wr w2:World} {rv nv:Value} {F:Nat→Prop} {s s2:VS} {l:List Vl} (I:dG w q h W b wr rv nv F s l) (t:iT wr q h W b rv nv F s2 w2):∃ nv2 F2,dG w q h W b w2 rv nv2 F2 s2 l:=by
 obtain ⟨nv2,F2,V2,k2,p1,p2⟩:=t;have hz:=I.K.size;refine ⟨nv2,F2,V2,I.K.then k2 (fun j hj=>?_),fun j hj=>?_,fun j hj=>?_,I.L.ae k2 (fun j hj=>(I.kG hj).1),fun j hj=>⟨(I.o3 j hj).1,fun hf=>?_⟩,I.oq,I.ob,k2.ai I.B (I.V.dC I.B (by decide) (by decide) (by decide)),I.ol⟩
 ·rcases hj with rfl | rfl | hj
  ·exact .inr I.oq
  ·exact .inr I.ob
  ·exact .inr (I.o1 j hj)
 ·rcases p1 j hj with h | h
  ·exact I.o1 j h
  ·omega
 ·have hbl:=I.B.lt;rcases p2 j hj with h | h
  ·exact I.o2 j h
  ·omega
 ·rcases p2 j hf with h | h
  ·exact (I.o3 j hj).2 h
  ·have:=(I.L.own hj).1;omega
theorem dG.same {w wr w2:World} {rv nv:Value} {F:Nat→Prop} {s:VS} {l:List Vl} (I:dG w q h W b wr rv nv F s l) (k:aa (fun _=>False) wr w2):dG w q h W b w2 rv nv F s l:=
 ⟨I.V.same k,I.K.trans k,I.o1,I.o2,I.L.ae k (fun _ _ h=>h),I.o3,I.oq,I.ob,k.ai I.B (fun h=>h),I.ol⟩
theorem dG.app {w wr wa w2:World} {rv nv v2:Value} {F:Nat→Prop} {s:VS} {l:List Vl} {v:Vl} (I:dG w q h W b wr rv nv F s l) (ka:aa (fun _=>False) wr wa)
  (hs:Sl w2 78 2 v2 (l.length+1) (aC l ++ [.int .i64 v.1, .int .i64 v.2])) (hk:aa (ag rv) wa w2) (ho:∀ k,ag v2 k→ag rv k∨wa.heap.size≤k):dG w q h W b (w2.setCell ⟨q,2,none⟩ v2) v2 nv F s (l ++ [v]):=by
 have k2:=(ka.mono (T:=ag rv) (fun _ _ h=>h.elim)).trans hk;have hz:=ka.size;have hz2:=I.K.size;have nq:∀ {v:Value} {wx:World} {n:Nat} {xs:List Value},Sl wx 78 2 v n xs→ah wx q [.pointer (some ⟨h.p,0,none⟩), .slice (some ⟨b,0,none⟩) W.T.length W.T.length,rv,nv] 164→¬ ag v q:=fun hs hq h=>by
  obtain ⟨_,c,hc⟩:=hs.own h;exact hc.ne hq (by decide) rfl
 have hq2:=k2.ai I.V.hq (nq I.L I.V.hq);have set:=(aa.refl (·=q) w2).setCell (p:=⟨q,2,none⟩) (.inl rfl) v2;have V2:=I.V.ae k2 (fun j hj hl=>(I.kG hl).1 hj) (fun j hj hl=>(I.kG hl).2 hj) (fun j hj hl=>(I.o3 j hl).2 hj);have sq:∀ j,ag v2 j→¬ j=q:=fun j hj e=>nq hs hq2 (e ▸ hj);have B2:=k2.ai I.B (fun hl=>by obtain ⟨_,c,hc⟩:=I.L.own hl;exact hc.ne I.B (by decide) rfl);refine ⟨⟨by simpa using hq2.aF 2 v2,V2.hw.ae set (fun j hj e=>by subst e;exact V2.gE hj (.inl rfl)),V2.hm.ae set (fun e=>V2.hm.ne V2.hq (by decide) e),V2.hn.ae set (fun j hj _ e=>(V2.hF j hj).2 (.inl e)) (fun j hj e=>?_),V2.hl,fun j hj=>⟨?_,(V2.hF j hj).2⟩,V2.hO⟩,
  (I.K.then k2 (fun j hj=>.inr (I.o3 j hj).1)).setCell (p:=⟨q,2,none⟩) (.inr I.oq) _,I.o1,I.o2,?_,fun j hj=>?_,I.oq,I.ob,set.ai B2 (B2.ne hq2 (by decide)),I.ol⟩
 ·obtain ⟨_,c,hc⟩:=V2.hn.own hj;exact hc.ne hq2 (by decide) e
 ·have:=(V2.hF j hj).1;have:=set.size;omega
 ·have e:aC (l ++ [v])=aC l ++ [.int .i64 v.1, .int .i64 v.2]:=by simp [aC]
  rw [e,List.length_append];exact hs.ae set sq
 ·rcases ho j hj with h1 | h1
  ·exact I.o3 j h1
  ·exact ⟨by omega,fun hf=>by have:=(I.V.hF j hf).1;omega⟩
theorem rK (w:World) (H:aG w h W) (hT:W.T.length≤100000) :
  Calls Try.prog 63 #[.pointer (some ⟨h.p,0,none⟩)] w fun e w'=>iq w W.view e w':=by
 have HH:=Hz H;have HT:=Hz hT;obtain ⟨vi,hi,hz0,hz1,hz2⟩:=b7 eT;have Vi:=Hz hi;have Vz0:=Hz hz0;have Vz1:=Hz hz1;have Vz2:=Hz hz2;clear hi hz0 hz1 hz2;obtain ⟨i0,hi,hz0,hz1,hz2⟩:=info_parts iC;have hmk:=fun (wx:World)=>cR (P:=Try.prog) wx 50 3 i0 (.int .i64 0) Try.underlying50 hi hz0 rfl hz1 W.T.length (by rw [hz2];omega) (by omega);clear hi hz0 hz1 hz2 i0;have HOK:=Hz H.ok;have h12:W.roots.length≤12:=by have:=H.ok.hr;omega
 obtain ⟨p0,-⟩:=H.cells;have pl:=H.hp.lt;obtain ⟨tno,tnc,etv⟩:=H.tv;rw [etv] at p0;clear H etv;go_enter Try.func63,Try.ntmps63;go_upto_region 2 with fail
 have k1:=(((Kz w).alloc (.cells #[.slice none 0 0, .slice none 0 0] 72)).alloc (.cells (Array.replicate W.T.length (.int .i64 0)) 3)).alloc (.cells #[.pointer (some ⟨h.p,0,none⟩), .slice (some ⟨w.heap.size+1,0,none⟩) W.T.length W.T.length, .slice none 0 0, .slice none 0 0] 164);have hb:ah (((w.alloc (.cells #[.slice none 0 0, .slice none 0 0] 72)).alloc (.cells (Array.replicate W.T.length (.int .i64 0)) 3)).alloc (.cells #[.pointer (some ⟨h.p,0,none⟩), .slice (some ⟨w.heap.size+1,0,none⟩) W.T.length W.T.length, .slice none 0 0, .slice none 0 0] 164)) w.heap.size [.slice none 0 0, .slice none 0 0] 72:=((ah.newAt _ rfl rfl).alloc _).alloc _;have hsn:fe (((w.alloc (.cells #[.slice none 0 0, .slice none 0 0] 72)).alloc (.cells (Array.replicate W.T.length (.int .i64 0)) 3)).alloc (.cells #[.pointer (some ⟨h.p,0,none⟩), .slice (some ⟨w.heap.size+1,0,none⟩) W.T.length W.T.length, .slice none 0 0, .slice none 0 0] 164)) (w.heap.size+1) W.T.length []:=by
  unfold fe;rw [lB];exact (ah.newAt _ (by simp) (by simp)).alloc _
 have hv:bW (((w.alloc (.cells #[.slice none 0 0, .slice none 0 0] 72)).alloc (.cells (Array.replicate W.T.length (.int .i64 0)) 3)).alloc (.cells #[.pointer (some ⟨h.p,0,none⟩), .slice (some ⟨w.heap.size+1,0,none⟩) W.T.length W.T.length, .slice none 0 0, .slice none 0 0] 164)) (w.heap.size+1+1) h W (w.heap.size+1) (.slice none 0 0) (.slice none 0 0) (fun _=>False) ([],[]):=
  ⟨ah.newAt _ (by simp) rfl,HH.out.ae k1 (fun _ _ h=>h),hsn,bQ.nil _ _,rfl,fun _ h=>h.elim,fun _ h=>h.elim⟩
 have HK1:=Hz k1;have HB:=Hz hb;have HVW:=Hz hv;clear k1 hb hsn hv hmk p0 pl;generalize ((w.alloc (.cells #[.slice none 0 0, .slice none 0 0] 72)).alloc (.cells (Array.replicate W.T.length (.int .i64 0)) 3)).alloc (.cells #[.pointer (some ⟨h.p,0,none⟩), .slice (some ⟨w.heap.size+1,0,none⟩) W.T.length W.T.length, .slice none 0 0, .slice none 0 0] 164)=w1 at *;obtain ⟨-,p1,-⟩:=HVW.out.hw.cells;have pl:=HVW.out.hw.hp.lt;obtain ⟨ro,rc,erv,-,-,-⟩:=HH.out.hr.rd;rw [erv] at p1;have HRV:=Hz erv;clear erv;go_wp2_with fail;have HI0:=Hz (show dG w (w.heap.size+1+1) h W (w.heap.size+1) w1 (.slice none 0 0) (.slice none 0 0) (fun _=>False) (TR W 0).2 (TR W 0).1 from
  ⟨HVW.out,HK1.out,fun _ h=>(cF h).elim,fun _ h=>h.elim,Sl.nil _ _ _,fun _ h=>(cF h).elim,by omega,by omega,HB.out,fun k hk=>HH.out.dE hk⟩)
 clear HVW HB HK1 p1 pl;go_loopw [21] (fun i wr=>∃ (k:Nat) (rv nv:Value) (F:Nat→Prop),k≤W.roots.length∧i=.int .i64 k∧dG w (w.heap.size+1+1) h W (w.heap.size+1) wr rv nv F (TR W k).2 (TR W k).1) (fun i _=>W.roots.length-(intOf i).toNat)
 case atStart=>exact ⟨0,_,_,_,Nat.zero_le _,rfl,HI0.out⟩
 case round=>
  clear HI0;obtain ⟨k,rv,nv,F,hk,rfl,hI⟩:=hrel;have HI:=Hz hI;have hkl:=rX (W:=W) (k:=k) hk;have HKL:=Hz hkl;by_cases hlt:k<W.roots.length
  ·have HST:=Hz (rf (W:=W) (k:=k) hlt);have hm:W.roots.getD k (0,0) ∈ W.roots:=by rw [Ld,Le hlt];exact List.getElem_mem _
   have HLU:=Hz (fun h3=>Wd.bp (HOK.out.rv _ hm) h3);have hrr:Rd wr ro (aC W.roots):=by
    have:=hI.V.hw.hr;rw [HRV.out] at this;obtain ⟨_,_,e',rd,-,-⟩:=this.rd;cases e';exact rd
   obtain ⟨gg,go,rfl,ggl,u0,u1⟩:=hrr.dA k hlt;clear hI hkl hm hrr;generalize W.roots.getD k (0,0)=y at *;have hki:(k:Int)<W.roots.length:=by omega
   go_upto_region 5 with (refine bd rfl 78 (.tmp 23) rfl (by kernel_rfl) gg (go+k*2) rfl _ _ u0 u1 ?_);have ka:=(Kz wr).alloc (.cells #[.int .i64 y.1, .int .i64 y.2] 78);have BV:=Hz (show ah (wr.alloc (.cells #[.int .i64 y.1, .int .i64 y.2] 78)) wr.heap.size _ 78 from ah.newAt _ rfl rfl);have HIa:=Hz (HI.out.same ka);clear ka u0 u1 ggl HI;generalize wr.alloc (.cells #[.int .i64 y.1, .int .i64 y.2] 78)=wa at *;generalize wr.heap.size=ba at *;have c0:=BV.out.cell 0;have c1:=BV.out.cell 1;have cl:=BV.out.lt;simp only [Lz,Ls] at c0 c1;have HVC:=Hz (qj HT.out 5000 (Nat.le_refl _) y nv F _ _ HIa.out.V HLU.out (qD HOK.out k).1 (qD HOK.out k).2);go_wp2_with (refine bd rfl 78 (.tmp 5) rfl (by kernel_rfl) ba 0 rfl _ _ c0 c1 ?_);refine HVC.out.mono ?_;rintro e w2 ⟨rfl,ht⟩;obtain ⟨nv2,F2,hI2⟩:=HIa.out.told ht;obtain ⟨⟨⟨r1,r2⟩,sr⟩,hr⟩:∃ t,valM W.gr 5000 y (TR W k).2=t:=⟨_,rfl⟩;rw [hr] at hI2 HST ⊢;dsimp only at hI2 HST ⊢;clear hr ht c0 c1 cl HVC BV;go_upto_region 6 with fail;have hka:=(Kz w2).alloc (.cells #[.int .i64 r1, .int .i64 r2] 78);have hI3:=hI2.same hka;have hvb:ah (w2.alloc (.cells #[.int .i64 r1, .int .i64 r2] 78)) w2.heap.size [.int .i64 r1, .int .i64 r2] 78:=ah.newAt _ rfl rfl;have HI3:=Hz hI3;obtain ⟨lo,lc,rfl,-,-,-⟩:=hI3.L.rd;rw [HKL.out] at HI3;have c2:=hI3.V.hq.cell 2;have cl:=hI3.V.hq.lt;have v0:=hvb.cell 0;have v1:=hvb.cell 1;have vl:=hvb.lt;simp only [Lz,Ls] at c2 v0 v1;rw [HKL.out] at c2;have HL3:=Hz (show Sl (w2.alloc (.cells #[.int .i64 r1, .int .i64 r2] 78)) 78 2 (.slice lo k lc) k (aC (TR W k).1) by have:=HI3.out.L;rw [HKL.out] at this;exact this);clear hka hI3 hI2 hvb HIa;generalize w2.alloc (.cells #[.int .i64 r1, .int .i64 r2] 78)=wb at *;generalize w2.heap.size=bv at *;refine aq (.free 0 (.free 1 (.free 2 (.free 3 (.free 4 (.pure 5 (.pure 6 (.run 7 (.run 8 (.swi [12] (.free 9 (.free 10 (.free 11 (.run 12 (.swi [] (.fin)))))))))))))))) [8,9,10,11,12] (fun w'=>w'.cell? ⟨w.heap.size+1+1,2,none⟩=some (.slice lo k lc)∧w'.cell? ⟨bv,0,none⟩=some (.int .i64 r1)∧w'.cell? ⟨bv,1,none⟩=some (.int .i64 r2)) (by kernel_rfl) (by kernel_rfl) ⟨c2,v0,v1⟩ ?_
   iterate 7 ((first | refine ak rfl rfl fun K hK=>?_ | refine aj rfl rfl fun K hK=>?_ | refine aB rfl rfl fun K hK=>?_ | refine aw rfl rfl fun K hK=>?_ | refine aA rfl rfl fun K hK=>?_);go_simp;refine hK _ ?_;clear hK K)
   refine bO rfl rfl (fun K hK=>?_);unfold aM;go_simp;have hkb:aa (fun _=>False) wb ((wb.drew).alloc (.cells #[.int .i64 r1, .int .i64 r2] 78)):=(Kz wb).drew.alloc (.cells #[.int .i64 r1, .int .i64 r2] 78);refine hK _ _ (fun hg=>?_) ?_
   ·refine ⟨?_,?_,?_⟩
    ·exact (World.cell?_of_block (w:=wb) (a:=⟨w.heap.size+1+1,2,none⟩) (hkb.block _ cl (fun h=>h))).trans c2
    ·exact (World.cell?_of_block (w:=wb) (a:=⟨bv,0,none⟩) (hkb.block _ vl (fun h=>h))).trans v0
    ·exact (World.cell?_of_block (w:=wb) (a:=⟨bv,1,none⟩) (hkb.block _ vl (fun h=>h))).trans v1
   clear hK K;refine aK rfl rfl rfl (fun K hK=>?_);refine de (.tmp 33) (.tmp 35) 69 rfl 78 vi (.agg #[.int .i64 0, .int .i64 0]) 2 16 Try.underlying69 Vi.out Vz0.out Vz1.out Vz2.out rfl (by decide) _ k (aC (TR W k).1) rfl (HL3.out.ae hkb (fun _ _ h=>h)) ⟨wb.heap.size,0,none⟩ 1 1 [.int .i64 r1, .int .i64 r2] rfl rfl (bM wb.drew 78 #[.int .i64 r1, .int .i64 r2]) (by intro u hu;simp at hu;rcases hu with rfl | rfl <;> rfl) (by unfold maxLen;omega) (by omega) ?_;intro v3 w3 hs3 hk3 ho3;have HI4:=Hz (HI3.out.app (v:=(r1,r2)) hkb (by rw [HKL.out];exact hs3) hk3 ho3);have hp3:=hk3.ai (hkb.ai HI3.out.V.hq (fun h=>h)) (fun hv=>by obtain ⟨_,c',hc⟩:=(HL3.out.ae hkb (fun _ _ h=>h)).own hv;exact (hkb.ai HI3.out.V.hq (fun h=>h)).ne hc (by decide) rfl);have x0:=hp3.cell 2;have xf:=hp3.free 2;have xl:=hp3.lt;simp only [Lz,Ls] at x0;obtain ⟨lo3,lc3,rfl,-,-,-⟩:=hs3.rd;refine hK _ _ ?_;clear hK K hkb hs3 hk3 ho3 hp3 c2 cl v0 v1 vl;refine aH (fun _=>True) trivial ?_
   iterate 3 ((first | refine ak rfl rfl fun K hK=>?_ | refine aj rfl rfl fun K hK=>?_);go_simp;refine hK _ ?_;clear hK K)
   refine aK rfl rfl rfl (fun K hK=>?_);unfold aM;go_simp;refine hK _ _ ?_;clear hK K;refine aH (fun _=>True) trivial (aD ?_);clear x0 xf xl;go_wp2_with fail;go_roundw
   case rel=>exact ⟨k+1,_,nv2,F2,by omega,by go_num,by rw [HST.out];exact HI4.out⟩
   case measure=>simp [intOf];omega
  ·have hke:k=W.roots.length:=by omega
   subst hke;obtain ⟨lo,lc,rfl,hrr,-,-⟩:=hI.L.rd;obtain ⟨cs,hns,hnr⟩:=hI.V.hn;obtain ⟨no,nc,rfl,-,-,-⟩:=hns.rd;have c2:=hI.V.hq.cell 2;have c3:=hI.V.hq.cell 3;have cl:=hI.V.hq.lt;have b0:=hI.B.cell 0;have b1:=hI.B.cell 1;have bl:=hI.B.lt;have f0:=hI.B.free 0;have f1:=hI.B.free 1;simp only [Lz,Ls] at c2 c3 b0 b1;have HVE:=Hz (show W.view=((TR W W.roots.length).1,(TR W W.roots.length).2.2) by
    unfold Wd.view dZ TR deep
    rw [List.take_of_length_le (Nat.le_refl _)])
   clear hI hrr hns hnr hlt hk hkl;go_wp2_with (refine bd rfl 72 (.tmp 43) rfl (by kernel_rfl) (w.heap.size+1+1) 2 rfl _ _ c2 c3 ?_);have hb3:=(HI.out.B.aF 0 (.slice lo (TR W W.roots.length).1.length lc)).aF 1 (.slice no (TR W W.roots.length).2.2.length nc);have x0:=hb3.cell 0;have x1:=hb3.cell 1;simp only [List.set_cons_zero,List.set_cons_succ,Lz,Ls] at x0 x1;refine bodyPost_ret (v:=.agg #[.slice lo (TR W W.roots.length).1.length lc, .slice no (TR W W.roots.length).2.2.length nc]) (by simp [results,Try.results63,go_sem,x0,x1]) rfl ?_;refine ⟨_,rfl,?_,(HI.out.K.setCell (p:=⟨w.heap.size,0,none⟩) (.inr (Nat.le_refl _)) _).setCell (p:=⟨w.heap.size,1,none⟩) (.inr (Nat.le_refl _)) _⟩;rw [HVE.out];have ke:=((aa.refl (·=w.heap.size) wr).setCell (p:=⟨w.heap.size,0,none⟩) (.inl rfl) (.slice lo (TR W W.roots.length).1.length lc)).setCell (p:=⟨w.heap.size,1,none⟩) (.inl rfl) (.slice no (TR W W.roots.length).2.2.length nc);have nF:∀ j,F j→¬ j=w.heap.size:=fun j hj e=>by
    have:=HI.out.o2 j hj;omega
   refine ⟨lo,lc,no,nc,F,rfl,HI.out.L.ae ke (fun j hj e=>?_),HI.out.V.hn.ae ke (fun j hj _=>nF j hj) (fun j hj e=>?_),fun j hj=>?_⟩
   ·subst e;obtain ⟨_,c,hc⟩:=HI.out.L.own hj;exact hc.ne HI.out.B (by decide) rfl
   ·subst e;obtain ⟨_,c,hc⟩:=HI.out.V.hn.own hj;exact hc.ne HI.out.B (by decide) rfl
   ·have hks:=ke.size;rcases hj with hj | hj | hj
    ·exact ⟨Nat.le_of_lt (HI.out.o2 j hj),by have:=(HI.out.V.hF j hj).1;omega⟩
    ·exact ⟨(HI.out.o3 j hj).1,by have:=(HI.out.L.own hj).1;omega⟩
    ·exact ⟨HI.out.o1 j hj,by have:=(HI.out.V.hn.own hj).1;omega⟩
end
end
end Go.Proofs.Ytjifdalflepcoab
