/-
  Parts of the proof, merged: what the functions do, and plain laws.
-/
import Derived.Test.YtjifdalflepcoacGreatTWRP12
import Derived.Test.YtjifdalflepcoacGreatTWRP13
set_option maxHeartbeats 16000000
set_option maxRecDepth 100000
set_option linter.unusedVariables false
set_option linter.unusedSimpArgs false
namespace Go.Proofs.YtjifdalflepcoacGreat
section
open Go.RowKit
section
variable {w w':World} {h:HH} {O O':Wo} {W:Wd} {φ:Int→Int}
theorem yZ (xk xr xa xb xi xn:Int) (B:a6 w h O) (hbad:¬ bz ⟨xk,xr,xa,xb,xi,xn⟩=0) :
  Calls Tryz.prog 32 #[.pointer (some ⟨h.p,0,none⟩), .agg #[.int .i64 xk, .int .i64 xr, .int .i64 xa, .int .i64 xb, .int .i64 xi, .int .i64 xn]] w (bO w h O ⟨xk,xr,xa,xb,xi,xn⟩):=by
 unfold bO;have HBD:=Hz hbad;clear hbad;have HB0:=Hz B;have ax:aj (w.alloc (.cells #[.int .i64 xk, .int .i64 xr, .int .i64 xa, .int .i64 xb, .int .i64 xi, .int .i64 xn] 69)) w.heap.size [.int .i64 xk, .int .i64 xr, .int .i64 xa, .int .i64 xb, .int .i64 xi, .int .i64 xn] 69:=aj.newAt _ rfl rfl;have ka:=(Kz w).alloc (.cells #[.int .i64 xk, .int .i64 xr, .int .i64 xa, .int .i64 xb, .int .i64 xi, .int .i64 xn] 69);have s0:=ax.cell 0;have s1:=ax.cell 1;have s2:=ax.cell 2;have s3:=ax.cell 3;have s4:=ax.cell 4;have s5:=ax.cell 5;have sl:=ax.lt;simp only [Lz,aC] at s0 s1 s2 s3 s4 s5;have HSF:=Hz (fun w=>dx ⟨xk,xr,xa,xb,xi,xn⟩ w);obtain ⟨c,hc⟩:∃ c,bz ⟨xk,xr,xa,xb,xi,xn⟩=c:=⟨_,rfl⟩;rw [hc] at HSF;have HC:=Hz hc;have HB:=Hz ax;have KA:=Hz ka;clear ax hc ka B;go_enter Tryz.func32,Tryz.ntmps32;go_wp2_with (refine bA rfl 69 (.tmp 3) rfl [.int .i64 xk, .int .i64 xr, .int .i64 xa, .int .i64 xb, .int .i64 xi, .int .i64 xn] (by kernel_rfl) w.heap.size 0 rfl (ae s0 (ae s1 (ae s2 (ae s3 (ae s4 (ae s5 a7)))))) ?_);refine (HSF.out _).mono ?_;rintro e w1 ⟨rfl,hk⟩;have HB1:=Hz ((HB0.out.same KA.out).same hk);have K1:=Hz (KA.out.trans hk);have SB1:=Hz (hk.aq HB.out (fun h=>h));have SFR:=Hz (show ¬ h.Own w.heap.size from fun e=>by have:=HB0.out.a5 e;omega);clear hk s0 s1 s2 s3 s4 s5 sl HSF KA HB;generalize w.heap.size=sb at *;have s0:=SB1.out.cell 0;have s1:=SB1.out.cell 1;have s2:=SB1.out.cell 2;have s3:=SB1.out.cell 3;have s4:=SB1.out.cell 4;have s5:=SB1.out.cell 5;have sl:=SB1.out.lt;simp only [Lz,aC] at s0 s1 s2 s3 s4 s5;by_cases h0:¬ c=0
 ·have HE:=Hz (show O.do ⟨xk,xr,xa,xb,xi,xn⟩=(c,O) by unfold Wo.do;rw [HC.out,if_neg h0]);have hd:(c != 0)=true:=by simpa using h0
  clear h0;go_wp2_with fail;go_ret;exact ⟨by rw [HE.out];rfl,by rw [HE.out];exact aU.same HB0.out K1.out⟩
 have h0:c=0:=Classical.not_not.1 h0;subst h0;exact (HBD.out HC.out).elim
theorem y3 (xr xa xb xi xn:Int) (B:a6 w h O) :
  Calls Tryz.prog 32 #[.pointer (some ⟨h.p,0,none⟩), .agg #[.int .i64 2, .int .i64 xr, .int .i64 xa, .int .i64 xb, .int .i64 xi, .int .i64 xn]] w (bO w h O ⟨2,xr,xa,xb,xi,xn⟩):=by
 unfold bO;have HB0:=Hz B;have ax:aj (w.alloc (.cells #[.int .i64 2, .int .i64 xr, .int .i64 xa, .int .i64 xb, .int .i64 xi, .int .i64 xn] 69)) w.heap.size [.int .i64 2, .int .i64 xr, .int .i64 xa, .int .i64 xb, .int .i64 xi, .int .i64 xn] 69:=aj.newAt _ rfl rfl;have ka:=(Kz w).alloc (.cells #[.int .i64 2, .int .i64 xr, .int .i64 xa, .int .i64 xb, .int .i64 xi, .int .i64 xn] 69);have s0:=ax.cell 0;have s1:=ax.cell 1;have s2:=ax.cell 2;have s3:=ax.cell 3;have s4:=ax.cell 4;have s5:=ax.cell 5;have sl:=ax.lt;simp only [Lz,aC] at s0 s1 s2 s3 s4 s5;have HSF:=Hz (fun w=>dx ⟨2,xr,xa,xb,xi,xn⟩ w);obtain ⟨c,hc⟩:∃ c,bz ⟨2,xr,xa,xb,xi,xn⟩=c:=⟨_,rfl⟩;rw [hc] at HSF;have HC:=Hz hc;have HB:=Hz ax;have KA:=Hz ka;clear ax hc ka B;go_enter Tryz.func32,Tryz.ntmps32;go_wp2_with (refine bA rfl 69 (.tmp 3) rfl [.int .i64 2, .int .i64 xr, .int .i64 xa, .int .i64 xb, .int .i64 xi, .int .i64 xn] (by kernel_rfl) w.heap.size 0 rfl (ae s0 (ae s1 (ae s2 (ae s3 (ae s4 (ae s5 a7)))))) ?_);refine (HSF.out _).mono ?_;rintro e w1 ⟨rfl,hk⟩;have HB1:=Hz ((HB0.out.same KA.out).same hk);have K1:=Hz (KA.out.trans hk);have SB1:=Hz (hk.aq HB.out (fun h=>h));have SFR:=Hz (show ¬ h.Own w.heap.size from fun e=>by have:=HB0.out.a5 e;omega);clear hk s0 s1 s2 s3 s4 s5 sl HSF KA HB;generalize w.heap.size=sb at *;have s0:=SB1.out.cell 0;have s1:=SB1.out.cell 1;have s2:=SB1.out.cell 2;have s3:=SB1.out.cell 3;have s4:=SB1.out.cell 4;have s5:=SB1.out.cell 5;have sl:=SB1.out.lt;simp only [Lz,aC] at s0 s1 s2 s3 s4 s5;by_cases h0:¬ c=0
 ·have HE:=Hz (show O.do ⟨2,xr,xa,xb,xi,xn⟩=(c,O) by unfold Wo.do;rw [HC.out,if_neg h0]);have hd:(c != 0)=true:=by simpa using h0
  clear h0;go_wp2_with fail;go_ret;exact ⟨by rw [HE.out];rfl,by rw [HE.out];exact aU.same HB0.out K1.out⟩
 have h0:c=0:=Classical.not_not.1 h0;subst h0;have hr:0≤xr∧xr<12:=(aJ _).1 ((aD HC.out).2.1 (show aP 2%2=1 by decide));obtain ⟨r,rfl⟩:∃ r:Nat,xr=r:=⟨xr.toNat,by omega⟩;have hr12:r<12:=by omega
 clear hr;have HE:=Hz (show O.do ⟨2,r,xa,xb,xi,xn⟩=O.ig r (2,0) by unfold Wo.do;rw [if_pos HC.out];rfl);go_wp2_with fail;refine a8 (.free 0 (.free 1 (.pure 2 (.run 3 (.run 4 (.swi [] (.free 5 (.fin)))))))) [4,5] (Fa s1) ?_
 iterate 3 refine Wz ?_
 refine aM rfl rfl (fun K hK=>?_);unfold aw;go_simp;refine (vF _).mono ?_;rintro e w7 ⟨rfl,rfl⟩;refine hK _ _ (fun hg=>hg) ?_;clear hK K
 skip
 refine aA rfl rfl rfl (fun K hK=>?_);unfold aw;go_simp;have hk1:=(Kz w1).drew;refine (iD r 2 0 (HB1.out.same hk1) hr12 (by unfold a9;omega)).mono ?_;rintro e w8 ⟨rfl,ht⟩;have TO:=Hz (aU.aK (K1.out.trans hk1) ht.to);refine hK _ _ ?_;clear hK K ht hk1 s0 s1 s2 s3 s4 s5 sl;refine aB (fun _=>True) trivial ?_;refine Wz ?_;refine av ?_;go_wp2_with fail;go_ret;exact ⟨by rw [HE.out];rfl,by rw [HE.out];exact TO.out⟩
theorem xU (xr xa xb xi xn:Int) (B:a6 w h O) :
  Calls Tryz.prog 32 #[.pointer (some ⟨h.p,0,none⟩), .agg #[.int .i64 3, .int .i64 xr, .int .i64 xa, .int .i64 xb, .int .i64 xi, .int .i64 xn]] w (bO w h O ⟨3,xr,xa,xb,xi,xn⟩):=by
 unfold bO;have HB0:=Hz B;have ax:aj (w.alloc (.cells #[.int .i64 3, .int .i64 xr, .int .i64 xa, .int .i64 xb, .int .i64 xi, .int .i64 xn] 69)) w.heap.size [.int .i64 3, .int .i64 xr, .int .i64 xa, .int .i64 xb, .int .i64 xi, .int .i64 xn] 69:=aj.newAt _ rfl rfl;have ka:=(Kz w).alloc (.cells #[.int .i64 3, .int .i64 xr, .int .i64 xa, .int .i64 xb, .int .i64 xi, .int .i64 xn] 69);have s0:=ax.cell 0;have s1:=ax.cell 1;have s2:=ax.cell 2;have s3:=ax.cell 3;have s4:=ax.cell 4;have s5:=ax.cell 5;have sl:=ax.lt;simp only [Lz,aC] at s0 s1 s2 s3 s4 s5;have HSF:=Hz (fun w=>dx ⟨3,xr,xa,xb,xi,xn⟩ w);obtain ⟨c,hc⟩:∃ c,bz ⟨3,xr,xa,xb,xi,xn⟩=c:=⟨_,rfl⟩;rw [hc] at HSF;have HC:=Hz hc;have HB:=Hz ax;have KA:=Hz ka;clear ax hc ka B;go_enter Tryz.func32,Tryz.ntmps32;go_wp2_with (refine bA rfl 69 (.tmp 3) rfl [.int .i64 3, .int .i64 xr, .int .i64 xa, .int .i64 xb, .int .i64 xi, .int .i64 xn] (by kernel_rfl) w.heap.size 0 rfl (ae s0 (ae s1 (ae s2 (ae s3 (ae s4 (ae s5 a7)))))) ?_);refine (HSF.out _).mono ?_;rintro e w1 ⟨rfl,hk⟩;have HB1:=Hz ((HB0.out.same KA.out).same hk);have K1:=Hz (KA.out.trans hk);have SB1:=Hz (hk.aq HB.out (fun h=>h));have SFR:=Hz (show ¬ h.Own w.heap.size from fun e=>by have:=HB0.out.a5 e;omega);clear hk s0 s1 s2 s3 s4 s5 sl HSF KA HB;generalize w.heap.size=sb at *;have s0:=SB1.out.cell 0;have s1:=SB1.out.cell 1;have s2:=SB1.out.cell 2;have s3:=SB1.out.cell 3;have s4:=SB1.out.cell 4;have s5:=SB1.out.cell 5;have sl:=SB1.out.lt;simp only [Lz,aC] at s0 s1 s2 s3 s4 s5;by_cases h0:¬ c=0
 ·have HE:=Hz (show O.do ⟨3,xr,xa,xb,xi,xn⟩=(c,O) by unfold Wo.do;rw [HC.out,if_neg h0]);have hd:(c != 0)=true:=by simpa using h0
  clear h0;go_wp2_with fail;go_ret;exact ⟨by rw [HE.out];rfl,by rw [HE.out];exact aU.same HB0.out K1.out⟩
 have h0:c=0:=Classical.not_not.1 h0;subst h0;have hr:0≤xr∧xr<12:=(aJ _).1 ((aD HC.out).2.1 (show aP 3%2=1 by decide));obtain ⟨r,rfl⟩:∃ r:Nat,xr=r:=⟨xr.toNat,by omega⟩;have hr12:r<12:=by omega
 clear hr;have ha:0≤xa∧xa<12:=(aJ _).1 ((aD HC.out).2.2.1 (show aP 3/2%2=1 by decide));obtain ⟨a,rfl⟩:∃ a:Nat,xa=a:=⟨xa.toNat,by omega⟩;have ha12:a<12:=by omega
 clear ha;have HE:=Hz (show O.do ⟨3,r,a,xb,xi,xn⟩=O.ig r (O.aX a,0) by unfold Wo.do;rw [if_pos HC.out];rfl);obtain ⟨b0,bl⟩:=HB1.out.pc;obtain ⟨g,o,cap,hro,hown,q0,q3,ql,gl,fz,rc⟩:=HB1.out.roots;have ra:=rc a ha12;have ra:w1.cell? ⟨g,o+a,none⟩=some (.int .i64 (O.aX a)):=ra;have ha12i:(a:Int)<12:=by omega
 clear hro hown fz rc;have HVR:=Hz (kO HB1.out.H.ok (a:Int));generalize O.aX (a:Int)=va at *;go_wp2_with fail;refine a8 (.free 0 (.free 1 (.free 3 (.free 4 (.free 5 (.free 10 (.pure 2 (.pure 6 (.free 7 (.free 8 (.pure 9 (.pure 11 (.free 12 (.pure 13 (.run 14 (.swi [] (.free 15 (.fin)))))))))))))))))) [14,15] (Fz b0 (Fz q3 (Fz ra (Fz s1 (Fa s2))))) ?_
 iterate 14 refine Wz ?_
 refine aA rfl rfl rfl (fun K hK=>?_);unfold aw;go_simp;have hk1:=(Kz w1).drew;refine (iD r va 0 (HB1.out.same hk1) hr12 HVR.out).mono ?_;rintro e w8 ⟨rfl,ht⟩;have TO:=Hz (aU.aK (K1.out.trans hk1) ht.to);refine hK _ _ ?_;clear hK K ht hk1 s0 s1 s2 s3 s4 s5 sl b0 bl q0 q3 ql gl ra;refine aB (fun _=>True) trivial ?_;refine Wz ?_;refine av ?_;go_wp2_with fail;go_ret;exact ⟨by rw [HE.out];rfl,by rw [HE.out];exact TO.out⟩
theorem y4 (xr xa xb xi xn:Int) (R:aH O W φ) (B:a6 w h O) :
  Calls Tryz.prog 32 #[.pointer (some ⟨h.p,0,none⟩), .agg #[.int .i64 5, .int .i64 xr, .int .i64 xa, .int .i64 xb, .int .i64 xi, .int .i64 xn]] w (bO w h O ⟨5,xr,xa,xb,xi,xn⟩):=by
 unfold bO;have HRR:=Hz R;clear R;have HB0:=Hz B;have ax:aj (w.alloc (.cells #[.int .i64 5, .int .i64 xr, .int .i64 xa, .int .i64 xb, .int .i64 xi, .int .i64 xn] 69)) w.heap.size [.int .i64 5, .int .i64 xr, .int .i64 xa, .int .i64 xb, .int .i64 xi, .int .i64 xn] 69:=aj.newAt _ rfl rfl;have ka:=(Kz w).alloc (.cells #[.int .i64 5, .int .i64 xr, .int .i64 xa, .int .i64 xb, .int .i64 xi, .int .i64 xn] 69);have s0:=ax.cell 0;have s1:=ax.cell 1;have s2:=ax.cell 2;have s3:=ax.cell 3;have s4:=ax.cell 4;have s5:=ax.cell 5;have sl:=ax.lt;simp only [Lz,aC] at s0 s1 s2 s3 s4 s5;have HSF:=Hz (fun w=>dx ⟨5,xr,xa,xb,xi,xn⟩ w);obtain ⟨c,hc⟩:∃ c,bz ⟨5,xr,xa,xb,xi,xn⟩=c:=⟨_,rfl⟩;rw [hc] at HSF;have HC:=Hz hc;have HB:=Hz ax;have KA:=Hz ka;clear ax hc ka B;go_enter Tryz.func32,Tryz.ntmps32;go_wp2_with (refine bA rfl 69 (.tmp 3) rfl [.int .i64 5, .int .i64 xr, .int .i64 xa, .int .i64 xb, .int .i64 xi, .int .i64 xn] (by kernel_rfl) w.heap.size 0 rfl (ae s0 (ae s1 (ae s2 (ae s3 (ae s4 (ae s5 a7)))))) ?_);refine (HSF.out _).mono ?_;rintro e w1 ⟨rfl,hk⟩;have HB1:=Hz ((HB0.out.same KA.out).same hk);have K1:=Hz (KA.out.trans hk);have SB1:=Hz (hk.aq HB.out (fun h=>h));have SFR:=Hz (show ¬ h.Own w.heap.size from fun e=>by have:=HB0.out.a5 e;omega);clear hk s0 s1 s2 s3 s4 s5 sl HSF KA HB;generalize w.heap.size=sb at *;have s0:=SB1.out.cell 0;have s1:=SB1.out.cell 1;have s2:=SB1.out.cell 2;have s3:=SB1.out.cell 3;have s4:=SB1.out.cell 4;have s5:=SB1.out.cell 5;have sl:=SB1.out.lt;simp only [Lz,aC] at s0 s1 s2 s3 s4 s5;by_cases h0:¬ c=0
 ·have HE:=Hz (show O.do ⟨5,xr,xa,xb,xi,xn⟩=(c,O) by unfold Wo.do;rw [HC.out,if_neg h0]);have hd:(c != 0)=true:=by simpa using h0
  clear h0;go_wp2_with fail;go_ret;exact ⟨by rw [HE.out];rfl,by rw [HE.out];exact aU.same HB0.out K1.out⟩
 have h0:c=0:=Classical.not_not.1 h0;subst h0;have hr:0≤xr∧xr<12:=(aJ _).1 ((aD HC.out).2.1 (show aP 5%2=1 by decide));obtain ⟨r,rfl⟩:∃ r:Nat,xr=r:=⟨xr.toNat,by omega⟩;have hr12:r<12:=by omega
 clear hr;have ha:0≤xa∧xa<12:=(aJ _).1 ((aD HC.out).2.2.1 (show aP 5/2%2=1 by decide));obtain ⟨a,rfl⟩:∃ a:Nat,xa=a:=⟨xa.toNat,by omega⟩;have ha12:a<12:=by omega
 clear ha;have hn:0≤xn∧xn≤12:=(aD HC.out).2.2.2.2.2 rfl;obtain ⟨n,rfl⟩:∃ n:Nat,xn=n:=⟨xn.toNat,by omega⟩;have HE:=Hz (show O.do ⟨5,r,a,xb,xi,n⟩=O.bU r 2 (List.replicate n (a:Int)) by unfold Wo.do;rw [if_pos HC.out];rfl);have HCL:=Hz (xS r a n xb xi HB1.out hr12 ha12 (by omega) (gF.rep HRR.out (by omega)));unfold dy at HCL;clear hn;go_wp2_with (refine bA rfl 69 (.tmp 3) rfl [.int .i64 5, .int .i64 r, .int .i64 a, .int .i64 xb, .int .i64 xi, .int .i64 n] (by kernel_rfl) sb 0 rfl (ae s0 (ae s1 (ae s2 (ae s3 (ae s4 (ae s5 a7)))))) ?_);refine HCL.out.mono ?_;rintro e w3 ⟨rfl,ht⟩;have TO:=Hz (aU.aK K1.out ht);clear ht s0 s1 s2 s3 s4 s5 sl HCL;go_wp2_with fail;go_ret;exact ⟨by rw [HE.out];rfl,by rw [HE.out];exact TO.out⟩
theorem xV (xr xa xb xi xn:Int) (R:aH O W φ) (B:a6 w h O) :
  Calls Tryz.prog 32 #[.pointer (some ⟨h.p,0,none⟩), .agg #[.int .i64 6, .int .i64 xr, .int .i64 xa, .int .i64 xb, .int .i64 xi, .int .i64 xn]] w (bO w h O ⟨6,xr,xa,xb,xi,xn⟩):=by
 unfold bO;have HRM:=Hz (show gF h O 3 from gF.rep R (by omega));clear R;have HB0:=Hz B;have ax:aj (w.alloc (.cells #[.int .i64 6, .int .i64 xr, .int .i64 xa, .int .i64 xb, .int .i64 xi, .int .i64 xn] 69)) w.heap.size [.int .i64 6, .int .i64 xr, .int .i64 xa, .int .i64 xb, .int .i64 xi, .int .i64 xn] 69:=aj.newAt _ rfl rfl;have ka:=(Kz w).alloc (.cells #[.int .i64 6, .int .i64 xr, .int .i64 xa, .int .i64 xb, .int .i64 xi, .int .i64 xn] 69);have s0:=ax.cell 0;have s1:=ax.cell 1;have s2:=ax.cell 2;have s3:=ax.cell 3;have s4:=ax.cell 4;have s5:=ax.cell 5;have sl:=ax.lt;simp only [Lz,aC] at s0 s1 s2 s3 s4 s5;have HSF:=Hz (fun w=>dx ⟨6,xr,xa,xb,xi,xn⟩ w);obtain ⟨c,hc⟩:∃ c,bz ⟨6,xr,xa,xb,xi,xn⟩=c:=⟨_,rfl⟩;rw [hc] at HSF;have HC:=Hz hc;have HB:=Hz ax;have KA:=Hz ka;clear ax hc ka B;go_enter Tryz.func32,Tryz.ntmps32;go_wp2_with (refine bA rfl 69 (.tmp 3) rfl [.int .i64 6, .int .i64 xr, .int .i64 xa, .int .i64 xb, .int .i64 xi, .int .i64 xn] (by kernel_rfl) w.heap.size 0 rfl (ae s0 (ae s1 (ae s2 (ae s3 (ae s4 (ae s5 a7)))))) ?_);refine (HSF.out _).mono ?_;rintro e w1 ⟨rfl,hk⟩;have HB1:=Hz ((HB0.out.same KA.out).same hk);have K1:=Hz (KA.out.trans hk);have SB1:=Hz (hk.aq HB.out (fun h=>h));have SFR:=Hz (show ¬ h.Own w.heap.size from fun e=>by have:=HB0.out.a5 e;omega);clear hk s0 s1 s2 s3 s4 s5 sl HSF KA HB;generalize w.heap.size=sb at *;have s0:=SB1.out.cell 0;have s1:=SB1.out.cell 1;have s2:=SB1.out.cell 2;have s3:=SB1.out.cell 3;have s4:=SB1.out.cell 4;have s5:=SB1.out.cell 5;have sl:=SB1.out.lt;simp only [Lz,aC] at s0 s1 s2 s3 s4 s5;by_cases h0:¬ c=0
 ·have HE:=Hz (show O.do ⟨6,xr,xa,xb,xi,xn⟩=(c,O) by unfold Wo.do;rw [HC.out,if_neg h0]);have hd:(c != 0)=true:=by simpa using h0
  clear h0;go_wp2_with fail;go_ret;exact ⟨by rw [HE.out];rfl,by rw [HE.out];exact aU.same HB0.out K1.out⟩
 have h0:c=0:=Classical.not_not.1 h0;subst h0;have hr:0≤xr∧xr<12:=(aJ _).1 ((aD HC.out).2.1 (show aP 6%2=1 by decide));obtain ⟨r,rfl⟩:∃ r:Nat,xr=r:=⟨xr.toNat,by omega⟩;have hr12:r<12:=by omega
 clear hr;have ha:0≤xa∧xa<12:=(aJ _).1 ((aD HC.out).2.2.1 (show aP 6/2%2=1 by decide));obtain ⟨a,rfl⟩:∃ a:Nat,xa=a:=⟨xa.toNat,by omega⟩;have ha12:a<12:=by omega
 clear ha;have hb:0≤xb∧xb<12:=(aJ _).1 ((aD HC.out).2.2.2.1 (show aP 6/4%2=1 by decide));obtain ⟨b,rfl⟩:∃ b:Nat,xb=b:=⟨xb.toNat,by omega⟩;have hb12:b<12:=by omega
 clear hb;have HE:=Hz (show O.do ⟨6,r,a,b,xi,xn⟩=O.bU r 3 ([a,b].map fun (k:Nat)=>(k:Int)) by unfold Wo.do;rw [if_pos HC.out];rfl);have ka:=(Kz w1).alloc (.cells #[.int .i64 a, .int .i64 b] 3);have hbl:aj (w1.alloc (.cells #[.int .i64 a, .int .i64 b] 3)) w1.heap.size [.int .i64 a, .int .i64 b] 3:=aj.newAt _ rfl rfl;have hmk:=ml r 3 [a,b] (some ⟨w1.heap.size,0,none⟩) 2 (HB1.out.same ka) hr12 (by intro k hk;simp at hk;omega) (show bm 3 2=true by decide) (Rd.aq hbl 0 _ rfl) (fun ad e hb hn=>by cases e;have:=HB1.out.a5 hn;simp at this) (HRM.out.1 _ (HB1.out.same ka)) HRM.out.2;have HMK:=Hz hmk;have HKA:=Hz ka;clear ka hbl hmk;go_wp2_with fail;refine HMK.out.mono ?_;rintro e w3 ⟨rfl,ht⟩;have TO:=Hz (aU.aK (K1.out.trans HKA.out) ht);clear ht s0 s1 s2 s3 s4 s5 sl;go_wp2_with fail;go_ret;exact ⟨by rw [HE.out];rfl,by rw [HE.out];exact TO.out⟩
theorem wC (xr xa xb xi xn:Int) (R:aH O W φ) (B:a6 w h O) :
  Calls Tryz.prog 32 #[.pointer (some ⟨h.p,0,none⟩), .agg #[.int .i64 7, .int .i64 xr, .int .i64 xa, .int .i64 xb, .int .i64 xi, .int .i64 xn]] w (bO w h O ⟨7,xr,xa,xb,xi,xn⟩):=by
 unfold bO;have HRM:=Hz (show gF h O 3 from gF.rep R (by omega));clear R;have HB0:=Hz B;have ax:aj (w.alloc (.cells #[.int .i64 7, .int .i64 xr, .int .i64 xa, .int .i64 xb, .int .i64 xi, .int .i64 xn] 69)) w.heap.size [.int .i64 7, .int .i64 xr, .int .i64 xa, .int .i64 xb, .int .i64 xi, .int .i64 xn] 69:=aj.newAt _ rfl rfl;have ka:=(Kz w).alloc (.cells #[.int .i64 7, .int .i64 xr, .int .i64 xa, .int .i64 xb, .int .i64 xi, .int .i64 xn] 69);have s0:=ax.cell 0;have s1:=ax.cell 1;have s2:=ax.cell 2;have s3:=ax.cell 3;have s4:=ax.cell 4;have s5:=ax.cell 5;have sl:=ax.lt;simp only [Lz,aC] at s0 s1 s2 s3 s4 s5;have HSF:=Hz (fun w=>dx ⟨7,xr,xa,xb,xi,xn⟩ w);obtain ⟨c,hc⟩:∃ c,bz ⟨7,xr,xa,xb,xi,xn⟩=c:=⟨_,rfl⟩;rw [hc] at HSF;have HC:=Hz hc;have HB:=Hz ax;have KA:=Hz ka;clear ax hc ka B;go_enter Tryz.func32,Tryz.ntmps32;go_wp2_with (refine bA rfl 69 (.tmp 3) rfl [.int .i64 7, .int .i64 xr, .int .i64 xa, .int .i64 xb, .int .i64 xi, .int .i64 xn] (by kernel_rfl) w.heap.size 0 rfl (ae s0 (ae s1 (ae s2 (ae s3 (ae s4 (ae s5 a7)))))) ?_);refine (HSF.out _).mono ?_;rintro e w1 ⟨rfl,hk⟩;have HB1:=Hz ((HB0.out.same KA.out).same hk);have K1:=Hz (KA.out.trans hk);have SB1:=Hz (hk.aq HB.out (fun h=>h));have SFR:=Hz (show ¬ h.Own w.heap.size from fun e=>by have:=HB0.out.a5 e;omega);clear hk s0 s1 s2 s3 s4 s5 sl HSF KA HB;generalize w.heap.size=sb at *;have s0:=SB1.out.cell 0;have s1:=SB1.out.cell 1;have s2:=SB1.out.cell 2;have s3:=SB1.out.cell 3;have s4:=SB1.out.cell 4;have s5:=SB1.out.cell 5;have sl:=SB1.out.lt;simp only [Lz,aC] at s0 s1 s2 s3 s4 s5;by_cases h0:¬ c=0
 ·have HE:=Hz (show O.do ⟨7,xr,xa,xb,xi,xn⟩=(c,O) by unfold Wo.do;rw [HC.out,if_neg h0]);have hd:(c != 0)=true:=by simpa using h0
  clear h0;go_wp2_with fail;go_ret;exact ⟨by rw [HE.out];rfl,by rw [HE.out];exact aU.same HB0.out K1.out⟩
 have h0:c=0:=Classical.not_not.1 h0;subst h0;have hr:0≤xr∧xr<12:=(aJ _).1 ((aD HC.out).2.1 (show aP 7%2=1 by decide));obtain ⟨r,rfl⟩:∃ r:Nat,xr=r:=⟨xr.toNat,by omega⟩;have hr12:r<12:=by omega
 clear hr;have ha:0≤xa∧xa<12:=(aJ _).1 ((aD HC.out).2.2.1 (show aP 7/2%2=1 by decide));obtain ⟨a,rfl⟩:∃ a:Nat,xa=a:=⟨xa.toNat,by omega⟩;have ha12:a<12:=by omega
 clear ha;have hb:0≤xb∧xb<12:=(aJ _).1 ((aD HC.out).2.2.2.1 (show aP 7/4%2=1 by decide));obtain ⟨b,rfl⟩:∃ b:Nat,xb=b:=⟨xb.toNat,by omega⟩;have hb12:b<12:=by omega
 clear hb;have HE:=Hz (show O.do ⟨7,r,a,b,xi,xn⟩=O.bU r 4 ([a,b].map fun (k:Nat)=>(k:Int)) by unfold Wo.do;rw [if_pos HC.out];rfl);have ka:=(Kz w1).alloc (.cells #[.int .i64 a, .int .i64 b] 3);have hbl:aj (w1.alloc (.cells #[.int .i64 a, .int .i64 b] 3)) w1.heap.size [.int .i64 a, .int .i64 b] 3:=aj.newAt _ rfl rfl;have hmk:=ml r 4 [a,b] (some ⟨w1.heap.size,0,none⟩) 2 (HB1.out.same ka) hr12 (by intro k hk;simp at hk;omega) (show bm 4 2=true by decide) (Rd.aq hbl 0 _ rfl) (fun ad e hb hn=>by cases e;have:=HB1.out.a5 hn;simp at this) (HRM.out.1 _ (HB1.out.same ka)) HRM.out.2;have HMK:=Hz hmk;have HKA:=Hz ka;clear ka hbl hmk;go_wp2_with fail;refine HMK.out.mono ?_;rintro e w3 ⟨rfl,ht⟩;have TO:=Hz (aU.aK (K1.out.trans HKA.out) ht);clear ht s0 s1 s2 s3 s4 s5 sl;go_wp2_with fail;go_ret;exact ⟨by rw [HE.out];rfl,by rw [HE.out];exact TO.out⟩
theorem wD (xr xa xb xi xn:Int) (R:aH O W φ) (B:a6 w h O) :
  Calls Tryz.prog 32 #[.pointer (some ⟨h.p,0,none⟩), .agg #[.int .i64 8, .int .i64 xr, .int .i64 xa, .int .i64 xb, .int .i64 xi, .int .i64 xn]] w (bO w h O ⟨8,xr,xa,xb,xi,xn⟩):=by
 unfold bO;have HRM:=Hz (show gF h O 1 from gF.rep R (by omega));clear R;have HB0:=Hz B;have ax:aj (w.alloc (.cells #[.int .i64 8, .int .i64 xr, .int .i64 xa, .int .i64 xb, .int .i64 xi, .int .i64 xn] 69)) w.heap.size [.int .i64 8, .int .i64 xr, .int .i64 xa, .int .i64 xb, .int .i64 xi, .int .i64 xn] 69:=aj.newAt _ rfl rfl;have ka:=(Kz w).alloc (.cells #[.int .i64 8, .int .i64 xr, .int .i64 xa, .int .i64 xb, .int .i64 xi, .int .i64 xn] 69);have s0:=ax.cell 0;have s1:=ax.cell 1;have s2:=ax.cell 2;have s3:=ax.cell 3;have s4:=ax.cell 4;have s5:=ax.cell 5;have sl:=ax.lt;simp only [Lz,aC] at s0 s1 s2 s3 s4 s5;have HSF:=Hz (fun w=>dx ⟨8,xr,xa,xb,xi,xn⟩ w);obtain ⟨c,hc⟩:∃ c,bz ⟨8,xr,xa,xb,xi,xn⟩=c:=⟨_,rfl⟩;rw [hc] at HSF;have HC:=Hz hc;have HB:=Hz ax;have KA:=Hz ka;clear ax hc ka B;go_enter Tryz.func32,Tryz.ntmps32;go_wp2_with (refine bA rfl 69 (.tmp 3) rfl [.int .i64 8, .int .i64 xr, .int .i64 xa, .int .i64 xb, .int .i64 xi, .int .i64 xn] (by kernel_rfl) w.heap.size 0 rfl (ae s0 (ae s1 (ae s2 (ae s3 (ae s4 (ae s5 a7)))))) ?_);refine (HSF.out _).mono ?_;rintro e w1 ⟨rfl,hk⟩;have HB1:=Hz ((HB0.out.same KA.out).same hk);have K1:=Hz (KA.out.trans hk);have SB1:=Hz (hk.aq HB.out (fun h=>h));have SFR:=Hz (show ¬ h.Own w.heap.size from fun e=>by have:=HB0.out.a5 e;omega);clear hk s0 s1 s2 s3 s4 s5 sl HSF KA HB;generalize w.heap.size=sb at *;have s0:=SB1.out.cell 0;have s1:=SB1.out.cell 1;have s2:=SB1.out.cell 2;have s3:=SB1.out.cell 3;have s4:=SB1.out.cell 4;have s5:=SB1.out.cell 5;have sl:=SB1.out.lt;simp only [Lz,aC] at s0 s1 s2 s3 s4 s5;by_cases h0:¬ c=0
 ·have HE:=Hz (show O.do ⟨8,xr,xa,xb,xi,xn⟩=(c,O) by unfold Wo.do;rw [HC.out,if_neg h0]);have hd:(c != 0)=true:=by simpa using h0
  clear h0;go_wp2_with fail;go_ret;exact ⟨by rw [HE.out];rfl,by rw [HE.out];exact aU.same HB0.out K1.out⟩
 have h0:c=0:=Classical.not_not.1 h0;subst h0;have hr:0≤xr∧xr<12:=(aJ _).1 ((aD HC.out).2.1 (show aP 8%2=1 by decide));obtain ⟨r,rfl⟩:∃ r:Nat,xr=r:=⟨xr.toNat,by omega⟩;have hr12:r<12:=by omega
 clear hr;have HE:=Hz (show O.do ⟨8,r,xa,xb,xi,xn⟩=O.bU r 5 (([]:List Nat).map fun (k:Nat)=>(k:Int)) by unfold Wo.do;rw [if_pos HC.out];rfl);have HMK:=Hz (ml r 5 [] none 0 HB1.out hr12 (by intro k hk;cases hk) (show bm 5 0=true by decide) (Rd.nil _ _) (fun ad e hb hn=>by cases e) (HRM.out.1 _ HB1.out) HRM.out.2);go_wp2_with fail;refine HMK.out.mono ?_;rintro e w3 ⟨rfl,ht⟩;have TO:=Hz (aU.aK K1.out ht);clear ht s0 s1 s2 s3 s4 s5 sl;go_wp2_with fail;go_ret;exact ⟨by rw [HE.out];rfl,by rw [HE.out];exact TO.out⟩
theorem y5 (xr xa xb xi xn:Int) (B:a6 w h O) :
  Calls Tryz.prog 32 #[.pointer (some ⟨h.p,0,none⟩), .agg #[.int .i64 9, .int .i64 xr, .int .i64 xa, .int .i64 xb, .int .i64 xi, .int .i64 xn]] w (bO w h O ⟨9,xr,xa,xb,xi,xn⟩):=by
 unfold bO;have HB0:=Hz B;have ax:aj (w.alloc (.cells #[.int .i64 9, .int .i64 xr, .int .i64 xa, .int .i64 xb, .int .i64 xi, .int .i64 xn] 69)) w.heap.size [.int .i64 9, .int .i64 xr, .int .i64 xa, .int .i64 xb, .int .i64 xi, .int .i64 xn] 69:=aj.newAt _ rfl rfl;have ka:=(Kz w).alloc (.cells #[.int .i64 9, .int .i64 xr, .int .i64 xa, .int .i64 xb, .int .i64 xi, .int .i64 xn] 69);have s0:=ax.cell 0;have s1:=ax.cell 1;have s2:=ax.cell 2;have s3:=ax.cell 3;have s4:=ax.cell 4;have s5:=ax.cell 5;have sl:=ax.lt;simp only [Lz,aC] at s0 s1 s2 s3 s4 s5;have HSF:=Hz (fun w=>dx ⟨9,xr,xa,xb,xi,xn⟩ w);obtain ⟨c,hc⟩:∃ c,bz ⟨9,xr,xa,xb,xi,xn⟩=c:=⟨_,rfl⟩;rw [hc] at HSF;have HC:=Hz hc;have HB:=Hz ax;have KA:=Hz ka;clear ax hc ka B;go_enter Tryz.func32,Tryz.ntmps32;go_wp2_with (refine bA rfl 69 (.tmp 3) rfl [.int .i64 9, .int .i64 xr, .int .i64 xa, .int .i64 xb, .int .i64 xi, .int .i64 xn] (by kernel_rfl) w.heap.size 0 rfl (ae s0 (ae s1 (ae s2 (ae s3 (ae s4 (ae s5 a7)))))) ?_);refine (HSF.out _).mono ?_;rintro e w1 ⟨rfl,hk⟩;have HB1:=Hz ((HB0.out.same KA.out).same hk);have K1:=Hz (KA.out.trans hk);have SB1:=Hz (hk.aq HB.out (fun h=>h));have SFR:=Hz (show ¬ h.Own w.heap.size from fun e=>by have:=HB0.out.a5 e;omega);clear hk s0 s1 s2 s3 s4 s5 sl HSF KA HB;generalize w.heap.size=sb at *;have s0:=SB1.out.cell 0;have s1:=SB1.out.cell 1;have s2:=SB1.out.cell 2;have s3:=SB1.out.cell 3;have s4:=SB1.out.cell 4;have s5:=SB1.out.cell 5;have sl:=SB1.out.lt;simp only [Lz,aC] at s0 s1 s2 s3 s4 s5;by_cases h0:¬ c=0
 ·have HE:=Hz (show O.do ⟨9,xr,xa,xb,xi,xn⟩=(c,O) by unfold Wo.do;rw [HC.out,if_neg h0]);have hd:(c != 0)=true:=by simpa using h0
  clear h0;go_wp2_with fail;go_ret;exact ⟨by rw [HE.out];rfl,by rw [HE.out];exact aU.same HB0.out K1.out⟩
 have h0:c=0:=Classical.not_not.1 h0;subst h0;have ha:0≤xa∧xa<12:=(aJ _).1 ((aD HC.out).2.2.1 (show aP 9/2%2=1 by decide));obtain ⟨a,rfl⟩:∃ a:Nat,xa=a:=⟨xa.toNat,by omega⟩;have ha12:a<12:=by omega
 clear ha;have hb:0≤xb∧xb<12:=(aJ _).1 ((aD HC.out).2.2.2.1 (show aP 9/4%2=1 by decide));obtain ⟨b,rfl⟩:∃ b:Nat,xb=b:=⟨xb.toNat,by omega⟩;have hb12:b<12:=by omega
 clear hb;have HE:=Hz (show O.do ⟨9,xr,a,b,xi,xn⟩=O.fT a b by unfold Wo.do;rw [if_pos HC.out];rfl);have HCL:=Hz (BO a b xr xi xn HB1.out ha12 hb12);unfold dy at HCL;go_wp2_with (refine bA rfl 69 (.tmp 3) rfl [.int .i64 9, .int .i64 xr, .int .i64 a, .int .i64 b, .int .i64 xi, .int .i64 xn] (by kernel_rfl) sb 0 rfl (ae s0 (ae s1 (ae s2 (ae s3 (ae s4 (ae s5 a7)))))) ?_);refine HCL.out.mono ?_;rintro e w3 ⟨rfl,ht⟩;have TO:=Hz (aU.aK K1.out ht);clear ht s0 s1 s2 s3 s4 s5 sl HCL;go_wp2_with fail;go_ret;exact ⟨by rw [HE.out];rfl,by rw [HE.out];exact TO.out⟩
theorem y6 (xr xa xb xi xn:Int) (B:a6 w h O) :
  Calls Tryz.prog 32 #[.pointer (some ⟨h.p,0,none⟩), .agg #[.int .i64 10, .int .i64 xr, .int .i64 xa, .int .i64 xb, .int .i64 xi, .int .i64 xn]] w (bO w h O ⟨10,xr,xa,xb,xi,xn⟩):=by
 unfold bO;have HB0:=Hz B;have ax:aj (w.alloc (.cells #[.int .i64 10, .int .i64 xr, .int .i64 xa, .int .i64 xb, .int .i64 xi, .int .i64 xn] 69)) w.heap.size [.int .i64 10, .int .i64 xr, .int .i64 xa, .int .i64 xb, .int .i64 xi, .int .i64 xn] 69:=aj.newAt _ rfl rfl;have ka:=(Kz w).alloc (.cells #[.int .i64 10, .int .i64 xr, .int .i64 xa, .int .i64 xb, .int .i64 xi, .int .i64 xn] 69);have s0:=ax.cell 0;have s1:=ax.cell 1;have s2:=ax.cell 2;have s3:=ax.cell 3;have s4:=ax.cell 4;have s5:=ax.cell 5;have sl:=ax.lt;simp only [Lz,aC] at s0 s1 s2 s3 s4 s5;have HSF:=Hz (fun w=>dx ⟨10,xr,xa,xb,xi,xn⟩ w);obtain ⟨c,hc⟩:∃ c,bz ⟨10,xr,xa,xb,xi,xn⟩=c:=⟨_,rfl⟩;rw [hc] at HSF;have HC:=Hz hc;have HB:=Hz ax;have KA:=Hz ka;clear ax hc ka B;go_enter Tryz.func32,Tryz.ntmps32;go_wp2_with (refine bA rfl 69 (.tmp 3) rfl [.int .i64 10, .int .i64 xr, .int .i64 xa, .int .i64 xb, .int .i64 xi, .int .i64 xn] (by kernel_rfl) w.heap.size 0 rfl (ae s0 (ae s1 (ae s2 (ae s3 (ae s4 (ae s5 a7)))))) ?_);refine (HSF.out _).mono ?_;rintro e w1 ⟨rfl,hk⟩;have HB1:=Hz ((HB0.out.same KA.out).same hk);have K1:=Hz (KA.out.trans hk);have SB1:=Hz (hk.aq HB.out (fun h=>h));have SFR:=Hz (show ¬ h.Own w.heap.size from fun e=>by have:=HB0.out.a5 e;omega);clear hk s0 s1 s2 s3 s4 s5 sl HSF KA HB;generalize w.heap.size=sb at *;have s0:=SB1.out.cell 0;have s1:=SB1.out.cell 1;have s2:=SB1.out.cell 2;have s3:=SB1.out.cell 3;have s4:=SB1.out.cell 4;have s5:=SB1.out.cell 5;have sl:=SB1.out.lt;simp only [Lz,aC] at s0 s1 s2 s3 s4 s5;by_cases h0:¬ c=0
 ·have HE:=Hz (show O.do ⟨10,xr,xa,xb,xi,xn⟩=(c,O) by unfold Wo.do;rw [HC.out,if_neg h0]);have hd:(c != 0)=true:=by simpa using h0
  clear h0;go_wp2_with fail;go_ret;exact ⟨by rw [HE.out];rfl,by rw [HE.out];exact aU.same HB0.out K1.out⟩
 have h0:c=0:=Classical.not_not.1 h0;subst h0;have hr:0≤xr∧xr<12:=(aJ _).1 ((aD HC.out).2.1 (show aP 10%2=1 by decide));obtain ⟨r,rfl⟩:∃ r:Nat,xr=r:=⟨xr.toNat,by omega⟩;have hr12:r<12:=by omega
 clear hr;have ha:0≤xa∧xa<12:=(aJ _).1 ((aD HC.out).2.2.1 (show aP 10/2%2=1 by decide));obtain ⟨a,rfl⟩:∃ a:Nat,xa=a:=⟨xa.toNat,by omega⟩;have ha12:a<12:=by omega
 clear ha;have HE:=Hz (show O.do ⟨10,r,a,xb,xi,xn⟩=O.pop r a by unfold Wo.do;rw [if_pos HC.out];rfl);have HCL:=Hz (BP r a xb xi xn HB1.out hr12 ha12);unfold dy at HCL;go_wp2_with (refine bA rfl 69 (.tmp 3) rfl [.int .i64 10, .int .i64 r, .int .i64 a, .int .i64 xb, .int .i64 xi, .int .i64 xn] (by kernel_rfl) sb 0 rfl (ae s0 (ae s1 (ae s2 (ae s3 (ae s4 (ae s5 a7)))))) ?_);refine HCL.out.mono ?_;rintro e w3 ⟨rfl,ht⟩;have TO:=Hz (aU.aK K1.out ht);clear ht s0 s1 s2 s3 s4 s5 sl HCL;go_wp2_with fail;go_ret;exact ⟨by rw [HE.out];rfl,by rw [HE.out];exact TO.out⟩
theorem y7 (xr xa xb xi xn:Int) (B:a6 w h O) :
  Calls Tryz.prog 32 #[.pointer (some ⟨h.p,0,none⟩), .agg #[.int .i64 13, .int .i64 xr, .int .i64 xa, .int .i64 xb, .int .i64 xi, .int .i64 xn]] w (bO w h O ⟨13,xr,xa,xb,xi,xn⟩):=by
 unfold bO;have HB0:=Hz B;have ax:aj (w.alloc (.cells #[.int .i64 13, .int .i64 xr, .int .i64 xa, .int .i64 xb, .int .i64 xi, .int .i64 xn] 69)) w.heap.size [.int .i64 13, .int .i64 xr, .int .i64 xa, .int .i64 xb, .int .i64 xi, .int .i64 xn] 69:=aj.newAt _ rfl rfl;have ka:=(Kz w).alloc (.cells #[.int .i64 13, .int .i64 xr, .int .i64 xa, .int .i64 xb, .int .i64 xi, .int .i64 xn] 69);have s0:=ax.cell 0;have s1:=ax.cell 1;have s2:=ax.cell 2;have s3:=ax.cell 3;have s4:=ax.cell 4;have s5:=ax.cell 5;have sl:=ax.lt;simp only [Lz,aC] at s0 s1 s2 s3 s4 s5;have HSF:=Hz (fun w=>dx ⟨13,xr,xa,xb,xi,xn⟩ w);obtain ⟨c,hc⟩:∃ c,bz ⟨13,xr,xa,xb,xi,xn⟩=c:=⟨_,rfl⟩;rw [hc] at HSF;have HC:=Hz hc;have HB:=Hz ax;have KA:=Hz ka;clear ax hc ka B;go_enter Tryz.func32,Tryz.ntmps32;go_wp2_with (refine bA rfl 69 (.tmp 3) rfl [.int .i64 13, .int .i64 xr, .int .i64 xa, .int .i64 xb, .int .i64 xi, .int .i64 xn] (by kernel_rfl) w.heap.size 0 rfl (ae s0 (ae s1 (ae s2 (ae s3 (ae s4 (ae s5 a7)))))) ?_);refine (HSF.out _).mono ?_;rintro e w1 ⟨rfl,hk⟩;have HB1:=Hz ((HB0.out.same KA.out).same hk);have K1:=Hz (KA.out.trans hk);have SB1:=Hz (hk.aq HB.out (fun h=>h));have SFR:=Hz (show ¬ h.Own w.heap.size from fun e=>by have:=HB0.out.a5 e;omega);clear hk s0 s1 s2 s3 s4 s5 sl HSF KA HB;generalize w.heap.size=sb at *;have s0:=SB1.out.cell 0;have s1:=SB1.out.cell 1;have s2:=SB1.out.cell 2;have s3:=SB1.out.cell 3;have s4:=SB1.out.cell 4;have s5:=SB1.out.cell 5;have sl:=SB1.out.lt;simp only [Lz,aC] at s0 s1 s2 s3 s4 s5;by_cases h0:¬ c=0
 ·have HE:=Hz (show O.do ⟨13,xr,xa,xb,xi,xn⟩=(c,O) by unfold Wo.do;rw [HC.out,if_neg h0]);have hd:(c != 0)=true:=by simpa using h0
  clear h0;go_wp2_with fail;go_ret;exact ⟨by rw [HE.out];rfl,by rw [HE.out];exact aU.same HB0.out K1.out⟩
 have h0:c=0:=Classical.not_not.1 h0;subst h0;have hr:0≤xr∧xr<12:=(aJ _).1 ((aD HC.out).2.1 (show aP 13%2=1 by decide));obtain ⟨r,rfl⟩:∃ r:Nat,xr=r:=⟨xr.toNat,by omega⟩;have hr12:r<12:=by omega
 clear hr;have ha:0≤xa∧xa<12:=(aJ _).1 ((aD HC.out).2.2.1 (show aP 13/2%2=1 by decide));obtain ⟨a,rfl⟩:∃ a:Nat,xa=a:=⟨xa.toNat,by omega⟩;have ha12:a<12:=by omega
 clear ha;have HE:=Hz (show O.do ⟨13,r,a,xb,xi,xn⟩=O.ig r (O.pM (O.aX a)) by unfold Wo.do;rw [if_pos HC.out];rfl);have HCL:=Hz (xT r a xb xi xn HB1.out hr12 ha12);unfold dy at HCL;go_wp2_with (refine bA rfl 69 (.tmp 3) rfl [.int .i64 13, .int .i64 r, .int .i64 a, .int .i64 xb, .int .i64 xi, .int .i64 xn] (by kernel_rfl) sb 0 rfl (ae s0 (ae s1 (ae s2 (ae s3 (ae s4 (ae s5 a7)))))) ?_);refine HCL.out.mono ?_;rintro e w3 ⟨rfl,ht⟩;have TO:=Hz (aU.aK K1.out ht);clear ht s0 s1 s2 s3 s4 s5 sl HCL;go_wp2_with fail;go_ret;exact ⟨by rw [HE.out];rfl,by rw [HE.out];exact TO.out⟩
theorem xW (xr xa xb xi xn:Int) (B:a6 w h O) :
  Calls Tryz.prog 32 #[.pointer (some ⟨h.p,0,none⟩), .agg #[.int .i64 14, .int .i64 xr, .int .i64 xa, .int .i64 xb, .int .i64 xi, .int .i64 xn]] w (bO w h O ⟨14,xr,xa,xb,xi,xn⟩):=by
 unfold bO;have HB0:=Hz B;have ax:aj (w.alloc (.cells #[.int .i64 14, .int .i64 xr, .int .i64 xa, .int .i64 xb, .int .i64 xi, .int .i64 xn] 69)) w.heap.size [.int .i64 14, .int .i64 xr, .int .i64 xa, .int .i64 xb, .int .i64 xi, .int .i64 xn] 69:=aj.newAt _ rfl rfl;have ka:=(Kz w).alloc (.cells #[.int .i64 14, .int .i64 xr, .int .i64 xa, .int .i64 xb, .int .i64 xi, .int .i64 xn] 69);have s0:=ax.cell 0;have s1:=ax.cell 1;have s2:=ax.cell 2;have s3:=ax.cell 3;have s4:=ax.cell 4;have s5:=ax.cell 5;have sl:=ax.lt;simp only [Lz,aC] at s0 s1 s2 s3 s4 s5;have HSF:=Hz (fun w=>dx ⟨14,xr,xa,xb,xi,xn⟩ w);obtain ⟨c,hc⟩:∃ c,bz ⟨14,xr,xa,xb,xi,xn⟩=c:=⟨_,rfl⟩;rw [hc] at HSF;have HC:=Hz hc;have HB:=Hz ax;have KA:=Hz ka;clear ax hc ka B;go_enter Tryz.func32,Tryz.ntmps32;go_wp2_with (refine bA rfl 69 (.tmp 3) rfl [.int .i64 14, .int .i64 xr, .int .i64 xa, .int .i64 xb, .int .i64 xi, .int .i64 xn] (by kernel_rfl) w.heap.size 0 rfl (ae s0 (ae s1 (ae s2 (ae s3 (ae s4 (ae s5 a7)))))) ?_);refine (HSF.out _).mono ?_;rintro e w1 ⟨rfl,hk⟩;have HB1:=Hz ((HB0.out.same KA.out).same hk);have K1:=Hz (KA.out.trans hk);have SB1:=Hz (hk.aq HB.out (fun h=>h));have SFR:=Hz (show ¬ h.Own w.heap.size from fun e=>by have:=HB0.out.a5 e;omega);clear hk s0 s1 s2 s3 s4 s5 sl HSF KA HB;generalize w.heap.size=sb at *;have s0:=SB1.out.cell 0;have s1:=SB1.out.cell 1;have s2:=SB1.out.cell 2;have s3:=SB1.out.cell 3;have s4:=SB1.out.cell 4;have s5:=SB1.out.cell 5;have sl:=SB1.out.lt;simp only [Lz,aC] at s0 s1 s2 s3 s4 s5;by_cases h0:¬ c=0
 ·have HE:=Hz (show O.do ⟨14,xr,xa,xb,xi,xn⟩=(c,O) by unfold Wo.do;rw [HC.out,if_neg h0]);have hd:(c != 0)=true:=by simpa using h0
  clear h0;go_wp2_with fail;go_ret;exact ⟨by rw [HE.out];rfl,by rw [HE.out];exact aU.same HB0.out K1.out⟩
 have h0:c=0:=Classical.not_not.1 h0;subst h0;have hr:0≤xr∧xr<12:=(aJ _).1 ((aD HC.out).2.1 (show aP 14%2=1 by decide));obtain ⟨r,rfl⟩:∃ r:Nat,xr=r:=⟨xr.toNat,by omega⟩;have hr12:r<12:=by omega
 clear hr;have ha:0≤xa∧xa<12:=(aJ _).1 ((aD HC.out).2.2.1 (show aP 14/2%2=1 by decide));obtain ⟨a,rfl⟩:∃ a:Nat,xa=a:=⟨xa.toNat,by omega⟩;have ha12:a<12:=by omega
 clear ha;have hb:0≤xb∧xb<12:=(aJ _).1 ((aD HC.out).2.2.2.1 (show aP 14/4%2=1 by decide));obtain ⟨b,rfl⟩:∃ b:Nat,xb=b:=⟨xb.toNat,by omega⟩;have hb12:b<12:=by omega
 clear hb;have he:O.do ⟨14,r,a,b,xi,xn⟩=O.ig r (4*(if O.aX a=O.aX b then 1 else 0),0):=by unfold Wo.do;rw [if_pos HC.out];rfl
 have hcl:=AB r a b xi xn HB1.out hr12 ha12 hb12;unfold dy at hcl;generalize (if O.aX (a:Int)=O.aX (b:Int) then (1:Int) else 0)=q at he hcl;have HE:=Hz he;have HCL:=Hz hcl;clear he hcl;go_wp2_with (refine bA rfl 69 (.tmp 3) rfl [.int .i64 14, .int .i64 r, .int .i64 a, .int .i64 b, .int .i64 xi, .int .i64 xn] (by kernel_rfl) sb 0 rfl (ae s0 (ae s1 (ae s2 (ae s3 (ae s4 (ae s5 a7)))))) ?_);refine HCL.out.mono ?_;rintro e w3 ⟨rfl,ht⟩;have TO:=Hz (aU.aK K1.out ht);clear ht s0 s1 s2 s3 s4 s5 sl HCL;go_wp2_with fail;go_ret;exact ⟨by rw [HE.out];rfl,by rw [HE.out];exact TO.out⟩
theorem y8 (xr xa xb xi xn:Int) (B:a6 w h O) :
  Calls Tryz.prog 32 #[.pointer (some ⟨h.p,0,none⟩), .agg #[.int .i64 12, .int .i64 xr, .int .i64 xa, .int .i64 xb, .int .i64 xi, .int .i64 xn]] w (bO w h O ⟨12,xr,xa,xb,xi,xn⟩):=by
 unfold bO;have HB0:=Hz B;have ax:aj (w.alloc (.cells #[.int .i64 12, .int .i64 xr, .int .i64 xa, .int .i64 xb, .int .i64 xi, .int .i64 xn] 69)) w.heap.size [.int .i64 12, .int .i64 xr, .int .i64 xa, .int .i64 xb, .int .i64 xi, .int .i64 xn] 69:=aj.newAt _ rfl rfl;have ka:=(Kz w).alloc (.cells #[.int .i64 12, .int .i64 xr, .int .i64 xa, .int .i64 xb, .int .i64 xi, .int .i64 xn] 69);have s0:=ax.cell 0;have s1:=ax.cell 1;have s2:=ax.cell 2;have s3:=ax.cell 3;have s4:=ax.cell 4;have s5:=ax.cell 5;have sl:=ax.lt;simp only [Lz,aC] at s0 s1 s2 s3 s4 s5;have HSF:=Hz (fun w=>dx ⟨12,xr,xa,xb,xi,xn⟩ w);obtain ⟨c,hc⟩:∃ c,bz ⟨12,xr,xa,xb,xi,xn⟩=c:=⟨_,rfl⟩;rw [hc] at HSF;have HC:=Hz hc;have HB:=Hz ax;have KA:=Hz ka;clear ax hc ka B;go_enter Tryz.func32,Tryz.ntmps32;go_wp2_with (refine bA rfl 69 (.tmp 3) rfl [.int .i64 12, .int .i64 xr, .int .i64 xa, .int .i64 xb, .int .i64 xi, .int .i64 xn] (by kernel_rfl) w.heap.size 0 rfl (ae s0 (ae s1 (ae s2 (ae s3 (ae s4 (ae s5 a7)))))) ?_);refine (HSF.out _).mono ?_;rintro e w1 ⟨rfl,hk⟩;have HB1:=Hz ((HB0.out.same KA.out).same hk);have K1:=Hz (KA.out.trans hk);have SB1:=Hz (hk.aq HB.out (fun h=>h));have SFR:=Hz (show ¬ h.Own w.heap.size from fun e=>by have:=HB0.out.a5 e;omega);clear hk s0 s1 s2 s3 s4 s5 sl HSF KA HB;generalize w.heap.size=sb at *;have s0:=SB1.out.cell 0;have s1:=SB1.out.cell 1;have s2:=SB1.out.cell 2;have s3:=SB1.out.cell 3;have s4:=SB1.out.cell 4;have s5:=SB1.out.cell 5;have sl:=SB1.out.lt;simp only [Lz,aC] at s0 s1 s2 s3 s4 s5;by_cases h0:¬ c=0
 ·have HE:=Hz (show O.do ⟨12,xr,xa,xb,xi,xn⟩=(c,O) by unfold Wo.do;rw [HC.out,if_neg h0]);have hd:(c != 0)=true:=by simpa using h0
  clear h0;go_wp2_with fail;go_ret;exact ⟨by rw [HE.out];rfl,by rw [HE.out];exact aU.same HB0.out K1.out⟩
 have h0:c=0:=Classical.not_not.1 h0;subst h0;have ha:0≤xa∧xa<12:=(aJ _).1 ((aD HC.out).2.2.1 (show aP 12/2%2=1 by decide));obtain ⟨a,rfl⟩:∃ a:Nat,xa=a:=⟨xa.toNat,by omega⟩;have ha12:a<12:=by omega
 clear ha;have hb:0≤xb∧xb<12:=(aJ _).1 ((aD HC.out).2.2.2.1 (show aP 12/4%2=1 by decide));obtain ⟨b,rfl⟩:∃ b:Nat,xb=b:=⟨xb.toNat,by omega⟩;have hb12:b<12:=by omega
 clear hb;have HE:=Hz (show O.do ⟨12,xr,a,b,xi,xn⟩=O.set (O.aX a) xi (O.aX b) by unfold Wo.do;rw [if_pos HC.out];rfl);obtain ⟨b0,bl⟩:=HB1.out.pc;obtain ⟨g,o,cap,hro,hown,q0,q3,ql,gl,fz,rc⟩:=HB1.out.roots;have ra:=rc a ha12;have rb:=rc b hb12;have ra:w1.cell? ⟨g,o+a,none⟩=some (.int .i64 (O.aX a)):=ra;have rb:w1.cell? ⟨g,o+b,none⟩=some (.int .i64 (O.aX b)):=rb;have ha12i:(a:Int)<12:=by omega
 have hb12i:(b:Int)<12:=by omega
 clear hro hown fz rc;have hst:=fun w' (R:bh w' h.a O)=>z6 (O.aX a) xi (O.aX b) R (kO R.ok _);generalize O.aX (a:Int)=va at *;generalize O.aX (b:Int)=vb at *;have HST:=Hz hst;clear hst;go_wp2_with fail;refine a8 (.free 0 (.free 1 (.free 2 (.free 4 (.free 5 (.free 6 (.free 11 (.free 15 (.free 17 (.free 18 (.free 19 (.free 24 (.pure 3 (.pure 7 (.free 8 (.free 9 (.pure 10 (.pure 12 (.free 13 (.pure 14 (.pure 16 (.pure 20 (.free 21 (.free 22 (.pure 23 (.pure 25 (.free 26 (.pure 27 (.run 28 (.swi [] (.free 29 (.fin)))))))))))))))))))))))))))))))) [28,29] (Fz b0 (Fz q3 (Fz ra (Fz rb (Fz s2 (Fz s3 (Fa s4))))))) ?_
 iterate 28 refine Wz ?_
 refine aA rfl rfl rfl (fun K hK=>?_);unfold aw;go_simp;have hk1:=(Kz w1).drew;refine (HST.out _ (HB1.out.same hk1).H).mono ?_;rintro e w8 ⟨rfl,ht⟩;have TO:=Hz (aU.aK (K1.out.trans hk1) (qJ.to ((HB1.out.same hk1).Bf ht)));refine hK _ _ ?_;clear hK K ht hk1 s0 s1 s2 s3 s4 s5 sl b0 bl q0 q3 ql gl ra rb;refine aB (fun _=>True) trivial ?_;refine Wz ?_;refine av ?_;go_wp2_with fail;go_ret;exact ⟨by rw [HE.out];rfl,by rw [HE.out];exact TO.out⟩
theorem wE (xr xa xb xi xn:Int) (R:aH O W φ) (B:a6 w h O) :
  Calls Tryz.prog 32 #[.pointer (some ⟨h.p,0,none⟩), .agg #[.int .i64 15, .int .i64 xr, .int .i64 xa, .int .i64 xb, .int .i64 xi, .int .i64 xn]] w (bO w h O ⟨15,xr,xa,xb,xi,xn⟩):=by
 unfold bO;have HR:=Hz R;clear R;have HB0:=Hz B;have ax:aj (w.alloc (.cells #[.int .i64 15, .int .i64 xr, .int .i64 xa, .int .i64 xb, .int .i64 xi, .int .i64 xn] 69)) w.heap.size [.int .i64 15, .int .i64 xr, .int .i64 xa, .int .i64 xb, .int .i64 xi, .int .i64 xn] 69:=aj.newAt _ rfl rfl;have ka:=(Kz w).alloc (.cells #[.int .i64 15, .int .i64 xr, .int .i64 xa, .int .i64 xb, .int .i64 xi, .int .i64 xn] 69);have s0:=ax.cell 0;have s1:=ax.cell 1;have s2:=ax.cell 2;have s3:=ax.cell 3;have s4:=ax.cell 4;have s5:=ax.cell 5;have sl:=ax.lt;simp only [Lz,aC] at s0 s1 s2 s3 s4 s5;have HSF:=Hz (fun w=>dx ⟨15,xr,xa,xb,xi,xn⟩ w);obtain ⟨c,hc⟩:∃ c,bz ⟨15,xr,xa,xb,xi,xn⟩=c:=⟨_,rfl⟩;rw [hc] at HSF;have HC:=Hz hc;have HB:=Hz ax;have KA:=Hz ka;clear ax hc ka B;go_enter Tryz.func32,Tryz.ntmps32;go_wp2_with (refine bA rfl 69 (.tmp 3) rfl [.int .i64 15, .int .i64 xr, .int .i64 xa, .int .i64 xb, .int .i64 xi, .int .i64 xn] (by kernel_rfl) w.heap.size 0 rfl (ae s0 (ae s1 (ae s2 (ae s3 (ae s4 (ae s5 a7)))))) ?_);refine (HSF.out _).mono ?_;rintro e w1 ⟨rfl,hk⟩;have HB1:=Hz ((HB0.out.same KA.out).same hk);have K1:=Hz (KA.out.trans hk);have SB1:=Hz (hk.aq HB.out (fun h=>h));have SFR:=Hz (show ¬ h.Own w.heap.size from fun e=>by have:=HB0.out.a5 e;omega);clear hk s0 s1 s2 s3 s4 s5 sl HSF KA HB;generalize w.heap.size=sb at *;have s0:=SB1.out.cell 0;have s1:=SB1.out.cell 1;have s2:=SB1.out.cell 2;have s3:=SB1.out.cell 3;have s4:=SB1.out.cell 4;have s5:=SB1.out.cell 5;have sl:=SB1.out.lt;simp only [Lz,aC] at s0 s1 s2 s3 s4 s5;by_cases h0:¬ c=0
 ·have HE:=Hz (show O.do ⟨15,xr,xa,xb,xi,xn⟩=(c,O) by unfold Wo.do;rw [HC.out,if_neg h0]);have hd:(c != 0)=true:=by simpa using h0
  clear h0;go_wp2_with fail;go_ret;exact ⟨by rw [HE.out];rfl,by rw [HE.out];exact aU.same HB0.out K1.out⟩
 have h0:c=0:=Classical.not_not.1 h0;subst h0;have HE:=Hz (show O.do ⟨15,xr,xa,xb,xi,xn⟩=g9 O by unfold Wo.do;rw [if_pos HC.out];rfl);obtain ⟨b0,bl⟩:=HB1.out.pc;go_wp2_with fail;refine (qY HR.out HB1.out.H).mono ?_;rintro e w5 ⟨rfl,ht⟩;have TO:=Hz (aU.aK K1.out (aU.rD HB1.out ht));clear ht b0 bl s0 s1 s2 s3 s4 s5 sl;go_wp2_with fail;go_ret;exact ⟨by rw [HE.out];rfl,by rw [HE.out];exact TO.out⟩
theorem wF (xr xa xb xi xn:Int) (R:aH O W φ) (B:a6 w h O) :
  Calls Tryz.prog 32 #[.pointer (some ⟨h.p,0,none⟩), .agg #[.int .i64 16, .int .i64 xr, .int .i64 xa, .int .i64 xb, .int .i64 xi, .int .i64 xn]] w (bO w h O ⟨16,xr,xa,xb,xi,xn⟩):=by
 unfold bO;have HR:=Hz R;clear R;have HB0:=Hz B;have ax:aj (w.alloc (.cells #[.int .i64 16, .int .i64 xr, .int .i64 xa, .int .i64 xb, .int .i64 xi, .int .i64 xn] 69)) w.heap.size [.int .i64 16, .int .i64 xr, .int .i64 xa, .int .i64 xb, .int .i64 xi, .int .i64 xn] 69:=aj.newAt _ rfl rfl;have ka:=(Kz w).alloc (.cells #[.int .i64 16, .int .i64 xr, .int .i64 xa, .int .i64 xb, .int .i64 xi, .int .i64 xn] 69);have s0:=ax.cell 0;have s1:=ax.cell 1;have s2:=ax.cell 2;have s3:=ax.cell 3;have s4:=ax.cell 4;have s5:=ax.cell 5;have sl:=ax.lt;simp only [Lz,aC] at s0 s1 s2 s3 s4 s5;have HSF:=Hz (fun w=>dx ⟨16,xr,xa,xb,xi,xn⟩ w);obtain ⟨c,hc⟩:∃ c,bz ⟨16,xr,xa,xb,xi,xn⟩=c:=⟨_,rfl⟩;rw [hc] at HSF;have HC:=Hz hc;have HB:=Hz ax;have KA:=Hz ka;clear ax hc ka B;go_enter Tryz.func32,Tryz.ntmps32;go_wp2_with (refine bA rfl 69 (.tmp 3) rfl [.int .i64 16, .int .i64 xr, .int .i64 xa, .int .i64 xb, .int .i64 xi, .int .i64 xn] (by kernel_rfl) w.heap.size 0 rfl (ae s0 (ae s1 (ae s2 (ae s3 (ae s4 (ae s5 a7)))))) ?_);refine (HSF.out _).mono ?_;rintro e w1 ⟨rfl,hk⟩;have HB1:=Hz ((HB0.out.same KA.out).same hk);have K1:=Hz (KA.out.trans hk);have SB1:=Hz (hk.aq HB.out (fun h=>h));have SFR:=Hz (show ¬ h.Own w.heap.size from fun e=>by have:=HB0.out.a5 e;omega);clear hk s0 s1 s2 s3 s4 s5 sl HSF KA HB;generalize w.heap.size=sb at *;have s0:=SB1.out.cell 0;have s1:=SB1.out.cell 1;have s2:=SB1.out.cell 2;have s3:=SB1.out.cell 3;have s4:=SB1.out.cell 4;have s5:=SB1.out.cell 5;have sl:=SB1.out.lt;simp only [Lz,aC] at s0 s1 s2 s3 s4 s5;by_cases h0:¬ c=0
 ·have HE:=Hz (show O.do ⟨16,xr,xa,xb,xi,xn⟩=(c,O) by unfold Wo.do;rw [HC.out,if_neg h0]);have hd:(c != 0)=true:=by simpa using h0
  clear h0;go_wp2_with fail;go_ret;exact ⟨by rw [HE.out];rfl,by rw [HE.out];exact aU.same HB0.out K1.out⟩
 have h0:c=0:=Classical.not_not.1 h0;subst h0;have HE:=Hz (show O.do ⟨16,xr,xa,xb,xi,xn⟩=dU O by unfold Wo.do;rw [if_pos HC.out];rfl);obtain ⟨b0,bl⟩:=HB1.out.pc;go_wp2_with fail;refine (q8 HR.out HB1.out.H).mono ?_;rintro e w5 ⟨rfl,ht⟩;have TO:=Hz (aU.aK K1.out (aU.rD HB1.out ht));clear ht b0 bl s0 s1 s2 s3 s4 s5 sl;go_wp2_with fail;go_ret;exact ⟨by rw [HE.out];rfl,by rw [HE.out];exact TO.out⟩
theorem AD {x:St} (h:bz x=0):1≤x.k∧x.k≤16:=by
 have h1:=(aD h).1;unfold aP at h1;by_cases h2:1≤x.k∧x.k≤16
 ·exact h2
 ·exfalso;apply h1;rw [if_neg (by omega),if_neg (by omega),if_neg (by omega),if_neg (by omega),if_neg (by omega)]
theorem Cw (x:St) (R:aH O W φ) (B:a6 w h O) :
  Calls Tryz.prog 32 #[.pointer (some ⟨h.p,0,none⟩), .agg #[.int .i64 x.k, .int .i64 x.r, .int .i64 x.a, .int .i64 x.b, .int .i64 x.i, .int .i64 x.n]] w (bO w h O x):=by
 obtain ⟨k,r,a,b,i,n⟩:=x;by_cases hc:bz ⟨k,r,a,b,i,n⟩=0
 ·have hk:=AD hc;dsimp only at hk ⊢;have hcs:k=1∨k=2∨k=3∨k=4∨k=5∨k=6∨k=7∨k=8∨k=9∨k=10∨k=11∨k=12∨k=13∨k=14∨k=15∨k=16:=by omega
  clear hc hk;rcases hcs with rfl | rfl | rfl | rfl | rfl | rfl | rfl | rfl | rfl | rfl | rfl | rfl | rfl | rfl | rfl | rfl
  ·exact yF _ _ _ _ _ B
  ·exact y3 _ _ _ _ _ B
  ·exact xU _ _ _ _ _ B
  ·exact xz _ _ _ _ _ B (gF.rep R (by omega))
  ·exact y4 _ _ _ _ _ R B
  ·exact xV _ _ _ _ _ R B
  ·exact wC _ _ _ _ _ R B
  ·exact wD _ _ _ _ _ R B
  ·exact y5 _ _ _ _ _ B
  ·exact y6 _ _ _ _ _ B
  ·exact yG _ _ _ _ _ B
  ·exact y8 _ _ _ _ _ B
  ·exact y7 _ _ _ _ _ B
  ·exact xW _ _ _ _ _ B
  ·exact wE _ _ _ _ _ R B
  ·exact wF _ _ _ _ _ R B
 ·exact yZ _ _ _ _ _ _ B hc
end
end
section
open Go.RowKit
section
variable {w:World} {h:RW} {W:Wd}
theorem Wd.tZ (W:Wd) (x:St):(W.do x).2.T.length≤W.T.length+1:=by
 have hnew:∀ (r k:Int) (l:List Int),(W.bU r k l).2.T.length≤W.T.length+1:=fun r k l=>by
  unfold Wd.bU;split
  ·show ((W.room (1+(l.length:Int))).2.T ++ [_]).length≤_
   rw [List.length_append,Wd.tu];simp
  ·dsimp only;omega
 have hcut:∀ g,(W.cut g).2.T.length≤W.T.length+1:=fun g=>by rw [Wd.Af];omega
 have hreg:(W.fT x).2.T.length≤W.T.length+1:=by
  unfold Wd.fT;split
  ·dsimp only;omega
  ·split <;> (dsimp only;omega)
 have hpop:(W.pop x).2.T.length≤W.T.length+1:=by
  unfold Wd.pop;split
  ·dsimp only;omega
  ·split <;> (dsimp only;omega)
 have hget:(W.get x).2.T.length≤W.T.length+1:=by
  unfold Wd.get;split
  ·show (W.cG _ _).T.length≤_;rw [pN];omega
  ·dsimp only;omega
 have hset:(W.set x).2.T.length≤W.T.length+1:=by
  unfold Wd.set;split
  ·show (W.dg _ _).T.length≤_;rw [yL];omega
  ·dsimp only;omega
 have hlen:(W.len x).2.T.length≤W.T.length+1:=by
  unfold Wd.len;split
  ·dsimp only;omega
  ·show (W.cG _ _).T.length≤_;rw [pN];omega
 have hR:∀ (r:Int) (v:Vl),((0,W.cG r v):Int × Wd).2.T.length≤W.T.length+1:=fun r v=>by show (W.cG _ _).T.length≤_;rw [pN];omega
 unfold Wd.do
 by_cases hc:bz x=0
 ·rw [if_pos hc];unfold Wd.step;by_cases h1:x.k=1;· rw [if_pos h1];exact hR _ _
  rw [if_neg h1];by_cases h2:x.k=2;· rw [if_pos h2];exact hR _ _
  rw [if_neg h2];by_cases h3:x.k=3;· rw [if_pos h3];exact hR _ _
  rw [if_neg h3];by_cases h4:x.k=4;· rw [if_pos h4];exact hnew _ _ _
  rw [if_neg h4];by_cases h5:x.k=5;· rw [if_pos h5];exact hnew _ _ _
  rw [if_neg h5];by_cases h6:x.k=6;· rw [if_pos h6];exact hnew _ _ _
  rw [if_neg h6];by_cases h7:x.k=7;· rw [if_pos h7];exact hnew _ _ _
  rw [if_neg h7];by_cases h8:x.k=8;· rw [if_pos h8];exact hnew _ _ _
  rw [if_neg h8];by_cases h9:x.k=9;· rw [if_pos h9];exact hreg
  rw [if_neg h9];by_cases h10:x.k=10;· rw [if_pos h10];exact hpop
  rw [if_neg h10];by_cases h11:x.k=11;· rw [if_pos h11];exact hget
  rw [if_neg h11];by_cases h12:x.k=12;· rw [if_pos h12];exact hset
  rw [if_neg h12];by_cases h13:x.k=13;· rw [if_pos h13];exact hlen
  rw [if_neg h13];by_cases h14:x.k=14;· rw [if_pos h14];exact hR _ _
  rw [if_neg h14];by_cases h15:x.k=15;· rw [if_pos h15];exact hcut _
  rw [if_neg h15];exact hcut _
 ·rw [if_neg hc];dsimp only;omega
end
end
section
open Go.RowKit
structure HW (w0 w:World) (p q:Nat) (h:HH) (b:RW) (O:Wo) (W:Wd):Prop where
 A:HM w0 w p h O
 B:zZ w b W
 e:b.p=q
 own:∀ k,b.Own k→w0.heap.size≤k
section
variable {w0 w w':World} {p q:Nat} {h:HH} {b:RW} {O O':Wo} {W W':Wd}
theorem HM.y9 (M:HM w0 w p h O) {φ:Int→Int} (R:aH O W φ) (x:St) :
  Calls Tryz.prog 32 #[.pointer (some ⟨p,0,none⟩), .agg #[.int .i64 x.k, .int .i64 x.r, .int .i64 x.a, .int .i64 x.b, .int .i64 x.i, .int .i64 x.n]] w (bO w h O x):=by
 have:=Cw x R M.B;rw [M.e] at this;exact this
end
end
section
open Go.RowKit
def pW (w:World) (cb lb:Nat):Prop:=aj w cb [.pointer (some ⟨lb,0,none⟩)] 205
section
variable {w w':World} {gx:GX} {gp lb ib cb:Nat} {rgv wv nv:Value} {ah q:List (Int × Int)} {fv:Nat→Value} {W:Wd} {t:List Bool}
theorem pW.lv (h:pW w cb lb) {t:List Bool × List Nat} (L:du w gp lb ib nv t) (k:aa (fX lb ib nv) w w'):pW w' cb lb:=k.aq h (fun e=>by
 obtain ⟨_,c',T',hc',hT⟩:=L.bB e;refine h.ne hc' ?_ rfl
 rcases hT with rfl | rfl | rfl <;> decide)
theorem gQ.join {w1:World} {nv1:Value} {t2:List Bool × List Nat} (k1:aa (fX lb ib nv) w w1) (o1:∀ k,ak nv1 k→ak nv k∨w.heap.size≤k) (U:gQ w1 gp lb ib nv1 w' t2):gQ w gp lb ib nv w' t2:=by
 obtain ⟨nv2,L2,k2,o2⟩:=U;refine ⟨nv2,L2,k1.then k2 (fun b hb=>?_),fun b hb=>?_⟩
 ·rcases hb with hb | hb | hb
  ·exact .inl (.inl hb)
  ·exact .inl (.inr (.inl hb))
  ·exact (o1 b hb).imp (fun h=>.inr (.inr h)) id
 ·rcases o2 b hb with h | h
  ·exact o1 b h
  ·exact .inr (Nat.le_trans k1.size h)
theorem AE (x:Int) (S:jJ w gx gp rgv wv ah q fv W) (L:du w gp lb ib nv (t,[])) (B:pW w cb lb) (N:lN W t) (hok:W.ok) (hx:W.live x) (hq:∀ e ∈ q,W.dD e) (hT:W.T.length≤100000) (hql:q.length≤1000000) :
  Calls Tryz.prog 170 #[.int .i64 x, .pointer (some ⟨cb,0,none⟩)] w fun e w'=>e=.returned (.int .i64 x)∧gQ w gp lb ib nv w' (W.cT q (t.set x.toNat true),[]):=by
 obtain ⟨e1,G1⟩:=N.mark (q:=q) hx;have HM:=Hz (oQ (3,x) L (fun _=>⟨hx.1,by dsimp only;rw [N.len];exact hx.2.1⟩) (by dsimp only;rw [N.len];exact hT) (by simp));have HS:=Hz S;have HL:=Hz L;have HB:=Hz B;have HOK:=Hz hok;have HQ:=Hz hq;have HT:=Hz hT;have HQL:=Hz hql;have HE:=Hz e1;have HG:=Hz G1;have b0:=B.cell 0;have bl:=B.lt;simp only [Lz] at b0;clear S L B N hok hx hq hT hql e1 G1;go_enter Tryz.func170,Tryz.ntmps170;go_wp2_with fail;refine HM.out.mono ?_;rintro e w1 ⟨rfl,hU⟩;obtain ⟨nv1,L1,k1,o1⟩:=hU;have HL1:=Hz L1;have B1:=Hz (HB.out.lv HL.out k1);have S1:=Hz (HS.out.lv HL.out k1);have K1:=Hz k1;have O1:=Hz o1;clear b0 bl L1 k1 o1;have b0:=B1.out.cell 0;have bl:=B1.out.lt;simp only [Lz] at b0;go_wp2_with fail;refine (GSpread_c S1.out HL1.out HOK.out (by rw [HE.out];exact HG.out) HQ.out HT.out HQL.out).mono ?_;rintro e w2 ⟨rfl,h2⟩;rw [HE.out] at h2;have T2:=Hz (show gQ w gp lb ib nv w2 (W.cT q (t.set x.toNat true),[]) from gQ.join K1.out O1.out h2);clear h2 b0 bl;go_wp2_with fail;go_ret;exact ⟨rfl,T2.out⟩
def GJ (gx:GX) (gp lb ib cb:Nat) (fv:Nat→Value) (W:Wd) (w:World) (t:List Bool) (F:Nat→Prop):Prop:=
 ∃ nv,du w gp lb ib nv (t,[])∧pW w cb lb∧eL w gx.l fv W.T∧(∀ i b,ak (fv i) b→∃ c,aj w b c 96)∧lN W t∧F=fun k=>fX lb ib nv k∨k=cb∨ak gx.l k∨∃ i,ak (fv i) k
theorem GJ.type {F:Nat→Prop} (J:GJ gx gp lb ib cb fv W w t F) {k:Nat} (hk:F k):k<w.heap.size∧∃ c T,aj w k c T∧T≠191∧T≠101:=by
 obtain ⟨nv,L,B,hT,hF,-,rfl⟩:=J;rcases hk with hk | rfl | hk | ⟨i,hk⟩
 ·obtain ⟨h1,c,T,h2,h3⟩:=L.bB hk;refine ⟨h1,c,T,h2,?_⟩;rcases h3 with rfl | rfl | rfl <;> exact ⟨by decide,by decide⟩
 ·exact ⟨B.lt,_,_,B,by decide,by decide⟩
 ·obtain ⟨cs,hs,_⟩:=hT;obtain ⟨h1,c,hc⟩:=hs.own hk;exact ⟨h1,c,_,hc,by decide,by decide⟩
 ·obtain ⟨c,hc⟩:=hF i k hk;exact ⟨hc.lt,c,_,hc,by decide,by decide⟩
theorem GJ.apart {F:Nat→Prop} (J:GJ gx gp lb ib cb fv W w t F) (S:bR gx w gp rgv wv ah q):ez F gp rgv wv:=by
 rintro k ⟨h1,h2⟩;obtain ⟨_,c,T,hb,n1,n2⟩:=J.type h1;exact S.nI hb n1 n2 h2
noncomputable def pX (gx:GX) (gp lb ib cb:Nat) (fv:Nat→Value) (W:Wd) (hok:W.ok) (hT:W.T.length≤100000):eU gx Tryz.prog gp (List Bool) where
 J:=fun w t F=>GJ gx gp lb ib cb fv W w t F
 D:=fun _ x=>W.live x
 DK:=fun _ x=>W.live x
 Q:=W.dD
 alive:=au
 ab:=W.bY
 now:=iM
 fa:=168
 fk:=170
 fn:=169
 a1:=#[.pointer (some ⟨lb,0,none⟩)]
 a2:=#[]
 k1:=#[]
 k2:=#[.pointer (some ⟨cb,0,none⟩)]
 n1:=#[]
 n2:=#[]
 ea:=fun args w=>by kernel_rfl
 ek:=fun args w=>by kernel_rfl
 en:=fun args w=>by kernel_rfl
 J_keep:=fun h k hn=>by
  obtain ⟨nv,h1,h2,h3,h4,h5,rfl⟩:=h;exact ⟨nv,h1.ab k (fun b hb=>hn b (.inl hb)),k.aq h2 (hn _ (.inr (.inl rfl))),h3.ab k (fun b hb=>hn b (.inr (.inr (.inl hb)))) (fun i b hb=>hn b (.inr (.inr (.inr ⟨i,hb⟩)))),
   fun i b hb=>by obtain ⟨c,hc⟩:=h4 i b hb;exact ⟨c,k.aq hc (hn b (.inr (.inr (.inr ⟨i,hb⟩))))⟩,h5,rfl⟩
 J_lt:=fun h hk=>(GJ.type h hk).1
 cS:=fun w t F x hJ hx=>by
  obtain ⟨nv,h1,-,-,-,h5,-⟩:=hJ;obtain ⟨x,rfl⟩:=Int.eq_ofNat_of_zero_le hx.1;have hl:=h5.len;exact (yY x h1 (by have:=hx.2.1;dsimp only;omega) (by dsimp only;omega)).mono (by rintro e w' ⟨rfl,rfl⟩;exact ⟨rfl,aa.refl _ _⟩)
 now_c:=fun w t F x hJ _=>by
  refine (show Calls Tryz.prog 169 #[.int .i64 x] w fun e w'=>e=.returned (.int .i64 x)∧w=w' from ?_).mono (by rintro e w' ⟨rfl,rfl⟩;exact ⟨rfl,aa.refl _ _⟩);go_enter Tryz.func169,Tryz.ntmps169;go_wp2_with fail;go_ret;exact ⟨rfl,rfl⟩
 keep_c:=fun w t F rv qv ah wait x hJ hS hA hx hq hl=>by
  obtain ⟨nv,h1,h2,h3,h4,h5,rfl⟩:=hJ;have S:jJ w gx gp rv qv ah wait fv W:=⟨hS,h3,h4⟩;refine (AE x S h1 h2 h5 hok hx (fun e he=>(hq e he).2) hT hl).mono ?_;rintro e w' ⟨rfl,nv',L',k',o'⟩;have S':=S.lv h1 k';have J':GJ gx gp lb ib cb fv W w' (W.cT wait (t.set x.toNat true)) _:=⟨nv',L',h2.lv h1 k',S'.T,S'.F,lN.cT hok (fun e he=>(hq e he).2) (by rw [List.length_set];exact h5.len) (fun i hi=>by
   rcases (gL hx.1 (by rw [h5.len];exact hx.2.1)).1 hi with rfl | h
   ·exact hx
   ·exact h5.lv i h),rfl⟩
  refine ⟨rfl,_,J',S'.S,J'.apart S'.S,k'.mono (fun k _ hk=>.inl (.inl hk)),fun k hk=>?_⟩;rcases hk with (rfl | rfl | hk) | hk
  ·exact .inl (.inl (.inl rfl))
  ·exact .inl (.inl (.inr (.inl rfl)))
  ·exact (o' k hk).imp (fun h=>.inl (.inr (.inr h))) id
  ·exact .inl (.inr hk)
 DK_D:=fun h=>h
 DK_keep:=fun _ h=>h
 D_keep:=fun _ h=>h
 D_new:=fun h=>h
 D_wait:=fun _ h=>h
 Q_new:=fun _ h=>h
 Q_wait:=fun h=>h
 keep_len:=rfl
end
end
section
open Go.RowKit
structure j8 (w:World) (gp lb ib cb:Nat) (nv:Value) (wr:World) (t:List Bool × List Nat):Prop where
 L:du wr gp lb ib nv t
 B:pW wr cb lb
 K:aa (fun b=>w.heap.size≤b) w wr
 O:∀ k,fX lb ib nv k∨k=cb→w.heap.size≤k
section
variable {w wr w':World} {h:dj} {W:Wd} {gp lb ib cb:Nat} {nv:Value} {t t':List Bool × List Nat}
theorem j8.to (C:j8 w gp lb ib cb nv wr t) (T:gQ wr gp lb ib nv w' t'):∃ nv',j8 w gp lb ib cb nv' w' t':=by
 obtain ⟨nv',L',k',o'⟩:=T;refine ⟨nv',L',C.B.lv C.L k',C.K.then k' (fun k hk=>.inl (C.O k (.inl hk))),fun k hk=>?_⟩;rcases hk with (hk | hk | hk) | hk
 ·exact C.O k (.inl (.inl hk))
 ·exact C.O k (.inl (.inr (.inl hk)))
 ·rcases o' k hk with h | h
  ·exact C.O k (.inl (.inr (.inr h)))
  ·exact Nat.le_trans C.K.size h
 ·exact C.O k (.inr hk)
theorem j8.begin {w1:World} {gp:Nat} (n:Nat) (k:aa (fun _=>False) w w1) :
  j8 w gp (w1.heap.size+1) w1.heap.size (w1.heap.size+1+1) (.slice none 0 0) (((w1.alloc (.cells (Array.replicate n (.bool false)) 4)).alloc (.cells #[.pointer (some ⟨gp,0,none⟩), .slice (some ⟨w1.heap.size,0,none⟩) n n, .slice none 0 0] 207)).alloc (.cells #[.pointer (some ⟨w1.heap.size+1,0,none⟩)] 205)) (List.replicate n false,[]):=by
 have hz:=k.size;have b1:aj (w1.alloc (.cells (Array.replicate n (.bool false)) 4)) w1.heap.size (List.replicate n (.bool false)) 4:=aj.newAt _ rfl (by simp);have b2:aj ((w1.alloc (.cells (Array.replicate n (.bool false)) 4)).alloc (.cells #[.pointer (some ⟨gp,0,none⟩), .slice (some ⟨w1.heap.size,0,none⟩) n n, .slice none 0 0] 207)) (w1.heap.size+1) [.pointer (some ⟨gp,0,none⟩), .slice (some ⟨w1.heap.size,0,none⟩) n n, .slice none 0 0] 207:=aj.newAt _ (by simp) rfl;refine ⟨⟨?_,?_,Sl.nil _ _ _⟩,aj.newAt _ (by simp) rfl,?_,fun b hb=>?_⟩
 ·have:=b2.alloc (.cells #[.pointer (some ⟨w1.heap.size+1,0,none⟩)] 205);simpa using this
 ·have:=(b1.alloc (.cells #[.pointer (some ⟨gp,0,none⟩), .slice (some ⟨w1.heap.size,0,none⟩) n n, .slice none 0 0] 207)).alloc (.cells #[.pointer (some ⟨w1.heap.size+1,0,none⟩)] 205);simpa using this
 ·exact (k.mono (fun _ _ h=>h.elim)).trans ((((aa.refl _ _).alloc _).alloc _).alloc _)
 ·rcases hb with (rfl | rfl | hb) | rfl
  ·omega
  ·exact hz
  ·exact absurd hb (by intro h;cases h)
  ·omega
theorem j8.same (C:j8 w gp lb ib cb nv wr t) (k:aa (fun _=>False) wr w'):j8 w gp lb ib cb nv w' t:=⟨C.L.same k,k.aq C.B (fun h=>h),C.K.trans (k.mono (fun _ _ h=>h.elim)),C.O⟩
theorem j8.lR (C:j8 w gp lb ib cb nv wr t) (H:aQ w h W):aQ wr h W:=H.ab C.K (fun b hb hk=>by have:=H.a5 hb;omega)
theorem aQ.sp (H:aQ w h W):jJ w (h.gx W) h.p h.gv h.wv W.ah W.wait h.fv W:=⟨H.side,H.ht,fun i b hb=>(H.af i b hb).2.1⟩
structure mx (w:World) (h:dj) (W:Wd) (lb ib cb cp:Nat) (is:List Bool) (ah wait:List (Int × Int)) (nv rgv wv cr cw:Value) (tx:Nat→Value) (T:List Th) (wr:World):Prop where
 L:du wr h.p lb ib nv (is,[])
 B:pW wr cb lb
 T:eL wr h.tv tx T
 F:∀ i b,ak (tx i) b→∃ c,aj wr b c 96
 fo:∀ i b,ak (tx i) b→ak (h.fv i) b
 S:bR (h.gx W) wr h.p rgv wv ah wait
 C:aZ wr cp cr cw W.ah W.wait
 R:Sl wr 96 2 h.rv W.roots.length (aE W.roots)
 K:aa h.Own w wr
 sn:∀ b,aF h.p rgv wv b→aF h.p h.gv h.wv b∨w.heap.size≤b
 cn:∀ b,aF cp cr cw b→w.heap.size≤b
 ap:∀ b,¬ (aF h.p rgv wv b∧aF cp cr cw b)
 ln:∀ b,fX lb ib nv b→w.heap.size≤b
theorem mx.begin {cp:Nat} {is0 is:List Bool} {ah wait:List (Int × Int)} {rgv wv cr cw:Value} {F':Nat→Prop} (H:aQ w h W) (I:j8 w h.p lb ib cb nv wr (is0,[]))
  (C:aZ wr cp cr cw W.ah W.wait) (cn:∀ b,aF cp cr cw b→w.heap.size≤b) (cl:∀ b,aF cp cr cw b→¬ (fX lb ib nv b∨b=cb))
  (J:GJ (h.gx W) h.p lb ib cb h.fv W w' is F') (S:bR (h.gx W) w' h.p rgv wv ah wait)
  (K:aa (fun b=>(fX lb ib nv b∨b=cb∨ak h.tv b∨∃ i,ak (h.fv i) b)∨aF h.p h.gv h.wv b) wr w') (fn:∀ b,F' b→(fX lb ib nv b∨b=cb∨ak h.tv b∨∃ i,ak (h.fv i) b)∨wr.heap.size≤b)
  (sn:∀ b,aF h.p rgv wv b→aF h.p h.gv h.wv b∨wr.heap.size≤b) :
  ∃ nv',mx w h W lb ib cb cp is ah wait nv' rgv wv cr cw h.fv W.T w':=by
 obtain ⟨nv',L',B',T',hF',N',rfl⟩:=J;have aI:∀ b,(ak h.tv b∨∃ i,ak (h.fv i) b)∨aF h.p h.gv h.wv b→h.Own b:=fun b hb=>by
  rcases hb with (hb | hb) | (rfl | hb | hb)
  ·exact .inr (.inl hb)
  ·exact .inr (.inr (.inr (.inr (.inr hb))))
  ·exact .inl rfl
  ·exact .inr (.inr (.inr (.inl hb)))
  ·exact .inr (.inr (.inr (.inr (.inl hb))))
 have Hr:=I.lR H;have ncp:∀ b,aF cp cr cw b→¬ ((fX lb ib nv b∨b=cb∨ak h.tv b∨∃ i,ak (h.fv i) b)∨aF h.p h.gv h.wv b):=fun b hb hk=>by
  have h1:=cn b hb;have h2:¬ h.Own b:=fun e=>by have:=H.a5 e;omega
  rcases hk with (hk | hk | hk | hk) | hk
  ·exact cl b hb (.inl hk)
  ·exact cl b hb (.inr hk)
  ·exact h2 (aI b (.inl (.inl hk)))
  ·exact h2 (aI b (.inl (.inr hk)))
  ·exact h2 (aI b (.inr hk))
 have cpl:∀ b,aF cp cr cw b→b<wr.heap.size:=fun b hb=>C.jN hb;have k0:=I.K;refine ⟨nv',L',B',T',hF',fun i b hb=>hb,S,C.ab K ncp,Hr.hr.ab K (fun b hb hk=>?_),⟨K.os.trans k0.os,K.tape.trans k0.tape,K.output.trans k0.output,Nat.le_trans k0.size K.size,fun b hb hn=>?_⟩,fun b hb=>?_,cn,fun b hb=>?_,fun b hb=>?_⟩
 ·obtain ⟨hl,c,hc⟩:=Hr.hr.own hb;have hn:b<w.heap.size:=H.a5 (.inr (.inr (.inl hb)));rcases hk with (hk | hk | hk | ⟨i,hk⟩) | hk
  ·have:=I.O b (.inl hk);omega
  ·have:=I.O b (.inr hk);omega
  ·obtain ⟨cs,hs,_⟩:=Hr.ht;obtain ⟨_,c',hc'⟩:=hs.own hk;exact hc.ne hc' (by decide) rfl
  ·exact (H.af i b hk).2.2 hb
  ·exact Hr.side.nI hc (by decide) (by decide) hk
 ·rw [K.block b (Nat.lt_of_lt_of_le hb k0.size) (fun hk=>?_),k0.block b hb (by omega)];rcases hk with (hk | hk | hk | hk) | hk
  ·have:=I.O b (.inl hk);omega
  ·have:=I.O b (.inr hk);omega
  ·exact hn (aI b (.inl (.inl hk)))
  ·exact hn (aI b (.inl (.inr hk)))
  ·exact hn (aI b (.inr hk))
 ·rcases sn b hb with h1 | h1
  ·exact .inl h1
  ·exact .inr (Nat.le_trans I.K.size h1)
 ·rcases sn b hb.1 with h1 | h1
  ·exact ncp b hb.2 (.inr h1)
  ·have:=cpl b hb.2;omega
 ·rcases hb with rfl | rfl | hb
  ·exact I.O _ (.inl (.inl rfl))
  ·exact I.O _ (.inl (.inr (.inl rfl)))
  ·rcases fn b (.inl (.inr (.inr hb))) with (hk | hk | hk | ⟨i,hk⟩) | hk
   ·exact I.O _ (.inl hk)
   ·exact I.O _ (.inr hk)
   ·exfalso;obtain ⟨_,c1,T1,h1,h2⟩:=L'.bB (.inr (.inr hb));obtain ⟨cs,hs,_⟩:=T';obtain ⟨hl,c',hc'⟩:=hs.own hk;refine h1.ne hc' ?_ rfl;rcases h2 with rfl | rfl | rfl <;> decide
   ·exfalso;obtain ⟨_,c1,T1,h1,h2⟩:=L'.bB (.inr (.inr hb));obtain ⟨c',hc'⟩:=hF' i b hk;refine h1.ne hc' ?_ rfl;rcases h2 with rfl | rfl | rfl <;> decide
   ·exact Nat.le_trans I.K.size hk
theorem mx.back {cp:Nat} {is:List Bool} {ah wait:List (Int × Int)} {rgv wv cr cw:Value} (C:mx w h W lb ib cb cp is ah wait nv rgv wv cr cw h.fv W.T wr) (H:aQ w h W) :
  aS w h ((wr.setCell ⟨h.p,2,none⟩ cr).setCell ⟨h.p,3,none⟩ cw) W:=by
 have K:=((aa.refl (·=h.p) wr).setCell (p:=⟨h.p,2,none⟩) (.inl rfl) cr).setCell (p:=⟨h.p,3,none⟩) (.inl rfl) cw;have ne:∀ {b:Nat} {c:List Value} {T:TypeId},aj wr b c T→T≠191→¬ b=h.p:=fun hb hT e=>hb.ne C.S.hp hT e;have hp2:aj ((wr.setCell ⟨h.p,2,none⟩ cr).setCell ⟨h.p,3,none⟩ cw) h.p [h.tv,h.rv,cr,cw, .int .i64 W.az, .int .i64 W.cm, .int .i64 W.most, .int .i64 W.grow] 191:=by
  simpa [dj.gx] using (C.S.hp.aG 2 cr).aG 3 cw
 have cn:∀ b,ak cr b∨ak cw b→w.heap.size≤b:=fun b hb=>C.cn b (.inr hb);refine ⟨⟨h.p,h.tv,h.rv,cr,cw,h.fv⟩,⟨hp2,C.T.ab K (fun b hb=>?_) (fun i b hb=>?_),C.R.ab K (fun b hb=>?_),C.C.hr.ab K (fun b hb=>?_),C.C.hw.ab K (fun b hb=>?_),C.C.ap,fun i b hb=>?_,H.fi,H.fl,H.ok⟩,rfl,C.K.trans (K.mono (fun b _ e=>e ▸ .inl rfl)),fun b hb=>?_⟩
 ·obtain ⟨cs,hs,_⟩:=C.T;obtain ⟨_,c,hc⟩:=hs.own hb;exact ne hc (by decide)
 ·obtain ⟨c,hc⟩:=C.F i b hb;exact ne hc (by decide)
 ·obtain ⟨_,c,hc⟩:=C.R.own hb;exact ne hc (by decide)
 ·obtain ⟨_,c,hc⟩:=C.C.hr.own hb;exact ne hc (by decide)
 ·obtain ⟨_,c,hc⟩:=C.C.hw.own hb;exact ne hc (by decide)
 ·obtain ⟨h1,_,h3⟩:=H.af i b hb;obtain ⟨c,hc⟩:=C.F i b hb;exact ⟨Nat.lt_of_lt_of_le hc.lt K.size,⟨c,K.aq hc (ne hc (by decide))⟩,h3⟩
 ·rcases hb with hb | hb | hb | hb | hb | hb
  ·exact .inl (.inl hb)
  ·exact .inl (.inr (.inl hb))
  ·exact .inl (.inr (.inr (.inl hb)))
  ·exact .inr (cn b (.inl hb))
  ·exact .inr (cn b (.inr hb))
  ·exact .inl (.inr (.inr (.inr (.inr (.inr hb)))))
theorem mx.settled {cp:Nat} {is:List Bool} {ah wait:List (Int × Int)} {rgv wv cr cw:Value} {tx:Nat→Value} {i:Nat} (C:mx w h W lb ib cb cp is ah wait nv rgv wv cr cw tx (gP is W.T i) wr) (H:aQ w h W)
  (hi:i<W.T.length) (T:xQ wr h.tv tx (gP is W.T i) is i w') (hc:lQ is i (W.T.getD i Th.none)=dM is i (W.T.getD i Th.none)) :
  ∃ tx',mx w h W lb ib cb cp is ah wait nv rgv wv cr cw tx' (gP is W.T (i+1)) w'∧∀ j k,ak (tx' j) k→ak (tx j) k∧(j=i→is.getD i false=true):=by
 obtain ⟨tx',T',K',F',e'⟩:=T;have eg:(gP is W.T i).getD i Th.none=W.T.getD i Th.none:=by
  rw [Ld,Ld,Le (by rw [ia];exact hi),Le hi,tt _ _ hi]
 have e2:W.T.getD i Th.none=W.T[i]:=by rw [Ld,Le hi];rfl
 rw [eg,hc,e2,xp _ _ hi] at T';have tl:∀ b,ak h.tv b→∃ c,aj wr b c 200:=fun b hb=>by
  obtain ⟨cs,hs,_⟩:=C.T;obtain ⟨_,c,hc⟩:=hs.own hb;exact ⟨c,hc⟩
 have ne:∀ {b:Nat} {c:List Value} {T:TypeId},aj wr b c T→T≠200→T≠96→¬ (ak h.tv b∨ak (tx i) b):=fun {b c T} hb h1 h2 e=>by
  rcases e with e | e
  ·obtain ⟨c',hc'⟩:=tl b e;exact hb.ne hc' h1 rfl
  ·obtain ⟨c',hc'⟩:=C.F i b e;exact hb.ne hc' h2 rfl
 have tn:∀ b,fX lb ib nv b→¬ (ak h.tv b∨ak (tx i) b):=fun b hb=>by
  obtain ⟨_,c,T,h1,h2⟩:=C.L.bB hb;refine ne h1 ?_ ?_
  ·rcases h2 with rfl | rfl | rfl <;> decide
  ·rcases h2 with rfl | rfl | rfl <;> decide
 have sn:∀ b,aF h.p rgv wv b→¬ (ak h.tv b∨ak (tx i) b):=fun b hb=>by
  rcases hb with rfl | hb | hb
  ·exact ne C.S.hp (by decide) (by decide)
  ·obtain ⟨_,c,hc⟩:=C.S.hr.own hb;exact ne hc (by decide) (by decide)
  ·obtain ⟨_,c,hc⟩:=C.S.hw.own hb;exact ne hc (by decide) (by decide)
 have cn:∀ b,aF cp cr cw b→¬ (ak h.tv b∨ak (tx i) b):=fun b hb=>by
  rcases hb with rfl | hb | hb
  ·exact ne C.C.hp (by decide) (by decide)
  ·obtain ⟨_,c,hc⟩:=C.C.hr.own hb;exact ne hc (by decide) (by decide)
  ·obtain ⟨_,c,hc⟩:=C.C.hw.own hb;exact ne hc (by decide) (by decide)
 have own:∀ j k,ak (tx' j) k→ak (tx j) k∧(j=i→is.getD i false=true):=fun j k hk=>by
  rw [e'] at hk;split at hk
  ·rename_i hb;exact ⟨hk,fun _=>hb⟩
  ·dsimp only at hk;split at hk
   ·exact absurd hk (by intro h;cases h)
   ·rename_i hj;exact ⟨hk,fun e=>absurd e hj⟩
 refine ⟨tx',⟨C.L.ab K' tn,K'.aq C.B (ne C.B (by decide) (by decide)),T',F',fun j b hb=>C.fo j b (own j b hb).1,C.S.ab K' sn,C.C.ab K' cn,C.R.ab K' (fun b hb e=>?_),C.K.then K' (fun k hk=>?_),C.sn,C.cn,C.ap,C.ln⟩,own⟩
 ·rcases e with e | e
  ·obtain ⟨c',hc'⟩:=tl b e;obtain ⟨_,c,hc⟩:=C.R.own hb;exact hc.ne hc' (by decide) rfl
  ·exact (H.af i b (C.fo i b e)).2.2 hb
 ·rcases hk with hk | hk
  ·exact .inl (.inr (.inl hk))
  ·exact .inl (.inr (.inr (.inr (.inr (.inr ⟨i,C.fo i k hk⟩)))))
theorem mx.done {cp:Nat} {is:List Bool} {ah wait:List (Int × Int)} {rgv wv cr cw:Value} {tx:Nat→Value} {n:Int} (C:mx w h W lb ib cb cp is ah wait nv rgv wv cr cw tx (kF is W.T) wr) (H:aQ w h W)
  {W':Wd} (e:W'={ W with T:=kF is W.T,ah:=ah,wait:=wait }) (hok:W'.ok) (hy:W'.az=0) (ho:W'.cm=n) (hl:∀ (i:Nat) k,ak (tx i) k→W'.live (i:Int)) :
  aS w h ((wr.setCell ⟨h.p,4,none⟩ (.int .i64 0)).setCell ⟨h.p,5,none⟩ (.int .i64 n)) W':=by
 have K:=((aa.refl (·=h.p) wr).setCell (p:=⟨h.p,4,none⟩) (.inl rfl) (.int .i64 0)).setCell (p:=⟨h.p,5,none⟩) (.inl rfl) (.int .i64 n);have ne:∀ {b:Nat} {c:List Value} {T:TypeId},aj wr b c T→T≠191→¬ b=h.p:=fun hb hT e=>hb.ne C.S.hp hT e;have hp2:aj ((wr.setCell ⟨h.p,4,none⟩ (.int .i64 0)).setCell ⟨h.p,5,none⟩ (.int .i64 n)) h.p [h.tv,h.rv,rgv,wv, .int .i64 0, .int .i64 n, .int .i64 W.most, .int .i64 W.grow] 191:=by
  simpa [dj.gx] using (C.S.hp.aG 4 (.int .i64 0)).aG 5 (.int .i64 n)
 subst e;refine ⟨⟨h.p,h.tv,h.rv,rgv,wv,tx⟩,⟨by rw [hy,ho];exact hp2,C.T.ab K (fun b hb=>?_) (fun i b hb=>?_),C.R.ab K (fun b hb=>?_),C.S.hr.ab K (fun b hb=>?_),C.S.hw.ab K (fun b hb=>?_),C.S.ap,fun i b hb=>?_,fun i j k h1 h2=>H.fi i j k (C.fo i k h1) (C.fo j k h2),hl,hok⟩,rfl,C.K.trans (K.mono (fun b _ e=>e ▸ .inl rfl)),fun b hb=>?_⟩
 ·obtain ⟨cs,hs,_⟩:=C.T;obtain ⟨_,c,hc⟩:=hs.own hb;exact ne hc (by decide)
 ·obtain ⟨c,hc⟩:=C.F i b hb;exact ne hc (by decide)
 ·obtain ⟨_,c,hc⟩:=C.R.own hb;exact ne hc (by decide)
 ·obtain ⟨_,c,hc⟩:=C.S.hr.own hb;exact ne hc (by decide)
 ·obtain ⟨_,c,hc⟩:=C.S.hw.own hb;exact ne hc (by decide)
 ·obtain ⟨c,hc⟩:=C.F i b hb;exact ⟨Nat.lt_of_lt_of_le hc.lt K.size,⟨c,K.aq hc (ne hc (by decide))⟩,(H.af i b (C.fo i b hb)).2.2⟩
 ·rcases hb with hb | hb | hb | hb | hb | ⟨i,hb⟩
  ·exact .inl (.inl hb)
  ·exact .inl (.inr (.inl hb))
  ·exact .inl (.inr (.inr (.inl hb)))
  ·rcases C.sn b (.inr (.inl hb)) with h1 | h1
   ·rcases h1 with h1 | h1 | h1
    ·exact .inl (.inl h1)
    ·exact .inl (.inr (.inr (.inr (.inl h1))))
    ·exact .inl (.inr (.inr (.inr (.inr (.inl h1)))))
   ·exact .inr h1
  ·rcases C.sn b (.inr (.inr hb)) with h1 | h1
   ·rcases h1 with h1 | h1 | h1
    ·exact .inl (.inl h1)
    ·exact .inl (.inr (.inr (.inr (.inl h1))))
    ·exact .inl (.inr (.inr (.inr (.inr (.inl h1)))))
   ·exact .inr h1
  ·exact .inl (.inr (.inr (.inr (.inr (.inr ⟨i,C.fo i b hb⟩)))))
theorem ua {g o n:Nat} {fo:Option Addr} {fc:Nat} (hg:g<w.heap.size) (hc:w.cell? ⟨g,o+1,none⟩=some (.slice fo n fc)) (hn:n≤1000) :
  Calls Tryz.prog 163 #[.pointer (some ⟨g,o,none⟩)] w fun e w'=>e=.returned (.int .i64 (1+(n:Int)))∧w=w':=by
 go_enter Tryz.func163,Tryz.ntmps163;go_wp2_with fail;go_ret;exact ⟨rfl,rfl⟩
theorem j8.copy {cp:Nat} {cr cw:Value} {ah wait:List (Int × Int)} (I:j8 w gp lb ib cb nv wr t) (S:aZ wr cp cr cw ah wait):∀ b,aF cp cr cw b→¬ (fX lb ib nv b∨b=cb):=fun b hb hk=>by
 rcases hk with hk | rfl
 ·obtain ⟨_,c,T,h1,h2⟩:=I.L.bB hk;refine S.nI h1 ?_ ?_ hb
  ·rcases h2 with rfl | rfl | rfl <;> decide
  ·rcases h2 with rfl | rfl | rfl <;> decide
 ·exact S.nI I.B (by decide) (by decide) hb
end
end
end Go.Proofs.YtjifdalflepcoacGreat
