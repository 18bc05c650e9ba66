/-
  Parts of the proof, merged: what the functions do, and plain laws.
-/
import Derived.Test.YtjifdalflepcoacGreatHDesP6
import Derived.Test.YtjifdalflepcoacGreatHDesP7
import Derived.Test.YtjifdalflepcoacGreatHDesP5
import Derived.Test.YtjifdalflepcoacGreatHDesP1
import Derived.Test.YtjifdalflepcoacGreatHDesP3
import Derived.Test.YtjifdalflepcoacGreatHDesP0
import Derived.Test.YtjifdalflepcoacGreatProg
import Derived.Test.YtjifdalflepcoacGreatHDesP2
set_option maxHeartbeats 16000000
set_option maxRecDepth 100000
set_option linter.unusedVariables false
set_option linter.unusedSimpArgs false
namespace Go.Proofs.YtjifdalflepcoacGreat
section
open Go.RowKit
theorem lk:∀ (l:List (Int × Int)) (g:Int),popW l g=if findG g l<l.length then some ((l.getD (findG g l) (0,0)).2,l.eraseIdx (findG g l)) else none
 | [],g=>rfl
 | e :: l,g=>by
  unfold popW findG;by_cases h:e.1=g
  ·simp [h]
  ·rw [if_neg h,if_neg h,lk l g];by_cases h2:findG g l<l.length
   ·rw [if_pos h2,if_pos (by simp;omega)];simp
   ·rw [if_neg h2,if_neg (by simp;omega)];rfl
section
variable {w w':World} {h:HH} {O O':Wo} {W:Wd} {φ:Int→Int}
theorem AA (n:Int) (R:aL O W φ) (B:bj w h O) :
  Calls Tryz.prog 144 #[.pointer (some ⟨h.p,0,none⟩), .int .i64 n] w (fY w h O n):=by
 by_cases hn:n≤(O.ar.nur:Int)-O.ar.yng
 ·exact rD n B hn
 have HB:=Hz B;have HR:=Hz R;have HE:=Hz (show O.room n=if (O.ar.yng:Int)≤(O.ar.ws.length:Int)-O.ar.grn then gQ O else dL O by unfold Wo.room;rw [if_neg hn]);have o1:=B.H.ok.ha.h1;have o2:=B.H.ok.ha.h2;have o3:=B.H.ok.ha.h3;have hn2:((O.ar.nur-O.ar.yng:Nat):Int)<n:=by omega
 have HFO:=Hz (show ((O.ar.ws.length-O.ar.grn:Nat):Int)=(O.ar.ws.length:Int)-O.ar.grn by omega);obtain ⟨b0,bl⟩:=B.pc;have q0:=B.H.dZ.1;have ql:=B.H.hp.lt;clear B R hn o1 o2 o3;go_enter Tryz.func144,Tryz.ntmps144;go_wp2_with fail;refine (jK _ HB.out.H.ha).mono ?_;rintro e w1 ⟨rfl,hk⟩;have B1:=Hz (HB.out.same hk);have K1:=Hz hk;clear hk b0 bl q0 ql;obtain ⟨b0,bl⟩:=B1.out.pc;have q0:=B1.out.H.dZ.1;have ql:=B1.out.H.hp.lt;generalize ((O.ar.nur-O.ar.yng:Nat):Int)=fr at *;generalize ((O.ar.ws.length-O.ar.grn:Nat):Int)=fo at *;go_wp2_with fail;refine (lH _ B1.out.H.ha).mono ?_;rintro e w2 ⟨rfl,hk⟩;have B2:=Hz (B1.out.same hk);have K2:=Hz (K1.out.trans hk);clear hk b0 bl q0 ql B1 K1;obtain ⟨b0,bl⟩:=B2.out.pc;rw [←HFO.out] at HE;unfold fY;obtain ⟨yg,hyg⟩:∃ y:Int,(O.ar.yng:Int)=y:=⟨_,rfl⟩;rw [hyg] at HE;rw [hyg];clear hyg;by_cases hy:yg≤fo
 ·have HE2:=Hz (show O.room n=gQ O by rw [HE.out,if_pos hy]);go_wp2_with fail;refine (qs HR.out B2.out.H).mono ?_;rintro e w5 ⟨rfl,ht⟩;have TO:=Hz (a6.aW K2.out (a6.qV B2.out ht));clear ht b0 bl;go_wp2_with fail;go_ret;unfold fY;rw [HE2.out];exact ⟨rfl,TO.out⟩
 ·have HE2:=Hz (show O.room n=dL O by rw [HE.out,if_neg hy]);have hy:fo<yg:=by omega
  go_wp2_with fail;refine (qD HR.out B2.out.H).mono ?_;rintro e w5 ⟨rfl,ht⟩;have TO:=Hz (a6.aW K2.out (a6.qV B2.out ht));clear ht b0 bl;go_wp2_with fail;go_ret;unfold fY;rw [HE2.out];exact ⟨rfl,TO.out⟩
theorem aL.xF (R:aL O W φ) {n:Int} (hn:n≤13) (h0:(O.room n).1=0):n≤((O.room n).2.ar.nur:Int)-(O.room n).2.ar.yng:=by
 obtain ⟨e,ψ,R'⟩:=R.room n;rw [R'.yT];rw [e] at h0;exact (R.hw.room n hn).2 h0
theorem eN.rep (R:aL O W φ) {n:Int} (hn:n≤13):eN h O n:=⟨fun w' B=>AA n R B,fun h0=>R.xF hn h0⟩
theorem nQ (n:Int) (w:World) (hn:-cA≤n∧n<cA):Calls Tryz.prog 147 #[.int .i64 n] w fun e w'=>e=.returned (.int .i64 (4*n))∧ab (fun _=>False) w w':=by
 have HEN:=Hz (xu n hn);have hn64:br n:=by unfold br;have:=hn.1;have:=hn.2;unfold cA at *;omega
 have HN:=Hz hn64;clear hn hn64;go_enter Tryz.func147,Tryz.ntmps147;go_wp2_with fail;refine (r5 1 n _ HN.out.1 HN.out.2).mono ?_;rintro e w2 ⟨rfl,hk⟩;rw [HEN.out];have HK:=Hz hk;clear hk;go_wp2_with fail;go_ret;exact ⟨rfl,HK.out⟩
def fA (O:Wo) (x:Int):Int × Int:=if O.jP x=true then (x,0) else (0,2)
theorem tD (k:Nat) (B:bj w h O) (hk:k<12) :
  Calls Tryz.prog 145 #[.pointer (some ⟨h.p,0,none⟩), .int .i64 k] w fun e w'=>e=.returned (.tuple #[.int .i64 (fA O (O.ba k)).1, .int .i64 (fA O (O.ba k)).2])∧ab (fun _=>False) w w':=by
 have HB:=Hz B;obtain ⟨b0,bl⟩:=B.pc;obtain ⟨g,o,cap,hro,hown,q0,q3,ql,gl,fz,rc⟩:=B.roots;have ra:=rc k hk;have hki:(k:Int)<12:=by omega
 have hkd:=fun w' (R:bp w' h.a O)=>sf (O.ba k) R;have HG:=Hz (show ∀ x,fA O x=if decide ((O.ar.a8 x).2.2.2=0) && decide ((O.ar.a8 x).2.1=5) then (x,0) else (0,2) from fun x=>rfl);clear hro hown fz rc B;have ra:w.cell? ⟨g,o+k,none⟩=some (.int .i64 (O.ba k)):=ra;generalize O.ba (k:Int)=va at *;have HG:=Hz (HG.out va);obtain ⟨⟨p1,kd,n1,e1⟩,hT1⟩:∃ t,O.ar.a8 va=t:=⟨_,rfl⟩;rw [hT1] at HG;simp only [hT1] at hkd;have HK:=Hz hkd;clear hkd hT1;go_enter Tryz.func145,Tryz.ntmps145;go_wp2_with fail;refine ay (.free 0 (.free 1 (.free 2 (.free 4 (.free 5 (.free 6 (.free 11 (.pure 3 (.pure 7 (.free 8 (.free 9 (.pure 10 (.free 12 (.pure 13 (.run 14 (.swi [] (.free 15 (.free 16 (.free 17 (.free 18 (.free 19 (.free 20 (.free 21 (.fin)))))))))))))))))))))))) [14,15,16,17,18,19,20,21] (fun w'=>w'.cell? ⟨h.p,0,none⟩=some (.pointer (some ⟨h.a.p,0,none⟩))∧w'.cell? ⟨h.a.p,3,none⟩=some (.slice (some ⟨g,o,none⟩) 12 cap)∧w'.cell? ⟨g,o+k,none⟩=some (.int .i64 va)) (by kernel_rfl) (by kernel_rfl) ⟨b0,q3,ra⟩ ?_
 iterate 14 ((first | refine au rfl rfl fun K hK=>?_ | refine aq rfl rfl fun K hK=>?_ | refine aF rfl rfl fun K hK=>?_ | refine az rfl rfl fun K hK=>?_ | refine aE rfl rfl fun K hK=>?_);go_simp;refine hK _ ?_;clear hK K)
 refine aJ rfl rfl rfl (fun K hK=>?_);unfold aC;go_simp;refine (HK.out _ (HB.out.same ((Kz w).drew)).H).mono ?_;rintro e3 w3 ⟨rfl,rfl⟩;refine hK _ _ ?_;clear hK K;refine aH (fun _=>True) trivial ?_
 iterate 7 ((first | refine au rfl rfl fun K hK=>?_ | refine aq rfl rfl fun K hK=>?_);go_simp;refine hK _ ?_;clear hK K)
 refine aB ?_;by_cases he1:e1=0
 ·subst he1;by_cases hk5:kd=5
  ·subst hk5;have HE:=Hz (show fA O va=(va,0) by rw [HG.out];rfl);go_wp2_with fail;go_ret2;rw [HE.out];exact ⟨rfl,(ab.refl _ _).drew⟩
  ·have hd:(kd != 5)=true:=by simpa using hk5
   have HE:=Hz (show fA O va=(0,2) by rw [HG.out];simp [hk5]);clear hk5;go_wp2_with fail;go_ret2;rw [HE.out];exact ⟨rfl,(ab.refl _ _).drew⟩
 ·have hd:(e1 != 0)=true:=by simpa using he1
  have HE:=Hz (show fA O va=(0,2) by rw [HG.out];simp [he1]);clear he1;go_wp2_with fail;go_ret2;rw [HE.out];exact ⟨rfl,(ab.refl _ _).drew⟩
end
end
section
open Go.RowKit
section
variable {w:World} {h:RW} {W:Wd}
theorem aZ.Cl {w1:World} {v':Value} {wt:List (Int × Int)} (H:aZ w h W) (hs:Sl w1 152 2 v' wt.length (aA wt)) (hk:ab (ai h.wv) w w1)
  (ho:∀ k,ai v' k→ai h.wv k∨w.heap.size≤k) (hok:Wd.ok { W with wait:=wt }):aK w h (w1.setCell ⟨h.p,3,none⟩ v') { W with wait:=wt }:=by
 have nE:∀ {b:Nat} {c:List Value} {T:TypeId},ah w b c T→T≠152→¬ ai h.wv b:=fun hb hT e=>by
  obtain ⟨_,c',hc'⟩:=H.hw.own e;exact hb.ne hc' hT rfl
 have hp1:=hk.ak H.hp (nE H.hp (by decide));have set:=(ab.refl (·=h.p) w1).setCell (p:=⟨h.p,3,none⟩) (.inl rfl) v';have np:∀ {b:Nat} {c:List Value} {T:TypeId},ah w1 b c T→T≠147→¬ b=h.p:=fun hb hT=>hb.ne hp1 hT;have kk:ab (fun b=>ai h.wv b∨b=h.p) w (w1.setCell ⟨h.p,3,none⟩ v'):=(hk.mono (fun _ _ h=>.inl h)).then set (fun b hb=>.inl (.inr hb));have nB:∀ {b:Nat} {c:List Value} {T:TypeId},ah w b c T→T≠152→T≠147→¬ (ai h.wv b∨b=h.p):=fun hb h1 h2 e=>by
  rcases e with e | e
  ·exact nE hb h1 e
  ·exact hb.ne H.hp h2 e
 refine ⟨⟨h.p,h.tv,h.rv,h.gv,v',h.F⟩,⟨by simpa using hp1.aO 3 v',H.ht.ae kk (fun b hb _=>?_) (fun b hb=>?_),H.hr.ae kk (fun b hb=>?_),H.hg.ae kk (fun b hb=>?_),hs.ae set (fun b hb=>?_),fun k hk'=>?_,fun k hk'=>?_,hok⟩,rfl,kk.mono (fun b _ hb=>?_),fun k hk'=>?_⟩
 ·obtain ⟨_,⟨c,hc⟩,_⟩:=H.af b hb;exact nB hc (by decide) (by decide)
 ·obtain ⟨cs,hs',_⟩:=H.ht;obtain ⟨_,c,hc⟩:=hs'.own hb;exact nB hc (by decide) (by decide)
 ·obtain ⟨_,c,hc⟩:=H.hr.own hb;exact nB hc (by decide) (by decide)
 ·rintro (e | e)
  ·exact H.ap b ⟨hb,e⟩
  ·obtain ⟨_,c,hc⟩:=H.hg.own hb;exact hc.ne H.hp (by decide) e
 ·obtain ⟨_,c,hc⟩:=hs.own hb;exact np hc (by decide)
 ·rcases ho k hk'.2 with e | e
  ·exact H.ap k ⟨hk'.1,e⟩
  ·have:=(H.hg.own hk'.1).1;omega
 ·obtain ⟨h1,⟨c,h2⟩,h3⟩:=H.af k hk';exact ⟨Nat.lt_of_lt_of_le h1 kk.size,⟨c,kk.ak h2 (nB h2 (by decide) (by decide))⟩,h3⟩
 ·rcases hb with hb | hb
  ·exact .inr (.inr (.inr (.inr (.inl hb))))
  ·exact .inl hb
 ·rcases hk' with hk' | hk' | hk' | hk' | hk' | hk'
  ·exact .inl (.inl hk')
  ·exact .inl (.inr (.inl hk'))
  ·exact .inl (.inr (.inr (.inl hk')))
  ·exact .inl (.inr (.inr (.inr (.inl hk'))))
  ·rcases ho k hk' with e | e
   ·exact .inl (.inr (.inr (.inr (.inr (.inl e)))))
   ·exact .inr e
  ·exact .inl (.inr (.inr (.inr (.inr (.inr hk')))))
theorem tE (l:List (Int × Int)):∀ u ∈ aA l,u.oneCell'=true:=by
 intro u hu;simp [aA] at hu;obtain ⟨a,b,-,rfl | rfl⟩:=hu <;> rfl
theorem Bw {a:Int} (h:W.guard a<0) (xr xb xi xn:Int) (hc:aX ⟨10,xr,a,xb,xi,xn⟩=0):W.do ⟨10,xr,a,xb,xi,xn⟩=(2,W):=by rw [cD hc];show Wd.pop _ _=_;unfold Wd.pop;dsimp only;rw [if_pos h]
theorem yX {a:Int} (h:¬ W.guard a<0) (h2:popW W.wait (W.guard a)=none) (xr xb xi xn:Int) (hc:aX ⟨10,xr,a,xb,xi,xn⟩=0):W.do ⟨10,xr,a,xb,xi,xn⟩=(4,W):=by rw [cD hc];show Wd.pop _ _=_;unfold Wd.pop;dsimp only;rw [if_neg h,h2]
theorem yY {a:Int} {q:Int × List (Int × Int)} (h:¬ W.guard a<0) (h2:popW W.wait (W.guard a)=some q) (r:Nat) (xb xi xn:Int) (hc:aX ⟨10,r,a,xb,xi,xn⟩=0):W.do ⟨10,r,a,xb,xi,xn⟩=(0, { W.cB r (3,q.1) with wait:=q.2 }):=by
 rw [cD hc];show Wd.pop _ _=_;unfold Wd.pop;dsimp only;rw [if_neg h,h2];rfl
theorem Wd.ok.Bx (h:W.ok) {wt:List (Int × Int)} (h1:∀ e ∈ wt,e ∈ W.wait) (h2:wt.length≤W.wait.length):Wd.ok { W with wait:=wt }:=by
 exact ⟨h.hr,h.rv,h.tk,h.tv,h.gv,fun e he=>h.wv e (h1 e he),by have:=h.hq;show W.av.length+wt.length≤24;omega,h.m1,h.m2,h.g1,h.g2,h.uy,h.uo⟩
theorem yZ (xr xa xb xi xn:Int) (H:aZ w h W) :
  Calls Tryz.prog 33 #[.pointer (some ⟨h.p,0,none⟩), .agg #[.int .i64 10, .int .i64 xr, .int .i64 xa, .int .i64 xb, .int .i64 xi, .int .i64 xn]] w fun e w'=>e=.returned (.int .i64 (W.do ⟨10,xr,xa,xb,xi,xn⟩).1)∧aK w h w' (W.do ⟨10,xr,xa,xb,xi,xn⟩).2:=by
 have HH:=Hz H;have aw:ah (w.alloc (.cells #[.int .i64 10, .int .i64 xr, .int .i64 xa, .int .i64 xb, .int .i64 xi, .int .i64 xn] 69)) w.heap.size [.int .i64 10, .int .i64 xr, .int .i64 xa, .int .i64 xb, .int .i64 xi, .int .i64 xn] 69:=ah.newAt _ rfl rfl;have HB:=Hz aw;have KA:=Hz ((Kz w).alloc (.cells #[.int .i64 10, .int .i64 xr, .int .i64 xa, .int .i64 xb, .int .i64 xi, .int .i64 xn] 69));have s0:=aw.cell 0;have s1:=aw.cell 1;have s2:=aw.cell 2;have s3:=aw.cell 3;have s4:=aw.cell 4;have s5:=aw.cell 5;simp only [Lz,Ls] at s0 s1 s2 s3 s4 s5;have HSF:=Hz (fun w=>cj ⟨10,xr,xa,xb,xi,xn⟩ w);obtain ⟨c,hc⟩:∃ c,aX ⟨10,xr,xa,xb,xi,xn⟩=c:=⟨_,rfl⟩;rw [hc] at HSF;have HC:=Hz hc;clear H aw hc;go_enter Tryz.func33,Tryz.ntmps33;go_wp2_with (refine aV rfl 69 (.tmp 3) rfl [.int .i64 10, .int .i64 xr, .int .i64 xa, .int .i64 xb, .int .i64 xi, .int .i64 xn] (by kernel_rfl) w.heap.size 0 rfl (aa s0 (aa s1 (aa s2 (aa s3 (aa s4 (aa s5 aQ)))))) ?_);refine (HSF.out _).mono ?_;rintro e w1 ⟨rfl,hk⟩;have H1:=Hz ((HH.out.same KA.out).same hk);have K1:=Hz (KA.out.trans hk);have B1:=Hz (hk.ak HB.out (fun h=>h));clear hk s0 s1 s2 s3 s4 s5 HSF KA HB;generalize w.heap.size=sb at *;have s0:=B1.out.cell 0;have s1:=B1.out.cell 1;have s2:=B1.out.cell 2;have s3:=B1.out.cell 3;have s4:=B1.out.cell 4;have s5:=B1.out.cell 5;have sl:=B1.out.lt;simp only [Lz,Ls] at s0 s1 s2 s3 s4 s5;by_cases h0:¬ c=0
 ·have HE:=Hz (fj (W:=W) HC.out h0);have hd:(c != 0)=true:=by simpa using h0
  clear h0;go_wp2_with fail;go_ret;exact ⟨by rw [HE.out];rfl,by rw [HE.out];exact aK.same HH.out K1.out⟩
 have h0:c=0:=Classical.not_not.1 h0;subst h0;have hr:0≤xr∧xr<12:=(aN _).1 ((aI HC.out).2.1 (show aR 10%2=1 by decide));obtain ⟨r,rfl⟩:∃ r:Nat,xr=r:=⟨xr.toNat,by omega⟩;have hr12:r<12:=by omega
 clear hr;have ha:0≤xa∧xa<12:=(aN _).1 ((aI HC.out).2.2.1 (show aR 10/2%2=1 by decide));obtain ⟨a,rfl⟩:∃ a:Nat,xa=a:=⟨xa.toNat,by omega⟩;have ha12:a<12:=by omega
 clear ha;have pl:=H1.out.hp.lt;have HP0:=Hz (show W.guard (a:Int)<0→W.do ⟨10,r,a,xb,xi,xn⟩=(2,W) from fun h=>Bw (W:=W) (a:=(a:Int)) h r xb xi xn HC.out);have HPN:=Hz (show ¬ W.guard (a:Int)<0→popW W.wait (W.guard (a:Int))=none→W.do ⟨10,r,a,xb,xi,xn⟩=(4,W) from fun h h2=>yX (W:=W) (a:=(a:Int)) h h2 r xb xi xn HC.out);have HPS:=Hz (show ¬ W.guard (a:Int)<0→∀ q,popW W.wait (W.guard (a:Int))=some q→W.do ⟨10,r,a,xb,xi,xn⟩=(0, { W.cB r (3,q.1) with wait:=q.2 }) from fun h q h2=>yY (W:=W) (a:=(a:Int)) (q:=q) h h2 r xb xi xn HC.out);have HGD:=Hz (sA a ha12 H1.out);generalize W.guard (a:Int)=gi at *;go_wp2_with fail;refine HGD.out.mono ?_;rintro e w2 ⟨rfl,hk⟩;have H2:=Hz (H1.out.same hk);have K2:=Hz (K1.out.trans hk);have B2:=Hz (hk.ak B1.out (fun h=>h));clear hk s0 s1 s2 s3 s4 s5 sl pl HGD B1 H1 K1;have pl:=H2.out.hp.lt;by_cases hgi:gi<0
 ·have HE:=Hz (HP0.out hgi);go_wp2_with fail;go_ret;exact ⟨by rw [HE.out];rfl,by rw [HE.out];exact aK.same HH.out K2.out⟩
 have HPN:=Hz (HPN.out (by omega));have HPS:=Hz (HPS.out (by omega));have hgi:0≤gi:=by omega
 have hq:=H2.out.ok.hq;have hwl:W.wait.length≤24:=by omega
 clear HP0 hq;go_wp2_with fail;go_loopw [10] (fun u wr=>wr=w2∧∃ k:Nat,k≤W.wait.length∧u=.int .i64 k∧∀ j,j<k→(W.wait.getD j (0,0)).1≠gi) (fun u _=>W.wait.length-(intOf u).toNat)
 case atStart=>exact ⟨rfl,0,Nat.zero_le _,rfl,fun j hj=>by omega⟩
 case round=>
  obtain ⟨rfl,k,hk,rfl,hall⟩:=hrel;have HALL:=Hz hall;clear hall;obtain ⟨-,-,-,c3,-,-⟩:=H2.out.cells;by_cases hlt:k<W.wait.length
  ·obtain ⟨gw,ow,cw,cur,ewv,hb,hnc,hcm,hoc,hx⟩:=H2.out.hw.laid (by omega);have HW:=Hz H2.out.hw;rw [ewv] at c3;have hrd:Rd wr (some ⟨gw,ow,none⟩) (aA W.wait):=Rd.ak hb ow _ (by rw [bH];exact hx);obtain ⟨_,_,e',hgl,d0,d1⟩:=hrd.il k hlt;cases e';have HBK:=Hz hb;have HEW:=Hz ewv;have HX:=Hz hx;obtain ⟨v,hv⟩:∃ v,W.wait.getD k (0,0)=v:=⟨_,rfl⟩;rw [hv] at d0 d1;have HV:=Hz hv;clear hb ewv hx hrd hv;have hki:(k:Int)<W.wait.length:=by omega
   obtain ⟨v1,v2⟩:=v;dsimp only at d0 d1;by_cases hvg:v1=gi
   ·have hfd:findG gi W.wait=k:=lU hlt HALL.out (by rw [HV.out];exact hvg);have hpw:=lk W.wait gi;rw [hfd,if_pos hlt,HV.out] at hpw;have HE:=Hz (HPS.out _ hpw);dsimp only at HE;have hpm:=kE hpw;have HWO:=Hz (H2.out.ok.wv _ hpm.1);have HPM:=Hz (show (∀ e ∈ W.wait.eraseIdx k,e ∈ W.wait)∧(W.wait.eraseIdx k).length+1=W.wait.length from ⟨hpm.2.1,hpm.2.2⟩);subst hvg;clear HPN HPS hfd hpw hpm HALL;obtain ⟨g,o,rc,erv,hg,-,-⟩:=H2.out.root hr12;have hrl:W.roots.length=12:=H2.out.ok.hr;obtain ⟨-,c1,-,-,-,-⟩:=H2.out.cells;have hrs:=H2.out.hr;rw [erv,hrl] at c1 hrs;have RS:=Hz hrs;have ERV:=Hz erv;have HRL:=Hz hrl;have h12:(r:Int)<12:=by omega
    clear erv hrl hrs;have s1:=B2.out.cell 1;have sl:=B2.out.lt;simp only [Lz,Ls] at s1;have HV:=Hz (show W.cI (3,v2) from .inr (.inr (.inr ⟨rfl,HWO.out.2.2⟩)));go_wp2_with fail;refine ay (.free 0 (.free 1 (.free 2 (.free 4 (.free 6 (.free 7 (.free 8 (.free 10 (.pure 3 (.pure 5 (.pure 9 (.free 11 (.free 12 (.pure 13 (.free 14 (.free 15 (.run 16 (.swi [] (.fin))))))))))))))))))) [16] (fun w'=>w'.cell? ⟨h.p,1,none⟩=some (.slice (some ⟨g,o,none⟩) 12 rc)∧w'.cell? ⟨sb,1,none⟩=some (.int .i64 r)∧w'.cell? ⟨h.p,3,none⟩=some (.slice (some ⟨gw,ow,none⟩) W.wait.length cw)∧w'.cell? ⟨gw,ow+k*2+1,none⟩=some (.int .i64 v2)) (by kernel_rfl) (by kernel_rfl) ⟨c1,s1,c3,d1⟩ ?_
    iterate 16 ((first | refine au rfl rfl fun K hK=>?_ | refine aq rfl rfl fun K hK=>?_ | refine aF rfl rfl fun K hK=>?_ | refine az rfl rfl fun K hK=>?_ | refine aE rfl rfl fun K hK=>?_);go_simp;refine hK _ ?_;clear hK K)
    refine aJ rfl rfl rfl (fun K hK=>?_);refine cr 96 (.tmp 205) (.tmp 204) rfl rfl g o 12 rc r (aA W.roots) 96 (.int .i64 (3)) (.int .i64 (v2)) rfl rfl (RS.out.ae (Kz wr).drew (fun _ _ h=>h)) hr12 (by kernel_rfl) rfl rfl ?_;intro w3 hs3 hk3 hz3;refine hK _ _ ?_;clear hK K;refine aH (fun _=>True) trivial (aB ?_);have hkw:ab (·=g) wr w3:=((Kz wr).drew.mono (fun _ _ h=>h.elim)).trans hk3;have TO:=Hz (aK.aW K2.out (H2.out.fN (w':=w3) (by rw [ERV.out]) hr12 HV.out (by rw [HRL.out];exact hs3) hkw));clear hkw hs3 hk3 hz3;obtain ⟨h3,H3',ep3,k3,o3⟩:=TO.out;have H3:=Hz H3';have EP3:=Hz ep3;have K3:=Hz k3;have O3:=Hz o3;rw [←ep3];clear TO H3' k3 o3 c1 s1 c3 d1 d0 sl pl hgl hg ep3 HBK HX HEW HW hnc hcm hoc RS;have hw3:Sl w3 152 2 h3.wv W.wait.length (aA W.wait):=H3.out.hw;have HW3:=Hz hw3;obtain ⟨gw,ow,cw,cur,ewv,hb,hnc,hcm,hoc,hx⟩:=hw3.laid (by omega);obtain ⟨-,-,-,c3,-,-⟩:=H3.out.cells;have pl:=H3.out.hp.lt;rw [ewv] at c3;have HBK:=Hz hb;have HX:=Hz hx;have HEW:=Hz ewv;have HOC:=Hz hoc;clear hw3 hb hx ewv hoc;obtain ⟨m,hm⟩:∃ m,W.wait.length=k+1+m:=⟨W.wait.length-k-1,by omega⟩;have HM:=Hz hm;rw [hm] at c3;obtain ⟨ad,had⟩:∃ ad,(if cw=k+1 then some (⟨gw,ow,none⟩:Addr) else some ⟨gw,ow+(k+1)*2,none⟩)=ad:=⟨_,rfl⟩;have HAD:=Hz had;obtain ⟨ir,hi,hz0,hz1,hz2⟩:=cZ nA;have Ri:=Hz hi;have Rz0:=Hz hz0;have Rz1:=Hz hz1;have Rz2:=Hz hz2;clear hi hz0 hz1 hz2;have b1:(0:Int)≤(k:Int)+1:=by omega
    have b2:(k:Int)+1≤((k+1+m:Nat):Int):=by omega
    have b3:(k:Int)+1≤(k:Int)+1+(m:Int):=by omega
    have b4:(k:Int)≤(cw:Int):=by omega
    have b5:(k:Int)≤((k+1+m:Nat):Int):=by omega
    have b6:(k:Int)≤(k:Int)+1+(m:Int):=by omega
    have HBD:=Hz (show k+1+m≤cw∧k+1+m≤24 by omega);have wr1:IntKind.i64.wrap ((k:Int)+1)=k+1:=IntWalk.i64_in _ (by omega);clear hm hki hlt hk hwl hnc;go_wp2_with fail;refine ay (.free 0 (.free 1 (.free 2 (.free 3 (.free 4 (.free 6 (.free 9 (.free 10 (.free 11 (.free 13 (.free 14 (.pure 5 (.free 7 (.pure 12 (.free 15 (.run 8 (.run 16 (.swi [19] (.free 17 (.free 18 (.run 19 (.swi [] (.fin))))))))))))))))))))))) [16,17,18,19] (fun w'=>w'.cell? ⟨h3.p,3,none⟩=some (.slice (some ⟨gw,ow,none⟩) (k+1+m) cw)) (by kernel_rfl) (by kernel_rfl) c3 ?_
    iterate 15 ((first | refine au rfl rfl fun K hK=>?_ | refine aq rfl rfl fun K hK=>?_ | refine aF rfl rfl fun K hK=>?_ | refine az rfl rfl fun K hK=>?_ | refine aE rfl rfl fun K hK=>?_);go_simp;refine hK _ ?_;clear hK K)
    refine aM rfl rfl (fun K hK=>?_);have hr0:Rd w3.drew (some ⟨gw,ow,none⟩) ((aA W.wait).take (k*2)):=Rd.ak HBK.out.drew ow _ (by
     rw [List.length_take,bH,Nat.min_eq_left (by have:=HM.out;omega),←HX.out,List.take_take,Nat.min_eq_left (by have:=HM.out;omega)])
    refine qX (.tmp 207) (.tmp 213) 145 rfl 152 ir (.agg #[.int .i64 0, .int .i64 0]) 2 16 Tryz.underlying145 Ri.out Rz0.out Rz1.out Rz2.out rfl (by decide) _ 0 [] rfl (Sl.nil _ _ _) (some ⟨gw,ow,none⟩) k cw ((aA W.wait).take (k*2)) rfl (by rw [List.length_take,bH];have:=HM.out;omega) hr0 (fun u hu=>tE _ u (List.mem_of_mem_take hu)) (by have:=HBD.out;unfold maxLen;omega) (by have:=HBD.out;omega) ?_;intro v4 w4 hs4 hk4 ho4;have hk4':ab (fun _=>False) w3 w4:=((Kz w3).drew).trans (hk4.mono (fun j _ hj=>(bM hj).elim));have H4:=Hz (H3.out.same hk4');have BK4:=Hz (hk4'.ak HBK.out (fun h=>h));have K4:=Hz hk4';have SL4:=Hz hs4;have O4:=Hz (show ∀ j,ai v4 j→w3.heap.size≤j from fun j hj=>by
     rcases ho4 j hj with h1 | h1
     ·exact (bM h1).elim
     ·exact h1)
    refine hK _ _ (fun _=>by have:=H4.out.cells.2.2.2.1;rw [HEW.out,HM.out] at this;exact this) ?_;clear hK K hs4 hk4 hk4' ho4 hr0;have hr1:Rd w4 ad ((aA W.wait).drop ((k+1)*2)):=by
     by_cases hcc:cw=k+1
     ·have hz:(aA W.wait).drop ((k+1)*2)=[]:=by
       apply List.drop_eq_nil_of_le;rw [bH];have:=HM.out;have:=HBD.out;omega
      rw [hz];exact Rd.nil _ _
     ·have:ad=some ⟨gw,ow+(k+1)*2,none⟩:=by rw [←HAD.out,if_neg hcc]
      subst this;refine Rd.ak BK4.out _ _ ?_;rw [List.length_drop,bH]
      conv=>rhs;rw [←HX.out]
      rw [List.drop_take,List.drop_drop]
    refine aJ rfl rfl rfl (fun K hK=>?_);refine qX (.tmp 214) (.tmp 221) 145 rfl 152 ir (.agg #[.int .i64 0, .int .i64 0]) 2 16 Tryz.underlying145 Ri.out Rz0.out Rz1.out Rz2.out rfl (by decide) _ (0+k) ([] ++ (aA W.wait).take (k*2)) rfl SL4.out ad m (cw-(k+1)) ((aA W.wait).drop ((k+1)*2)) ?hx (by rw [List.length_drop,bH];have:=HM.out;omega) hr1 (fun u hu=>tE _ u (List.mem_of_mem_drop hu)) (by have:=HBD.out;unfold maxLen;omega) (by have:=HBD.out;omega) ?_
    case hx=>
     simp only [Act.eval,Act.put]
     go_simp
    intro v5 w5 hs5 hk5 ho5;have hlen:(W.wait.eraseIdx k).length=0+k+m:=by rw [List.length_eraseIdx,if_pos (by have:=HM.out;omega)];have:=HM.out;omega
    have hs5':Sl w5 152 2 v5 (W.wait.eraseIdx k).length (aA (W.wait.eraseIdx k)):=by
     rw [hlen];have e2:aA (W.wait.eraseIdx k)=[] ++ (aA W.wait).take (k*2) ++ (aA W.wait).drop ((k+1)*2):=by rw [jZ (by have:=HM.out;omega)];rfl
     rw [e2];exact hs5
    obtain ⟨vo5,vc5,rfl,-,-,-⟩:=hs5'.rd;have hkk:ab (fun _=>False) w3 w5:=K4.out.then hk5 (fun j hj=>.inr (O4.out j hj));have hto:=H3.out.Cl (w1:=w5) hs5' (hkk.mono (fun _ _ h=>h.elim)) (fun j hj=>.inr (by
     rcases ho5 j hj with h1 | h1
     ·exact O4.out j h1
     ·exact Nat.le_trans K4.out.size h1)) (H3.out.ok.Bx HPM.out.1 (by have:=HPM.out.2;show (W.wait.eraseIdx k).length≤W.wait.length;omega))
    have hp5:=hkk.ak H3.out.hp (fun h=>h);have TO:=Hz (aK.step EP3.out K3.out O3.out hto);have x0:=hp5.cell 3;have xl:=hp5.lt;have xf:=hp5.free 3;simp only [Lz,Ls] at x0;refine hK _ _ ?_;clear hK K hs5 hs5' hk5 ho5 hlen hkk hto hp5 c3 pl hr1;refine aH (fun _=>True) trivial ?_
    iterate 2 ((first | refine au rfl rfl fun K hK=>?_ | refine aq rfl rfl fun K hK=>?_);go_simp;refine hK _ ?_;clear hK K)
    refine aJ rfl rfl rfl (fun K hK=>?_);unfold aC;go_simp;refine hK _ _ ?_;clear hK K;refine aH (fun _=>True) trivial (aB ?_);clear x0 xl xf;go_wp2_with fail;go_ret;exact ⟨by rw [HE.out];rfl,by rw [HE.out];exact TO.out⟩
   ·have hne:(v1 == gi)=false:=by simpa using hvg
    have HAN:=Hz (show ∀ j,j<k+1→(W.wait.getD j (0,0)).1≠gi from fun j hj=>by
     by_cases e:j=k
     ·subst e;rw [HV.out];exact hvg
     ·exact HALL.out j (by omega))
    clear hvg;go_wp2_with fail;go_roundw
    case rel=>exact ⟨by trivial,k+1,hlt,by go_num,HAN.out⟩
    case measure=>simp [intOf];omega
  ·obtain rfl:k=W.wait.length:=by omega
   have hpw:=lk W.wait gi;rw [if_neg (by rw [lV (fun j hj=>HALL.out j hj)];omega)] at hpw;have HE:=Hz (HPN.out hpw);obtain ⟨wo,wc,ewv,-,-,-⟩:=H2.out.hw.rd;rw [ewv] at c3;clear hpw ewv;go_wp2_with fail;go_ret;exact ⟨by rw [HE.out];rfl,by rw [HE.out];exact aK.same HH.out K2.out⟩
end
end
section
open Go.RowKit
section
variable {w:World} {h:RW} {W:Wd}
theorem y3 (xr xa xb xi xn:Int) (H:aZ w h W) :
  Calls Tryz.prog 33 #[.pointer (some ⟨h.p,0,none⟩), .agg #[.int .i64 2, .int .i64 xr, .int .i64 xa, .int .i64 xb, .int .i64 xi, .int .i64 xn]] w fun e w'=>e=.returned (.int .i64 (W.do ⟨2,xr,xa,xb,xi,xn⟩).1)∧aK w h w' (W.do ⟨2,xr,xa,xb,xi,xn⟩).2:=by
 have HH:=Hz H;have aw:ah (w.alloc (.cells #[.int .i64 2, .int .i64 xr, .int .i64 xa, .int .i64 xb, .int .i64 xi, .int .i64 xn] 69)) w.heap.size [.int .i64 2, .int .i64 xr, .int .i64 xa, .int .i64 xb, .int .i64 xi, .int .i64 xn] 69:=ah.newAt _ rfl rfl;have HB:=Hz aw;have KA:=Hz ((Kz w).alloc (.cells #[.int .i64 2, .int .i64 xr, .int .i64 xa, .int .i64 xb, .int .i64 xi, .int .i64 xn] 69));have s0:=aw.cell 0;have s1:=aw.cell 1;have s2:=aw.cell 2;have s3:=aw.cell 3;have s4:=aw.cell 4;have s5:=aw.cell 5;simp only [Lz,Ls] at s0 s1 s2 s3 s4 s5;have HSF:=Hz (fun w=>cj ⟨2,xr,xa,xb,xi,xn⟩ w);obtain ⟨c,hc⟩:∃ c,aX ⟨2,xr,xa,xb,xi,xn⟩=c:=⟨_,rfl⟩;rw [hc] at HSF;have HC:=Hz hc;clear H aw hc;go_enter Tryz.func33,Tryz.ntmps33;go_wp2_with (refine aV rfl 69 (.tmp 3) rfl [.int .i64 2, .int .i64 xr, .int .i64 xa, .int .i64 xb, .int .i64 xi, .int .i64 xn] (by kernel_rfl) w.heap.size 0 rfl (aa s0 (aa s1 (aa s2 (aa s3 (aa s4 (aa s5 aQ)))))) ?_);refine (HSF.out _).mono ?_;rintro e w1 ⟨rfl,hk⟩;have H1:=Hz ((HH.out.same KA.out).same hk);have K1:=Hz (KA.out.trans hk);have B1:=Hz (hk.ak HB.out (fun h=>h));clear hk s0 s1 s2 s3 s4 s5 HSF KA HB;generalize w.heap.size=sb at *;have s0:=B1.out.cell 0;have s1:=B1.out.cell 1;have s5:=B1.out.cell 5;have sl:=B1.out.lt;simp only [Lz,Ls] at s0 s1 s5;by_cases h0:c=0
 ·subst h0;have hr:=(aI HC.out).2.1 (show aR 2%2=1 by decide);have hr:0≤xr∧xr<12:=(aN _).1 hr;have HE:=Hz (show W.do ⟨2,xr,xa,xb,xi,xn⟩=(0,W.cB xr (0,0)) by rw [cD HC.out];rfl);have HN:=Hz (show W.cI (0,0) from .inl ⟨rfl,rfl⟩);obtain ⟨r,rfl⟩:∃ r:Nat,xr=r:=⟨xr.toNat,by omega⟩;have hr12:r<12:=by omega
  obtain ⟨g,o,rc,erv,hg,-,-⟩:=H1.out.root hr12;have hrl:W.roots.length=12:=H1.out.ok.hr;obtain ⟨-,c1,-,-,-,-⟩:=H1.out.cells;have pl:=H1.out.hp.lt;have hrs:=H1.out.hr;rw [erv,hrl] at c1 hrs;have RS:=Hz hrs;have ERV:=Hz erv;have HRL:=Hz hrl;have h12:(r:Int)<12:=by omega
  clear erv hrl hrs hr;go_wp2_with fail;refine ay (.free 0 (.free 1 (.free 2 (.free 4 (.free 6 (.pure 3 (.pure 5 (.free 7 (.run 8 (.swi [] (.fin))))))))))) [8] (fun w'=>w'.cell? ⟨h.p,1,none⟩=some (.slice (some ⟨g,o,none⟩) 12 rc)∧w'.cell? ⟨sb,1,none⟩=some (.int .i64 r)) (by kernel_rfl) (by kernel_rfl) ⟨c1,s1⟩ ?_
  iterate 8 ((first | refine au rfl rfl fun K hK=>?_ | refine aq rfl rfl fun K hK=>?_ | refine aF rfl rfl fun K hK=>?_ | refine az rfl rfl fun K hK=>?_ | refine aE rfl rfl fun K hK=>?_);go_simp;refine hK _ ?_;clear hK K)
  refine aJ rfl rfl rfl (fun K hK=>?_);refine cr 96 (.tmp 44) (.tmp 43) rfl rfl g o 12 rc r (aA W.roots) 96 (.int .i64 0) (.int .i64 0) rfl rfl (RS.out.ae (Kz w1).drew (fun _ _ h=>h)) hr12 (by kernel_rfl) rfl rfl ?_;intro w3 hs3 hk3 hz3;refine hK _ _ ?_;clear hK K;refine aH (fun _=>True) trivial (aB ?_);have hkw:ab (·=g) w1 w3:=((Kz w1).drew.mono (fun _ _ h=>h.elim)).trans hk3;have TO:=Hz (aK.aW K1.out (H1.out.fN (w':=w3) (by rw [ERV.out]) hr12 HN.out (by rw [HRL.out];exact hs3) hkw));clear hkw hs3 hk3 hz3 c1 s1 s5 s0;go_wp2_with fail;go_ret;exact ⟨by rw [HE.out];rfl,by rw [HE.out];exact TO.out⟩
 ·have HE:=Hz (fj (W:=W) HC.out h0);have hd:(c != 0)=true:=by simpa using h0
  clear h0;go_wp2_with fail;go_ret;exact ⟨by rw [HE.out];rfl,by rw [HE.out];exact aK.same HH.out K1.out⟩
end
end
section
open Go.RowKit
section
variable {w:World} {h:RW} {W:Wd}
theorem y4 (xr xa xb xi xn:Int) (H:aZ w h W) :
  Calls Tryz.prog 33 #[.pointer (some ⟨h.p,0,none⟩), .agg #[.int .i64 11, .int .i64 xr, .int .i64 xa, .int .i64 xb, .int .i64 xi, .int .i64 xn]] w fun e w'=>e=.returned (.int .i64 (W.do ⟨11,xr,xa,xb,xi,xn⟩).1)∧aK w h w' (W.do ⟨11,xr,xa,xb,xi,xn⟩).2:=by
 have HH:=Hz H;have aw:ah (w.alloc (.cells #[.int .i64 11, .int .i64 xr, .int .i64 xa, .int .i64 xb, .int .i64 xi, .int .i64 xn] 69)) w.heap.size [.int .i64 11, .int .i64 xr, .int .i64 xa, .int .i64 xb, .int .i64 xi, .int .i64 xn] 69:=ah.newAt _ rfl rfl;have HB:=Hz aw;have KA:=Hz ((Kz w).alloc (.cells #[.int .i64 11, .int .i64 xr, .int .i64 xa, .int .i64 xb, .int .i64 xi, .int .i64 xn] 69));have s0:=aw.cell 0;have s1:=aw.cell 1;have s2:=aw.cell 2;have s3:=aw.cell 3;have s4:=aw.cell 4;have s5:=aw.cell 5;simp only [Lz,Ls] at s0 s1 s2 s3 s4 s5;have HSF:=Hz (fun w=>cj ⟨11,xr,xa,xb,xi,xn⟩ w);obtain ⟨c,hc⟩:∃ c,aX ⟨11,xr,xa,xb,xi,xn⟩=c:=⟨_,rfl⟩;rw [hc] at HSF;have HC:=Hz hc;clear H aw hc;go_enter Tryz.func33,Tryz.ntmps33;go_wp2_with (refine aV rfl 69 (.tmp 3) rfl [.int .i64 11, .int .i64 xr, .int .i64 xa, .int .i64 xb, .int .i64 xi, .int .i64 xn] (by kernel_rfl) w.heap.size 0 rfl (aa s0 (aa s1 (aa s2 (aa s3 (aa s4 (aa s5 aQ)))))) ?_);refine (HSF.out _).mono ?_;rintro e w1 ⟨rfl,hk⟩;have H1:=Hz ((HH.out.same KA.out).same hk);have K1:=Hz (KA.out.trans hk);have B1:=Hz (hk.ak HB.out (fun h=>h));clear hk s0 s1 s2 s3 s4 s5 HSF KA HB;generalize w.heap.size=sb at *;have s0:=B1.out.cell 0;have s1:=B1.out.cell 1;have s2:=B1.out.cell 2;have s3:=B1.out.cell 3;have s4:=B1.out.cell 4;have s5:=B1.out.cell 5;have sl:=B1.out.lt;simp only [Lz,Ls] at s0 s1 s2 s3 s4 s5;by_cases h0:¬ c=0
 ·have HE:=Hz (fj (W:=W) HC.out h0);have hd:(c != 0)=true:=by simpa using h0
  clear h0;go_wp2_with fail;go_ret;exact ⟨by rw [HE.out];rfl,by rw [HE.out];exact aK.same HH.out K1.out⟩
 have h0:c=0:=Classical.not_not.1 h0;subst h0;have ha:0≤xa∧xa<12:=(aN _).1 ((aI HC.out).2.2.1 (show aR 11/2%2=1 by decide));obtain ⟨a,rfl⟩:∃ a:Nat,xa=a:=⟨xa.toNat,by omega⟩;have ha12:a<12:=by omega
 clear ha;have hth:=kF a ha12 H1.out;have htl:=Wd.dT (W:=W) (k:=(a:Int)) H1.out.ok;obtain ⟨ti,hti⟩:∃ ti,W.aj (a:Int)=ti:=⟨_,rfl⟩;rw [hti] at hth htl;have HTI:=Hz hti;have HTH:=Hz hth;have HTL:=Hz (fun (hn:0≤ti)=>htl (by omega));clear hti hth htl;have pl:=H1.out.hp.lt;go_wp2_with fail;refine HTH.out.mono ?_;rintro e w2 ⟨rfl,hk⟩;have H2:=Hz (H1.out.same hk);have K2:=Hz (K1.out.trans hk);have B2:=Hz (hk.ak B1.out (fun h=>h));clear hk s0 s1 s2 s3 s4 s5 sl pl HTH B1 H1 K1;have s0:=B2.out.cell 0;have s1:=B2.out.cell 1;have s2:=B2.out.cell 2;have s3:=B2.out.cell 3;have s4:=B2.out.cell 4;have sl:=B2.out.lt;have pl:=H2.out.hp.lt;simp only [Lz,Ls] at s0 s1 s2 s3 s4;by_cases hi:ti<0
 ·have hd:decide (ti<0)=true:=by simpa using hi
  have HF:=Hz (show W.cP ⟨11,xr,a,xb,xi,xn⟩=2 by unfold Wd.cP;dsimp only;rw [HTI.out,if_pos (.inl hi)]);have HE:=Hz (show W.do ⟨11,xr,a,xb,xi,xn⟩=(2,W) by rw [cD HC.out];show Wd.get _ _=_;unfold Wd.get;rw [HF.out];rfl);clear hi;go_wp2_with fail;go_ret;exact ⟨by rw [HE.out];rfl,by rw [HE.out];exact aK.same HH.out K2.out⟩
 have hd:decide (ti<0)=false:=by simpa using hi
 have HLV:=Hz (HTL.out (by omega));obtain ⟨m,rfl,g0,o0,nc,ao,fc,etv,hm,hg0,t0,t1,hrd,hog⟩:=H2.out.nth HLV.out;obtain ⟨c0,-,-,-,-,-⟩:=H2.out.cells;rw [etv] at c0;have HRD:=Hz hrd;have HOG:=Hz hog;have ETV:=Hz etv;have HTI2:=Hz (show W.aj (a:Int)=(m:Int) from HTI.out);have HFB:=Hz (Wd.mg H2.out.ok HLV.out);clear hi HTL hrd hog etv HTI;by_cases h5:(W.th m).k=5
 ·have HF:=Hz (show W.cP ⟨11,xr,a,xb,xi,xn⟩=2 by unfold Wd.cP;dsimp only;rw [HTI2.out,if_pos (.inr h5)]);have HE:=Hz (show W.do ⟨11,xr,a,xb,xi,xn⟩=(2,W) by rw [cD HC.out];show Wd.get _ _=_;unfold Wd.get;rw [HF.out];rfl);rw [h5] at t0;clear h5;go_wp2_with fail;go_ret;exact ⟨by rw [HE.out];rfl,by rw [HE.out];exact aK.same HH.out K2.out⟩
 have hb5:((W.th m).k == 5)=false:=by simpa using h5
 have HFC:=Hz (show W.cP ⟨11,xr,a,xb,xi,xn⟩=if xi<0∨((W.th m).fs.length:Int)≤xi then 1 else 0 by unfold Wd.cP;dsimp only;rw [HTI2.out,if_neg (fun e=>by rcases e with e | e;omega;exact h5 e)]);have hfl:=HFB.out;obtain ⟨fs,hfs⟩:∃ fs,(W.th m).fs=fs:=⟨_,rfl⟩;rw [hfs] at HFC HRD t1 hfl;have HFS:=Hz hfs;clear h5 hfs HFB;generalize (W.th m).k=q at *;by_cases i0:xi<0
 ·have hd0:decide (xi<0)=true:=by simpa using i0
  have HF:=Hz (show W.cP ⟨11,xr,a,xb,xi,xn⟩=1 by rw [HFC.out,if_pos (.inl i0)]);have HE:=Hz (show W.do ⟨11,xr,a,xb,xi,xn⟩=(1,W) by rw [cD HC.out];show Wd.get _ _=_;unfold Wd.get;rw [HF.out];rfl);clear i0;go_wp2_with fail;go_ret;exact ⟨by rw [HE.out];rfl,by rw [HE.out];exact aK.same HH.out K2.out⟩
 have hd0:decide (xi<0)=false:=by simpa using i0
 obtain ⟨i,rfl⟩:∃ i:Nat,xi=i:=⟨xi.toNat,by omega⟩;by_cases i1:fs.length≤i
 ·have hd1:decide (fs.length≤i)=true:=by simpa using i1
  have HF:=Hz (show W.cP ⟨11,xr,a,xb,i,xn⟩=1 by rw [HFC.out,if_pos (.inr (by omega))]);have HE:=Hz (show W.do ⟨11,xr,a,xb,i,xn⟩=(1,W) by rw [cD HC.out];show Wd.get _ _=_;unfold Wd.get;rw [HF.out];rfl);clear i1 i0;go_wp2_with fail;go_ret;exact ⟨by rw [HE.out];rfl,by rw [HE.out];exact aK.same HH.out K2.out⟩
 have hd1:decide (fs.length≤i)=false:=by simpa using i1
 have hil:i<fs.length:=by omega
 have HF:=Hz (show W.cP ⟨11,xr,a,xb,i,xn⟩=0 by rw [HFC.out,if_neg (by omega)]);clear i0 i1 HFC;have hr:0≤xr∧xr<12:=(aN _).1 ((aI HC.out).2.1 (show aR 11%2=1 by decide));obtain ⟨r,rfl⟩:∃ r:Nat,xr=r:=⟨xr.toNat,by omega⟩;have hr12:r<12:=by omega
 obtain ⟨g,o,rc,erv,hg,-,-⟩:=H2.out.root hr12;have hrl:W.roots.length=12:=H2.out.ok.hr;obtain ⟨-,c1,-,-,-,-⟩:=H2.out.cells;have hrs:=H2.out.hr;rw [erv,hrl] at c1 hrs;have RS:=Hz hrs;have ERV:=Hz erv;have HRL:=Hz hrl;have h12:(r:Int)<12:=by omega
 clear erv hrl hrs;clear hr;obtain ⟨gf,of,rfl,hgf,f0,f1⟩:=HRD.out.val i hil;have HV:=Hz (show W.cI (fs.getD i (0,0)) from H2.out.ok.tv m HLV.out _ (by rw [HFS.out,Ld,Le hil];exact List.getElem_mem hil));have HE:=Hz (show W.do ⟨11,r,a,xb,i,xn⟩=(0,W.cB r (fs.getD i (0,0))) by rw [cD HC.out];show Wd.get _ _=_;unfold Wd.get;rw [HF.out,if_pos rfl];dsimp only;rw [HTI2.out,HFS.out,Int.toNat_natCast]);generalize fs.getD i (0,0)=v at *;obtain ⟨v1,v2⟩:=v;dsimp only at f0 f1;go_wp2_with fail;refine ay (.free 0 (.free 1 (.free 2 (.free 4 (.free 6 (.free 7 (.free 8 (.free 10 (.free 14 (.pure 3 (.pure 5 (.pure 9 (.free 11 (.free 12 (.pure 13 (.pure 15 (.free 16 (.pure 17 (.free 18 (.run 19 (.swi [] (.fin)))))))))))))))))))))) [19] (fun w'=>w'.cell? ⟨h.p,1,none⟩=some (.slice (some ⟨g,o,none⟩) 12 rc)∧w'.cell? ⟨sb,1,none⟩=some (.int .i64 r)∧w'.cell? ⟨h.p,0,none⟩=some (.slice (some ⟨g0,o0,none⟩) W.T.length nc)∧w'.cell? ⟨g0,o0+m*4+1,none⟩=some (.slice (some ⟨gf,of,none⟩) fs.length fc)∧w'.cell? ⟨sb,4,none⟩=some (.int .i64 i)∧w'.cell? ⟨gf,of+i*2,none⟩=some (.int .i64 v1)∧w'.cell? ⟨gf,of+i*2+1,none⟩=some (.int .i64 v2)) (by kernel_rfl) (by kernel_rfl) ⟨c1,s1,c0,t1,s4,f0,f1⟩ ?_
 iterate 19 ((first | refine au rfl rfl fun K hK=>?_ | refine aq rfl rfl fun K hK=>?_ | refine aF rfl rfl fun K hK=>?_ | refine az rfl rfl fun K hK=>?_ | refine aE rfl rfl fun K hK=>?_);go_simp;refine hK _ ?_;clear hK K)
 refine aJ rfl rfl rfl (fun K hK=>?_);refine cr 96 (.tmp 298) (.tmp 297) rfl rfl g o 12 rc r (aA W.roots) 96 (.int .i64 (v1)) (.int .i64 (v2)) rfl rfl (RS.out.ae (Kz w2).drew (fun _ _ h=>h)) hr12 (by kernel_rfl) rfl rfl ?_;intro w3 hs3 hk3 hz3;refine hK _ _ ?_;clear hK K;refine aH (fun _=>True) trivial (aB ?_);have hkw:ab (·=g) w2 w3:=((Kz w2).drew.mono (fun _ _ h=>h.elim)).trans hk3;have TO:=Hz (aK.aW K2.out (H2.out.fN (w':=w3) (by rw [ERV.out]) hr12 HV.out (by rw [HRL.out];exact hs3) hkw));clear hkw hs3 hk3 hz3;clear c1 s1 c0 t1 s4 f0 f1 s0 s2 s3 t0;go_wp2_with fail;go_ret;exact ⟨by rw [HE.out];rfl,by rw [HE.out];exact TO.out⟩
end
end
section
open Go.RowKit
section
variable {w:World} {h:RW} {W:Wd}
theorem aZ.rR (H:aZ w h W) {g o cap m:Nat} (e:h.tv=.slice (some ⟨g,o,none⟩) W.T.length cap) (hm:m<W.T.length) {fs:List Vl} {fv:Value} {fo:Option Addr} {fc:Nat} (hfv:fv=.slice fo fs.length fc)
  (hf:Sl w 96 2 fv fs.length (aA fs)) (hn:∀ b,ai fv b→¬ h.Own b) (hok:(W.dw m fs).ok) :
  ∃ h',aZ (w.setCell ⟨g,o+m*4+1,none⟩ fv) h' (W.dw m fs)∧h'.p=h.p∧ab h.Own w (w.setCell ⟨g,o+m*4+1,none⟩ fv)∧∀ k,h'.Own k→h.Own k∨ai fv k:=by
 subst hfv;have hown:ai h.tv g:=by rw [e];rfl
 obtain ⟨c,hg⟩:∃ c,ah w g c 154:=by obtain ⟨cs,hs,_⟩:=H.ht;exact (hs.own hown).2
 have set:=(ab.refl (·=g) w).setCell (p:=⟨g,o+m*4+1,none⟩) (.inl rfl) (.slice fo fs.length fc);have nx:∀ {b:Nat} {c:List Value} {U:TypeId},ah w b c U→U≠154→¬ b=g:=fun hb hT=>hb.ne hg hT;have nF:∀ b,h.F b→b≠g:=fun b hb=>by obtain ⟨_,⟨c,hc⟩,_⟩:=H.af b hb;exact nx hc (by decide)
 have nf:∀ b,ai (.slice fo fs.length fc) b→¬ b=g:=fun b hb=>by obtain ⟨_,c,hc⟩:=hf.own hb;exact nx hc (by decide)
 have hf':=hf.ae set nf;obtain ⟨fo',fc',e1,hrd,hml,-⟩:=hf'.rd;cases e1;have hth:W.th m=W.T[m]:=by unfold Wd.th;rw [Int.toNat_natCast,Ld,Le hm];rfl
 have hT:(W.dw m fs).T=W.T.set m ⟨W.T[m].k,fs,W.T[m].aP,W.T[m].dead⟩:=by
  show W.T.set (m:Int).toNat _=_
  rw [Int.toNat_natCast,hth]
 refine ⟨⟨h.p,h.tv,h.rv,h.gv,h.wv,fun b=>h.F b∨ai (.slice fo fs.length fc) b⟩,⟨set.ak H.hp (nx H.hp (by decide)),?_,H.hr.ae set (fun b hb=>?_),H.hg.ae set (fun b hb=>?_),H.hw.ae set (fun b hb=>?_),H.ap,fun b hb=>?_,hok⟩,rfl,set.mono (fun b _ hb=>.inr (.inl (by rw [hb];exact hown))),fun k hk=>?_⟩
 ·show iB _ h.tv _ (W.dw m fs).T
  rw [hT];refine H.ht.put e hm (by decide) nF (fun b hb=>.inl hb) (fun r _ hr=>?_);obtain ⟨ao,cap,rfl,h1,h2,h3⟩:=hr;exact ⟨fo,fc,rfl,hrd,fun a ha=>.inr (by rw [ha];rfl),hml⟩
 ·obtain ⟨_,c,hc⟩:=H.hr.own hb;exact nx hc (by decide)
 ·obtain ⟨_,c,hc⟩:=H.hg.own hb;exact nx hc (by decide)
 ·obtain ⟨_,c,hc⟩:=H.hw.own hb;exact nx hc (by decide)
 ·rcases hb with hb | hb
  ·obtain ⟨a1,⟨c,a2⟩,a3⟩:=H.af b hb;exact ⟨by simpa using a1,⟨c,set.ak a2 (nF b hb)⟩,a3⟩
  ·obtain ⟨a1,c,a2⟩:=hf.own hb;exact ⟨by simpa using a1,⟨c,set.ak a2 (nf b hb)⟩,fun e=>hn b hb (.inr (.inr (.inl e)))⟩
 ·rcases hk with hk | hk | hk | hk | hk | hk | hk
  ·exact .inl (.inl hk)
  ·exact .inl (.inr (.inl hk))
  ·exact .inl (.inr (.inr (.inl hk)))
  ·exact .inl (.inr (.inr (.inr (.inl hk))))
  ·exact .inl (.inr (.inr (.inr (.inr (.inl hk)))))
  ·exact .inl (.inr (.inr (.inr (.inr (.inr hk)))))
  ·exact .inr hk
theorem y5 (xr xa xb xi xn:Int) (H:aZ w h W) :
  Calls Tryz.prog 33 #[.pointer (some ⟨h.p,0,none⟩), .agg #[.int .i64 12, .int .i64 xr, .int .i64 xa, .int .i64 xb, .int .i64 xi, .int .i64 xn]] w fun e w'=>e=.returned (.int .i64 (W.do ⟨12,xr,xa,xb,xi,xn⟩).1)∧aK w h w' (W.do ⟨12,xr,xa,xb,xi,xn⟩).2:=by
 have HH:=Hz H;have aw:ah (w.alloc (.cells #[.int .i64 12, .int .i64 xr, .int .i64 xa, .int .i64 xb, .int .i64 xi, .int .i64 xn] 69)) w.heap.size [.int .i64 12, .int .i64 xr, .int .i64 xa, .int .i64 xb, .int .i64 xi, .int .i64 xn] 69:=ah.newAt _ rfl rfl;have HB:=Hz aw;have KA:=Hz ((Kz w).alloc (.cells #[.int .i64 12, .int .i64 xr, .int .i64 xa, .int .i64 xb, .int .i64 xi, .int .i64 xn] 69));have s0:=aw.cell 0;have s1:=aw.cell 1;have s2:=aw.cell 2;have s3:=aw.cell 3;have s4:=aw.cell 4;have s5:=aw.cell 5;simp only [Lz,Ls] at s0 s1 s2 s3 s4 s5;have HSF:=Hz (fun w=>cj ⟨12,xr,xa,xb,xi,xn⟩ w);obtain ⟨c,hc⟩:∃ c,aX ⟨12,xr,xa,xb,xi,xn⟩=c:=⟨_,rfl⟩;rw [hc] at HSF;have HC:=Hz hc;clear H aw hc;go_enter Tryz.func33,Tryz.ntmps33;go_wp2_with (refine aV rfl 69 (.tmp 3) rfl [.int .i64 12, .int .i64 xr, .int .i64 xa, .int .i64 xb, .int .i64 xi, .int .i64 xn] (by kernel_rfl) w.heap.size 0 rfl (aa s0 (aa s1 (aa s2 (aa s3 (aa s4 (aa s5 aQ)))))) ?_);refine (HSF.out _).mono ?_;rintro e w1 ⟨rfl,hk⟩;have H1:=Hz ((HH.out.same KA.out).same hk);have K1:=Hz (KA.out.trans hk);have B1:=Hz (hk.ak HB.out (fun h=>h));clear hk s0 s1 s2 s3 s4 s5 HSF KA HB;generalize w.heap.size=sb at *;have s0:=B1.out.cell 0;have s1:=B1.out.cell 1;have s2:=B1.out.cell 2;have s3:=B1.out.cell 3;have s4:=B1.out.cell 4;have s5:=B1.out.cell 5;have sl:=B1.out.lt;simp only [Lz,Ls] at s0 s1 s2 s3 s4 s5;by_cases h0:¬ c=0
 ·have HE:=Hz (fj (W:=W) HC.out h0);have hd:(c != 0)=true:=by simpa using h0
  clear h0;go_wp2_with fail;go_ret;exact ⟨by rw [HE.out];rfl,by rw [HE.out];exact aK.same HH.out K1.out⟩
 have h0:c=0:=Classical.not_not.1 h0;subst h0;have ha:0≤xa∧xa<12:=(aN _).1 ((aI HC.out).2.2.1 (show aR 12/2%2=1 by decide));obtain ⟨a,rfl⟩:∃ a:Nat,xa=a:=⟨xa.toNat,by omega⟩;have ha12:a<12:=by omega
 clear ha;have hth:=kF a ha12 H1.out;have htl:=Wd.dT (W:=W) (k:=(a:Int)) H1.out.ok;obtain ⟨ti,hti⟩:∃ ti,W.aj (a:Int)=ti:=⟨_,rfl⟩;rw [hti] at hth htl;have HTI:=Hz hti;have HTH:=Hz hth;have HTL:=Hz (fun (hn:0≤ti)=>htl (by omega));clear hti hth htl;have pl:=H1.out.hp.lt;go_wp2_with fail;refine HTH.out.mono ?_;rintro e w2 ⟨rfl,hk⟩;have H2:=Hz (H1.out.same hk);have K2:=Hz (K1.out.trans hk);have B2:=Hz (hk.ak B1.out (fun h=>h));clear hk s0 s1 s2 s3 s4 s5 sl pl HTH B1 H1 K1;have s0:=B2.out.cell 0;have s1:=B2.out.cell 1;have s2:=B2.out.cell 2;have s3:=B2.out.cell 3;have s4:=B2.out.cell 4;have sl:=B2.out.lt;have pl:=H2.out.hp.lt;simp only [Lz,Ls] at s0 s1 s2 s3 s4;by_cases hi:ti<0
 ·have hd:decide (ti<0)=true:=by simpa using hi
  have HF:=Hz (show W.cP ⟨12,xr,a,xb,xi,xn⟩=2 by unfold Wd.cP;dsimp only;rw [HTI.out,if_pos (.inl hi)]);have HE:=Hz (show W.do ⟨12,xr,a,xb,xi,xn⟩=(2,W) by rw [cD HC.out];show Wd.set _ _=_;unfold Wd.set;rw [HF.out];rfl);clear hi;go_wp2_with fail;go_ret;exact ⟨by rw [HE.out];rfl,by rw [HE.out];exact aK.same HH.out K2.out⟩
 have hd:decide (ti<0)=false:=by simpa using hi
 have HLV:=Hz (HTL.out (by omega));obtain ⟨m,rfl,g0,o0,nc,ao,fc,etv,hm,hg0,t0,t1,hrd,hog⟩:=H2.out.nth HLV.out;obtain ⟨c0,-,-,-,-,-⟩:=H2.out.cells;rw [etv] at c0;have HRD:=Hz hrd;have HOG:=Hz hog;have ETV:=Hz etv;have HTI2:=Hz (show W.aj (a:Int)=(m:Int) from HTI.out);have HFB:=Hz (Wd.mg H2.out.ok HLV.out);clear hi HTL hrd hog etv HTI;by_cases h5:(W.th m).k=5
 ·have HF:=Hz (show W.cP ⟨12,xr,a,xb,xi,xn⟩=2 by unfold Wd.cP;dsimp only;rw [HTI2.out,if_pos (.inr h5)]);have HE:=Hz (show W.do ⟨12,xr,a,xb,xi,xn⟩=(2,W) by rw [cD HC.out];show Wd.set _ _=_;unfold Wd.set;rw [HF.out];rfl);rw [h5] at t0;clear h5;go_wp2_with fail;go_ret;exact ⟨by rw [HE.out];rfl,by rw [HE.out];exact aK.same HH.out K2.out⟩
 have hb5:((W.th m).k == 5)=false:=by simpa using h5
 have HFC:=Hz (show W.cP ⟨12,xr,a,xb,xi,xn⟩=if xi<0∨((W.th m).fs.length:Int)≤xi then 1 else 0 by unfold Wd.cP;dsimp only;rw [HTI2.out,if_neg (fun e=>by rcases e with e | e;omega;exact h5 e)]);have hfl:=HFB.out;obtain ⟨fs,hfs⟩:∃ fs,(W.th m).fs=fs:=⟨_,rfl⟩;rw [hfs] at HFC HRD t1 hfl;have HFS:=Hz hfs;clear h5 hfs HFB;generalize (W.th m).k=q at *;by_cases i0:xi<0
 ·have hd0:decide (xi<0)=true:=by simpa using i0
  have HF:=Hz (show W.cP ⟨12,xr,a,xb,xi,xn⟩=1 by rw [HFC.out,if_pos (.inl i0)]);have HE:=Hz (show W.do ⟨12,xr,a,xb,xi,xn⟩=(1,W) by rw [cD HC.out];show Wd.set _ _=_;unfold Wd.set;rw [HF.out];rfl);clear i0;go_wp2_with fail;go_ret;exact ⟨by rw [HE.out];rfl,by rw [HE.out];exact aK.same HH.out K2.out⟩
 have hd0:decide (xi<0)=false:=by simpa using i0
 obtain ⟨i,rfl⟩:∃ i:Nat,xi=i:=⟨xi.toNat,by omega⟩;by_cases i1:fs.length≤i
 ·have hd1:decide (fs.length≤i)=true:=by simpa using i1
  have HF:=Hz (show W.cP ⟨12,xr,a,xb,i,xn⟩=1 by rw [HFC.out,if_pos (.inr (by omega))]);have HE:=Hz (show W.do ⟨12,xr,a,xb,i,xn⟩=(1,W) by rw [cD HC.out];show Wd.set _ _=_;unfold Wd.set;rw [HF.out];rfl);clear i1 i0;go_wp2_with fail;go_ret;exact ⟨by rw [HE.out];rfl,by rw [HE.out];exact aK.same HH.out K2.out⟩
 have hd1:decide (fs.length≤i)=false:=by simpa using i1
 have hil:i<fs.length:=by omega
 have HF:=Hz (show W.cP ⟨12,xr,a,xb,i,xn⟩=0 by rw [HFC.out,if_neg (by omega)]);clear i0 i1 HFC;have hb:0≤xb∧xb<12:=(aN _).1 ((aI HC.out).2.2.2.1 (show aR 12/4%2=1 by decide));obtain ⟨b,rfl⟩:∃ b:Nat,xb=b:=⟨xb.toNat,by omega⟩;have hb12:b<12:=by omega
 clear hb;have HVO:=Hz (Wd.g5 H2.out.ok (b:Int));have HSO:=Hz (fun hv=>Wd.ok.dw (W:=W) H2.out.ok (j:=(m:Int)) (fs:=fs.set i (W.rt (b:Int))) HLV.out (by rw [HFS.out,List.length_set]) hv);have HFO:=Hz (H2.out.ok.tv m HLV.out);have HE:=Hz (show W.do ⟨12,xr,a,b,i,xn⟩=(0,W.dw m (fs.set i (W.rt b))) by rw [cD HC.out];show Wd.set _ _=_;unfold Wd.set;rw [HF.out,if_pos rfl];dsimp only;rw [HTI2.out,HFS.out,Int.toNat_natCast]);obtain ⟨iv,hi,hz0,hz1,hz2⟩:=cZ iG;have Vi:=Hz hi;have Vz0:=Hz hz0;have Vz1:=Hz hz1;have Vz2:=Hz hz2;clear hi hz0 hz1 hz2;obtain ⟨gf,of,rfl,hgf,-,-⟩:=HRD.out.val i hil;have HNW:=Hz (show ∀ j u,(aA fs)[j]? = some u→w2.cell? ((⟨gf,of,none⟩:Addr).add j)=some u from fun j u hu=>by
  have hj:=(List.getElem?_eq_some_iff.1 hu).1;obtain ⟨g',o',e',_,hc⟩:=HRD.out (by intro e;rw [e] at hj;simp at hj);cases e'
  rw [eI,hc j hj];exact hu)
 go_wp2_with (at_builtin;refine bN rfl (.tmp 299) (.tmp 307) 38 rfl 96 iv (.agg #[.int .i64 0, .int .i64 0]) 2 16 Tryz.underlying38 Vi.out Vz0.out Vz1.out Vz2.out rfl (by decide) (.slice none 0 0) 0 [] rfl (Sl.nil _ _ _) ⟨gf,of,none⟩ fs.length fc (aA fs) rfl (bH fs) HNW.out ?hc ?hd ?he ?hf)
 case hc=>
  intro u hu;obtain ⟨e,_,hu⟩:=List.mem_flatMap.1 (show u ∈ fs.flatMap (fun e=>[Value.int .i64 e.1,Value.int .i64 e.2]) from hu);simp at hu;rcases hu with rfl | rfl <;> rfl
 case hd=>unfold maxLen;omega
 case he=>omega
 case hf=>
  intro v' w3 hs hk ho;have hk3:ab (fun _=>False) w2 w3:=hk.mono (fun b _ hb=>(bM hb).elim);have ho3:∀ k,ai v' k→w2.heap.size≤k:=fun k hk=>(ho k hk).elim (fun h=>(bM h).elim) id;obtain ⟨gl,ol,lc,cur,rfl,hbl,-,-,-,-⟩:=hs.laid (by omega);have H3:=Hz (H2.out.same hk3);have K3:=Hz (K2.out.trans hk3);have B3:=Hz (hk3.ak B2.out (fun h=>h));have LS:=Hz hs;have LO:=Hz (ho3 gl rfl);have OL:=Hz (fun b hb=>(H2.out.bB (k:=b) hb).1);clear hs hk hk3 ho ho3 s0 s1 s2 s3 s4 sl c0 t0 t1 hgf hg0 pl HNW B2 hbl;have s3:=B3.out.cell 3;have s4:=B3.out.cell 4;have sl:=B3.out.lt;have pl:=H3.out.hp.lt;simp only [Lz,Ls] at s3 s4;obtain ⟨g,o,rc,erv,hg,r0,r1⟩:=H3.out.root hb12;have hrl:W.roots.length=12:=H3.out.ok.hr;obtain ⟨-,c1,-,-,-,-⟩:=H3.out.cells;rw [erv,hrl] at c1;have h12:(b:Int)<12:=by omega
  clear erv hrl;generalize W.rt (b:Int)=v at *;obtain ⟨v1,v2⟩:=v;dsimp only at r0 r1;go_wp2_with fail;refine ay (.free 0 (.free 1 (.free 3 (.free 4 (.free 5 (.free 7 (.pure 2 (.pure 6 (.pure 8 (.free 9 (.pure 10 (.free 11 (.run 12 (.swi [] (.fin))))))))))))))) [12] (fun w'=>w'.cell? ⟨h.p,1,none⟩=some (.slice (some ⟨g,o,none⟩) 12 rc)∧w'.cell? ⟨sb,3,none⟩=some (.int .i64 b)∧w'.cell? ⟨sb,4,none⟩=some (.int .i64 i)∧w'.cell? ⟨g,o+b*2,none⟩=some (.int .i64 v1)∧w'.cell? ⟨g,o+b*2+1,none⟩=some (.int .i64 v2)) (by kernel_rfl) (by kernel_rfl) ⟨c1,s3,s4,r0,r1⟩ ?_
  iterate 12 ((first | refine au rfl rfl fun K hK=>?_ | refine aq rfl rfl fun K hK=>?_ | refine aF rfl rfl fun K hK=>?_ | refine az rfl rfl fun K hK=>?_ | refine aE rfl rfl fun K hK=>?_);go_simp;refine hK _ ?_;clear hK K)
  refine aJ rfl rfl rfl (fun K hK=>?_);refine cr 96 (.tmp 320) (.tmp 319) rfl rfl gl ol fs.length lc i (aA fs) 96 (.int .i64 v1) (.int .i64 v2) rfl rfl (LS.out.ae (Kz w3).drew (fun _ _ h=>h)) hil (by kernel_rfl) rfl rfl ?_;intro w4 hs4 hk4 hz4;refine hK _ _ ?_;clear hK K;refine aH (fun _=>True) trivial (aB ?_);have hkw:ab (·=gl) w3 w4:=((Kz w3).drew.mono (fun _ _ h=>h.elim)).trans hk4;have hno:∀ k,h.Own k→¬ k=gl:=fun k hk e=>by have:=OL.out k hk;have:=LO.out;omega
  have H4:=Hz (H3.out.ae hkw hno);have K4:=Hz (K3.out.then hkw (fun k hk=>.inr (Nat.le_trans K2.out.size (by rw [hk];exact LO.out))));have L4:=Hz (show Sl w4 96 2 (.slice (some ⟨gl,ol,none⟩) fs.length lc) (fs.set i (v1,v2)).length (aA (fs.set i (v1,v2))) by rw [List.length_set,iV];exact hs4);clear hkw hno hs4 hk4 hz4 c1 s3 s4 sl r0 r1 hg pl;obtain ⟨m',em',g1,o1,nc1,ao1,fc1,etv,hm1,hg1,u0,u1,-,hog1⟩:=H4.out.nth HLV.out;obtain rfl:m=m':=by omega
  rw [ETV.out] at etv;cases etv;obtain ⟨d0,-,-,-,-,-⟩:=H4.out.cells;have pl:=H4.out.hp.lt;rw [ETV.out] at d0;have hfr:∀ k,w4.frozen? ⟨g0,k,none⟩=false:=by
   obtain ⟨cs,hs,_⟩:=H4.out.ht;obtain ⟨_,c,hc⟩:=hs.own HOG.out;exact fun k=>hc.free k
  have hf1:=hfr (o0+m*4+1);have TO:=Hz (H4.out.rR (m:=m) (fs:=fs.set i (v1,v2)) (fv:=.slice (some ⟨gl,ol,none⟩) fs.length lc) (fo:=some ⟨gl,ol,none⟩) (fc:=lc) ETV.out hm (by rw [List.length_set]) L4.out (fun k hk e=>by
   have h1:gl=k:=by simpa [ai,Value.ownBlock] using hk
   have:=OL.out k e;have:=LO.out;omega) (HSO.out (fun v hv=>by
    rcases List.mem_or_eq_of_mem_set hv with h1 | rfl
    ·exact HFO.out v (by rw [HFS.out];exact h1)
    ·exact HVO.out)))
  clear hfr em';go_wp2_with fail;go_ret;refine ⟨by rw [HE.out];rfl,?_⟩;rw [HE.out];obtain ⟨h',H',e',k',o'⟩:=TO.out;refine ⟨h',H',e',(K4.out.mono (fun _ _ h=>h.elim)).trans k',fun k hk=>?_⟩;rcases o' k hk with h1 | h1
  ·exact .inl h1
  ·right;have h1:gl=k:=by simpa [ai,Value.ownBlock] using h1
   have:=LO.out;have:=K2.out.size;omega
end
end
section
open Go.RowKit
section
variable {w w':World} {O O':Wo} {W W':Wd}
theorem bp.xG {h:WH} {rg wt:List (Int × Int)} (H:bp w h O) (t:sa w h.ps h.rv h.wv w' rg wt) (hok:Wo.ok { O with rg:=rg,wt:=wt }):fK w h w' { O with rg:=rg,wt:=wt }:=by
 obtain ⟨rv',wv',hs,k,o⟩:=t;have n1:∀ {b:Nat} {c:List Value} {T:TypeId},ah w b c T→T≠133→T≠101→¬ a7 h.ps h.rv h.wv b:=fun hb h1 h2=>H.uz hb h1 h2;refine ⟨⟨h.p,h.pa,h.g,h.pc,h.cb,h.ps,rv',wv',h.ro⟩,⟨k.ak H.hp (n1 H.hp (by decide) (by decide)),H.ha.ae k (n1 H.ha.hp (by decide) (by decide)) (n1 H.ha.hg (by decide) (by decide)),H.hc.ae k (n1 H.hc.hp (by decide) (by decide)) (n1 H.hc.hq (by decide) (by decide)),hs,H.hr.ae k (fun b hb=>?_),H.ap,hok⟩,rfl,k.mono (fun b _ hb=>.inr (.inr (.inr (.inl hb)))),fun b hb=>?_⟩
 ·obtain ⟨_,c,hc⟩:=H.hr.own hb;exact n1 hc (by decide) (by decide)
 ·rcases hb with hb | hb | hb | hb | hb
  ·exact .inl (.inl hb)
  ·exact .inl (.inr (.inl hb))
  ·exact .inl (.inr (.inr (.inl hb)))
  ·exact (o b hb).imp (fun h=>.inr (.inr (.inr (.inl h)))) id
  ·exact .inl (.inr (.inr (.inr (.inr hb))))
end
end
section
open Go.RowKit
section
variable {w w':World} {O O':Wo} {W W':Wd}
theorem Wo.ok.av {O:Wo} (h:O.ok) {x y:Int} (hx:br x) (hy:br y) (hq:¬ 24≤O.rg.length+O.wt.length):Wo.ok { O with rg:=O.rg ++ [(x,y)],wt:=O.wt }:=by
 refine ⟨h.ha,h.h12,h.hR,fun e he=>?_,h.hw,by simp;omega,h.hc⟩;rcases List.mem_append.1 he with h1 | h1
 ·exact h.hg e h1
 ·simp at h1;subst h1;exact ⟨hx,hy⟩
end
end
section
open Go.RowKit
section
variable {w w':World} {h:HH} {O O':Wo} {W:Wd} {φ:Int→Int}
def dq (w:World) (h:HH) (r:Int × Wo) (e:Ending) (w':World):Prop:=e=.returned (.int .i64 r.1)∧a6 w h w' r.2
theorem xH (r a n:Nat) (b i:Int) (B:bj w h O) (hr:r<12) (ha:a<12) (hn:n≤12) (hroom:eN h O (1+(n:Int))) :
  Calls Tryz.prog 94 #[.pointer (some ⟨h.p,0,none⟩), .agg #[.int .i64 5, .int .i64 r, .int .i64 a, .int .i64 b, .int .i64 i, .int .i64 n]] w (dq w h (O.bR r 2 (List.replicate n (a:Int)))):=by
 obtain ⟨i0,hi,hz0,hz1,hz2⟩:=info_parts jv;have Hi:=Hz hi;have Hz0:=Hz hz0;have Hz1:=Hz hz1;have Hz2:=Hz hz2;clear hi hz0 hz1 hz2;have HRM:=Hz hroom;clear hroom;have HB0:=Hz B;have aw:ah (w.alloc (.cells #[.int .i64 5, .int .i64 r, .int .i64 a, .int .i64 b, .int .i64 i, .int .i64 n] 69)) w.heap.size [.int .i64 5, .int .i64 r, .int .i64 a, .int .i64 b, .int .i64 i, .int .i64 n] 69:=ah.newAt _ rfl rfl;have ka:=(Kz w).alloc (.cells #[.int .i64 5, .int .i64 r, .int .i64 a, .int .i64 b, .int .i64 i, .int .i64 n] 69);have HB1:=Hz (B.same ka);have K1:=Hz ka;have SB1:=Hz aw;have SOW:=Hz (show ¬ h.Own w.heap.size from fun e=>by have:=B.bU e;omega);clear aw ka B;go_enter Tryz.func94,Tryz.ntmps94;go_wp2_with fail;generalize w.alloc (.cells #[.int .i64 5, .int .i64 r, .int .i64 a, .int .i64 b, .int .i64 i, .int .i64 n] 69)=w1 at *;generalize w.heap.size=sb at *;have s0:=SB1.out.cell 0;have s1:=SB1.out.cell 1;have s2:=SB1.out.cell 2;have s3:=SB1.out.cell 3;have s4:=SB1.out.cell 4;have s5:=SB1.out.cell 5;have sl:=SB1.out.lt;simp only [Lz,Ls] at s0 s1 s2 s3 s4 s5;go_loopw [5,8] (fun v q wr=>∃ (ao:Option Addr) (cap k:Nat),v=.slice ao k cap∧k≤n∧q=.int .i64 k∧Sl wr 3 1 (.slice ao k cap) k (List.replicate k (Value.int .i64 (a:Int)))∧ab (fun _=>False) w1 wr∧∀ b,ai (.slice ao k cap) b→w1.heap.size≤b) (fun _ q _=>n-(intOf q).toNat)
 case atStart=>exact ⟨none,0,0,rfl,Nat.zero_le _,rfl,Sl.nil _ _ _,ab.refl _ _,fun k hk=>(bM hk).elim⟩
 case round=>
  obtain ⟨ao,cap,k,rfl,hk,rfl,hs,hK,ho⟩:=hrel;have SR:=Hz hs;have KR:=Hz hK;have HO:=Hz ho;have SBR:=Hz (hK.ak SB1.out (fun h=>h));clear hs hK ho s0 s1 s2 s3 s4 s5 sl;have s1:=SBR.out.cell 1;have s2:=SBR.out.cell 2;have sl:=SBR.out.lt;simp only [Lz,Ls] at s1 s2;by_cases hlt:k<n
  ·have hki:(k:Int)<n:=by omega
   go_wp2_with (at_builtin;refine bN rfl (.tmp 10) (.tmp 13) 83 rfl 3 i0 (.int .i64 0) 1 8 Tryz.underlying83 Hi.out Hz0.out Hz1.out Hz2.out rfl (by decide) _ k _ rfl (SR.out.ae ((Kz wr).alloc _) (fun _ _ h=>h)) ⟨wr.heap.size,0,none⟩ 1 1 [.int .i64 a] rfl rfl (bW wr 3 #[.int .i64 a]) (by intro u hu;simp at hu;subst hu;rfl) (by unfold maxLen;omega) (by omega) ?_);intro v5 w5 hs5 hk5 ho5;have K5:=Hz ((KR.out.alloc (.cells #[.int .i64 a] 3)).then hk5 (fun b hb=>.inr (HO.out b hb)));have O5:=Hz (show ∀ b,ai v5 b→w1.heap.size≤b from fun b hb=>by
    rcases ho5 b hb with h1 | h1
    ·exact HO.out b h1
    ·have:=KR.out.size;omega)
   have S5:=Hz (show Sl w5 3 1 v5 (k+1) (List.replicate (k+1) (Value.int .i64 (a:Int))) by
    have e:List.replicate (k+1) (Value.int .i64 (a:Int))=List.replicate k (Value.int .i64 (a:Int)) ++ [Value.int .i64 (a:Int)]:=List.replicate_succ'
    rw [e];exact hs5)
   obtain ⟨ao5,cap5,e5,-,-,-⟩:=S5.out.rd;subst e5;clear hs5 hk5 ho5 s1 s2 sl;go_wp2_with fail;go_roundw
   case rel=>exact ⟨ao5,cap5,k+1,rfl,hlt,by go_num,S5.out,K5.out,O5.out⟩
   case measure=>simp [intOf];omega
  ·obtain rfl:k=n:=by omega
   have HB2:=Hz (HB1.out.same KR.out);have hrl:(List.replicate k a).length=k:=List.length_replicate;obtain ⟨_,_,e',rd,-,-⟩:=SR.out.rd;cases e';have hmk:=lO r 2 (List.replicate k a) ao cap HB2.out hr (fun j hj=>by rw [(List.mem_replicate.1 hj).2];exact ha) (by rw [hrl];simp [bs];omega) (by rw [List.map_replicate];exact rd) (fun ad e hb hn=>by
    subst e
    have h1:=HO.out ad.block rfl;have h2:=HB1.out.bU hn;omega) (by rw [hrl];exact HRM.out.1 _ HB2.out) (by rw [hrl];exact HRM.out.2)
   rw [hrl] at hmk;simp only [List.map_replicate] at hmk;have HMK:=Hz hmk;clear hmk rd hrl;go_wp2_with fail;refine HMK.out.mono ?_;rintro e w6 ⟨rfl,ht⟩;have TO:=Hz (a6.aW (K1.out.trans KR.out) ht);clear ht s1 s2 sl;go_wp2_with fail;go_ret;unfold dq;exact ⟨rfl,TO.out⟩
theorem Bz (a c:Nat) (xr xi xn:Int) (B:bj w h O) (ha:a<12) (hc:c<12) :
  Calls Tryz.prog 95 #[.pointer (some ⟨h.p,0,none⟩), .agg #[.int .i64 9, .int .i64 xr, .int .i64 a, .int .i64 c, .int .i64 xi, .int .i64 xn]] w (dq w h (O.ic a c)):=by
 have HB0:=Hz B;have aw:ah (w.alloc (.cells #[.int .i64 9, .int .i64 xr, .int .i64 a, .int .i64 c, .int .i64 xi, .int .i64 xn] 69)) w.heap.size [.int .i64 9, .int .i64 xr, .int .i64 a, .int .i64 c, .int .i64 xi, .int .i64 xn] 69:=ah.newAt _ rfl rfl;have ka:=(Kz w).alloc (.cells #[.int .i64 9, .int .i64 xr, .int .i64 a, .int .i64 c, .int .i64 xi, .int .i64 xn] 69);have HB1:=Hz (B.same ka);have K1:=Hz ka;have SB1:=Hz aw;have SOW:=Hz (show ¬ h.Own w.heap.size from fun e=>by have:=B.bU e;omega);clear aw ka B;go_enter Tryz.func95,Tryz.ntmps95;go_wp2_with fail;generalize w.alloc (.cells #[.int .i64 9, .int .i64 xr, .int .i64 a, .int .i64 c, .int .i64 xi, .int .i64 xn] 69)=w1 at *;generalize w.heap.size=sb at *;have s0:=SB1.out.cell 0;have s1:=SB1.out.cell 1;have s2:=SB1.out.cell 2;have s3:=SB1.out.cell 3;have s4:=SB1.out.cell 4;have s5:=SB1.out.cell 5;have sl:=SB1.out.lt;simp only [Lz,Ls] at s0 s1 s2 s3 s4 s5;have HRG:=Hz (show O.ic a c=if (O.ar.a8 (O.ba a)).2.2.2≠0 then ((O.ar.a8 (O.ba a)).2.2.2,O) else if O.jP (O.ba c)=false then (2,O) else if 24≤O.rg.length+O.wt.length then (3,O) else (0, { O with rg:=O.rg ++ [(O.ba c,O.ba a)] }) from rfl);have HRa:=Hz (kj HB1.out.H.ok (a:Int));have HRc:=Hz (kj HB1.out.H.ok (c:Int));obtain ⟨b0,bl⟩:=HB1.out.pc;obtain ⟨g,o,cap,hro,hown,q0,q3,ql,gl,fz,rc⟩:=HB1.out.roots;have ra:=rc a ha;have hai:(a:Int)<12:=by omega
 have hkd:=fun w' (R:bp w' h.a O)=>sf (O.ba a) R;clear hro hown fz rc;have ra:w1.cell? ⟨g,o+a,none⟩=some (.int .i64 (O.ba a)):=ra;generalize hva:O.ba (a:Int)=va at *;have HVA:=Hz hva;clear hva;obtain ⟨⟨p1,kd,n1,e1⟩,hT1⟩:∃ t,O.ar.a8 va=t:=⟨_,rfl⟩;simp only [hT1] at hkd;have HK:=Hz hkd;have HT1:=Hz hT1;clear hkd hT1;go_wp2_with fail;refine ay (.free 0 (.free 1 (.free 2 (.free 4 (.free 5 (.free 6 (.free 11 (.pure 3 (.pure 7 (.free 8 (.free 9 (.pure 10 (.pure 12 (.free 13 (.pure 14 (.run 15 (.swi [] (.free 16 (.free 17 (.free 18 (.free 19 (.free 20 (.free 21 (.free 22 (.fin))))))))))))))))))))))))) [15,16,17,18,19,20,21,22] (fun w'=>w'.cell? ⟨h.p,0,none⟩=some (.pointer (some ⟨h.a.p,0,none⟩))∧w'.cell? ⟨h.a.p,3,none⟩=some (.slice (some ⟨g,o,none⟩) 12 cap)∧w'.cell? ⟨g,o+a,none⟩=some (.int .i64 va)∧w'.cell? ⟨sb,2,none⟩=some (.int .i64 a)) (by kernel_rfl) (by kernel_rfl) ⟨b0,q3,ra,s2⟩ ?_
 iterate 15 ((first | refine au rfl rfl fun K hK=>?_ | refine aq rfl rfl fun K hK=>?_ | refine aF rfl rfl fun K hK=>?_ | refine az rfl rfl fun K hK=>?_ | refine aE rfl rfl fun K hK=>?_);go_simp;refine hK _ ?_;clear hK K)
 refine aJ rfl rfl rfl (fun K hK=>?_);unfold aC;go_simp;refine (HK.out _ (HB1.out.same ((Kz w1).drew)).H).mono ?_;rintro e3 w3 ⟨rfl,rfl⟩;refine hK _ _ ?_;clear hK K;refine aH (fun _=>True) trivial ?_
 iterate 7 ((first | refine au rfl rfl fun K hK=>?_ | refine aq rfl rfl fun K hK=>?_);go_simp;refine hK _ ?_;clear hK K)
 refine aB ?_;have kd1:=(Kz w1).drew;have HB2:=Hz (HB1.out.same kd1);have K2:=Hz (K1.out.trans kd1);have SB2:=Hz (kd1.ak SB1.out (fun h=>h));clear kd1 s0 s1 s2 s3 s4 s5 sl HB1 K1 SB1 b0 bl q0 q3 ql gl ra HK;generalize w1.drew=w2 at *;rw [HT1.out] at HRG;dsimp only at HRG;have s2:=SB2.out.cell 2;have s3:=SB2.out.cell 3;have sl:=SB2.out.lt;simp only [Lz,Ls] at s2 s3;unfold dq;by_cases he1:e1=0
 case neg=>
  have hd1:(e1 != 0)=true:=by simpa using he1
  have HE:=Hz (show O.ic a c=(e1,O) by rw [HRG.out,if_pos he1]);clear he1;go_wp2_with fail;go_ret;rw [HE.out];exact ⟨rfl,a6.same HB0.out K2.out⟩
 subst he1;go_wp2_with fail;refine (tD c HB2.out hc).mono ?_;rintro e w3 ⟨rfl,hk3⟩;have HB3:=Hz (HB2.out.same hk3);have K3:=Hz (K2.out.trans hk3);have SB3:=Hz (hk3.ak SB2.out (fun h=>h));clear hk3 s2 s3 sl HB2 K2 SB2;have s2:=SB3.out.cell 2;have s3:=SB3.out.cell 3;have sl:=SB3.out.lt;simp only [Lz,Ls] at s2 s3;cases hg:O.jP (O.ba (c:Int))
 ·have HE:=Hz (show O.ic a c=(2,O) by rw [HRG.out,if_neg (by decide),if_pos hg]);have hgc:fA O (O.ba c)=(0,2):=by unfold fA;rw [hg];rfl
  rw [hgc];clear hg hgc;go_wp2_with fail;go_ret;rw [HE.out];exact ⟨rfl,a6.same HB0.out K3.out⟩
 have hgc:fA O (O.ba c)=(O.ba c,0):=by unfold fA;rw [hg];rfl
 rw [hgc];have HR2:=Hz (show O.ic a c=if 24≤O.rg.length+O.wt.length then (3,O) else (0, { O with rg:=O.rg ++ [(O.ba c,va)] }) by rw [HRG.out,if_neg (by decide),if_neg (by rw [hg];decide)]);clear hg hgc HRG;generalize O.ba (c:Int)=vc at *;obtain ⟨b0,bl⟩:=HB3.out.pc;obtain ⟨g,o,cap,hro,hown,q0,q3,ql,gl,fz,rc⟩:=HB3.out.roots;have q2:=HB3.out.H.dZ.2.2.1;have ra:=rc a ha;have ra:w3.cell? ⟨g,o+a,none⟩=some (.int .i64 (O.ba a)):=ra;rw [HVA.out] at ra;clear hro hown fz rc;have h24l:=HB3.out.H.ok.hq;have hsd:=HB3.out.H.hs;by_cases h24:24≤O.rg.length+O.wt.length
 ·have HE:=Hz (show O.ic a c=(3,O) by rw [HR2.out,if_pos h24]);have hreg:=x4 h.a.ps h.a.rv h.a.wv O.rg O.wt vc va (w3.drew) (hsd.ae (Kz w3).drew (fun _ _ h=>h)) (by omega) (by omega) h24;have HREG:=Hz hreg;clear hreg hsd h24;go_wp2_with fail;refine ay (.free 0 (.free 1 (.free 2 (.free 7 (.free 8 (.free 9 (.free 10 (.free 15 (.pure 3 (.free 4 (.free 5 (.pure 6 (.pure 11 (.free 12 (.free 13 (.pure 14 (.pure 16 (.free 17 (.pure 18 (.free 19 (.run 20 (.swi [] (.free 21 (.fin)))))))))))))))))))))))) [20,21] (fun w'=>w'.cell? ⟨h.p,0,none⟩=some (.pointer (some ⟨h.a.p,0,none⟩))∧w'.cell? ⟨h.a.p,3,none⟩=some (.slice (some ⟨g,o,none⟩) 12 cap)∧w'.cell? ⟨g,o+a,none⟩=some (.int .i64 va)∧w'.cell? ⟨h.a.p,2,none⟩=some (.pointer (some ⟨h.a.ps,0,none⟩))∧w'.cell? ⟨sb,2,none⟩=some (.int .i64 a)) (by kernel_rfl) (by kernel_rfl) ⟨b0,q3,ra,q2,s2⟩ ?_
  iterate 20 ((first | refine au rfl rfl fun K hK=>?_ | refine aq rfl rfl fun K hK=>?_ | refine aF rfl rfl fun K hK=>?_ | refine az rfl rfl fun K hK=>?_ | refine aE rfl rfl fun K hK=>?_);go_simp;refine hK _ ?_;clear hK K)
  refine aJ rfl rfl rfl (fun K hK=>?_);unfold aC;go_simp;refine HREG.out.mono ?_;rintro e5 w5 ⟨rfl,hk⟩;refine hK _ _ ?_;clear hK K;refine aH (fun _=>True) trivial ?_
  iterate 1 ((first | refine au rfl rfl fun K hK=>?_ | refine aq rfl rfl fun K hK=>?_);go_simp;refine hK _ ?_;clear hK K)
  refine aB ?_;have K4:=Hz (K3.out.trans ((Kz w3).drew.trans hk));clear hk b0 bl q0 q2 q3 ql gl ra s2 s3 sl;go_wp2_with fail;go_ret;rw [HE.out];exact ⟨rfl,a6.same HB0.out K4.out⟩
 ·have HE:=Hz (show O.ic a c=(0, { O with rg:=O.rg ++ [(vc,va)] }) by rw [HR2.out,if_neg h24]);have HOK:=Hz (HB3.out.H.ok.av HRc.out HRa.out h24);have hreg:=x5 h.a.ps h.a.rv h.a.wv O.rg O.wt vc va (w3.drew) (hsd.ae (Kz w3).drew (fun _ _ h=>h)) (by omega) (by omega) h24;have HREG:=Hz hreg;clear hreg hsd h24;go_wp2_with fail;refine ay (.free 0 (.free 1 (.free 2 (.free 7 (.free 8 (.free 9 (.free 10 (.free 15 (.pure 3 (.free 4 (.free 5 (.pure 6 (.pure 11 (.free 12 (.free 13 (.pure 14 (.pure 16 (.free 17 (.pure 18 (.free 19 (.run 20 (.swi [] (.free 21 (.fin)))))))))))))))))))))))) [20,21] (fun w'=>w'.cell? ⟨h.p,0,none⟩=some (.pointer (some ⟨h.a.p,0,none⟩))∧w'.cell? ⟨h.a.p,3,none⟩=some (.slice (some ⟨g,o,none⟩) 12 cap)∧w'.cell? ⟨g,o+a,none⟩=some (.int .i64 va)∧w'.cell? ⟨h.a.p,2,none⟩=some (.pointer (some ⟨h.a.ps,0,none⟩))∧w'.cell? ⟨sb,2,none⟩=some (.int .i64 a)) (by kernel_rfl) (by kernel_rfl) ⟨b0,q3,ra,q2,s2⟩ ?_
  iterate 20 ((first | refine au rfl rfl fun K hK=>?_ | refine aq rfl rfl fun K hK=>?_ | refine aF rfl rfl fun K hK=>?_ | refine az rfl rfl fun K hK=>?_ | refine aE rfl rfl fun K hK=>?_);go_simp;refine hK _ ?_;clear hK K)
  refine aJ rfl rfl rfl (fun K hK=>?_);unfold aC;go_simp;refine HREG.out.mono ?_;rintro e5 w5 ⟨rfl,hs5⟩;refine hK _ _ ?_;clear hK K;refine aH (fun _=>True) trivial ?_
  iterate 1 ((first | refine au rfl rfl fun K hK=>?_ | refine aq rfl rfl fun K hK=>?_);go_simp;refine hK _ ?_;clear hK K)
  refine aB ?_;have TO:=Hz (a6.aW K3.out.drew (a6.qV (HB3.out.same (Kz w3).drew) ((HB3.out.H.ae (Kz w3).drew (fun _ _ h=>h)).xG hs5 HOK.out)));clear hs5 b0 bl q0 q2 q3 ql gl ra s2 s3 sl;go_wp2_with fail;go_ret;rw [HE.out];exact ⟨rfl,TO.out⟩
theorem Wo.ok.nI {O:Wo} (h:O.ok) {wt:List (Int × Int)} (h1:∀ e ∈ wt,e ∈ O.wt) (h2:wt.length≤O.wt.length):Wo.ok { O with rg:=O.rg,wt:=wt }:=
 ⟨h.ha,h.h12,h.hR,h.hg,fun e he=>h.hw e (h1 e he),by have:=h.hq;show O.rg.length+wt.length≤24;omega,h.hc⟩
theorem BA (r a:Nat) (xb xi xn:Int) (B:bj w h O) (hr:r<12) (ha:a<12) :
  Calls Tryz.prog 96 #[.pointer (some ⟨h.p,0,none⟩), .agg #[.int .i64 10, .int .i64 r, .int .i64 a, .int .i64 xb, .int .i64 xi, .int .i64 xn]] w (dq w h (O.pop r a)):=by
 have HB0:=Hz B;have aw:ah (w.alloc (.cells #[.int .i64 10, .int .i64 r, .int .i64 a, .int .i64 xb, .int .i64 xi, .int .i64 xn] 69)) w.heap.size [.int .i64 10, .int .i64 r, .int .i64 a, .int .i64 xb, .int .i64 xi, .int .i64 xn] 69:=ah.newAt _ rfl rfl;have ka:=(Kz w).alloc (.cells #[.int .i64 10, .int .i64 r, .int .i64 a, .int .i64 xb, .int .i64 xi, .int .i64 xn] 69);have HB1:=Hz (B.same ka);have K1:=Hz ka;have SB1:=Hz aw;have SOW:=Hz (show ¬ h.Own w.heap.size from fun e=>by have:=B.bU e;omega);clear aw ka B;go_enter Tryz.func96,Tryz.ntmps96;go_wp2_with fail;generalize w.alloc (.cells #[.int .i64 10, .int .i64 r, .int .i64 a, .int .i64 xb, .int .i64 xi, .int .i64 xn] 69)=w1 at *;generalize w.heap.size=sb at *;have s0:=SB1.out.cell 0;have s1:=SB1.out.cell 1;have s2:=SB1.out.cell 2;have s3:=SB1.out.cell 3;have s4:=SB1.out.cell 4;have s5:=SB1.out.cell 5;have sl:=SB1.out.lt;simp only [Lz,Ls] at s0 s1 s2 s3 s4 s5;have HP0:=Hz (show O.jP (O.ba a)=false→O.pop r a=(2,O) from fun h=>by unfold Wo.pop;rw [if_pos h]);have HPN:=Hz (show O.jP (O.ba a)=true→popW O.wt (O.ba a)=none→O.pop r a=(4,O) from fun h h2=>by unfold Wo.pop;rw [if_neg (by rw [h];decide),h2]);have HPS:=Hz (show O.jP (O.ba a)=true→∀ q,popW O.wt (O.ba a)=some q→O.pop r a=(0, { O with wt:=q.2,rt:=O.rt.set r q.1 }) from fun h q h2=>by unfold Wo.pop;rw [if_neg (by rw [h];decide),h2];rfl);unfold dq;go_wp2_with fail;refine (tD a HB1.out ha).mono ?_;rintro e w3 ⟨rfl,hk3⟩;have HB3:=Hz (HB1.out.same hk3);have K3:=Hz (K1.out.trans hk3);have SB3:=Hz (hk3.ak SB1.out (fun h=>h));clear hk3 s0 s1 s2 s3 s4 s5 sl HB1 K1 SB1;cases hg:O.jP (O.ba (a:Int))
 ·have HE:=Hz (HP0.out hg);have hgc:fA O (O.ba a)=(0,2):=by unfold fA;rw [hg];rfl
  rw [hgc];clear hg hgc;go_wp2_with fail;go_ret;rw [HE.out];exact ⟨rfl,a6.same HB0.out K3.out⟩
 have hgc:fA O (O.ba a)=(O.ba a,0):=by unfold fA;rw [hg];rfl
 rw [hgc];have HPN:=Hz (HPN.out hg);have HPS:=Hz (HPS.out hg);have HRa:=Hz (kj HB3.out.H.ok (a:Int));clear hg hgc HP0;generalize O.ba (a:Int)=va at *;obtain ⟨b0,bl⟩:=HB3.out.pc;have q2:=HB3.out.H.dZ.2.2.1;have ql:=HB3.out.H.hp.lt;have h24l:=HB3.out.H.ok.hq;have hsd:=HB3.out.H.hs;have hpf:=lk O.wt va;by_cases hf:findG va O.wt<O.wt.length
 ·rw [if_pos hf] at hpf;have HPP:=Hz (HPS.out _ hpf);dsimp only at HPP;have hm:O.wt.length=findG va O.wt+1+(O.wt.length-findG va O.wt-1):=by omega
  have hpop:=x8 h.a.ps h.a.rv h.a.wv O.rg O.wt va _ _ w3 hsd (by omega) rfl hm;have hpm:=kE hpf;have HOK:=Hz (HB3.out.H.ok.nI hpm.2.1 (by have:=hpm.2.2;omega));have HXR:=Hz (show br (O.wt.getD (findG va O.wt) (0,0)).2 from (HB3.out.H.ok.hw _ hpm.1).2);have HPO:=Hz hpop;clear hm hpop hpm hpf hf hsd h24l;generalize (O.wt.getD (findG va O.wt) (0,0)).2=x at *;generalize O.wt.eraseIdx (findG va O.wt)=wt2 at *;go_wp2_with fail;refine HPO.out.mono ?_;rintro e5 w5 ⟨rfl,hs5⟩;have TO:=Hz (a6.qV HB3.out (HB3.out.H.xG hs5 HOK.out));have SNO:=Hz (show ¬ h.Own sb from SOW.out);clear hs5 b0 bl q2 ql HPO;obtain ⟨h5,B5,ep,k5,o5⟩:=TO.out;have HB5:=Hz B5;have EP:=Hz ep;have K5:=Hz k5;have O5:=Hz o5;have SB5:=Hz (k5.ak SB3.out SNO.out);clear B5 k5 o5;have s1:=SB5.out.cell 1;have sl:=SB5.out.lt;simp only [Lz,Ls] at s1;have hput:=iw r x 0 HB5.out hr HXR.out;rw [ep] at hput;have HPT:=Hz hput;clear ep hput;go_wp2_with fail;refine HPT.out.mono ?_;rintro e w6 ⟨rfl,ht⟩;have T6:=Hz (show a6 w h w6 (O.pop r a).2 by
   rw [HPP.out]
   exact ⟨h5,ht.1,EP.out,((K3.out.mono (fun _ _ h=>h.elim)).trans K5.out).then ht.2 (fun k hk=>(O5.out k hk).imp id (fun h=>Nat.le_trans K3.out.size h)),fun k hk=>(O5.out k hk).imp id (fun h=>Nat.le_trans K3.out.size h)⟩)
  clear ht s1 sl;go_wp2_with fail;go_ret;exact ⟨by rw [HPP.out];rfl,T6.out⟩
 ·rw [if_neg hf] at hpf;have HPP:=Hz (HPN.out hpf);have HPO:=Hz (x7 h.a.ps h.a.rv h.a.wv O.rg O.wt va w3 hsd (by omega) hf);clear hpf hf hsd h24l;go_wp2_with fail;refine HPO.out.mono ?_;rintro e5 w5 ⟨rfl,hk⟩;have K4:=Hz (K3.out.trans hk);clear hk b0 bl q2 ql;go_wp2_with fail;go_ret;rw [HPP.out];exact ⟨rfl,a6.same HB0.out K4.out⟩
theorem xI (r a:Nat) (xb xi xn:Int) (B:bj w h O) (hr:r<12) (ha:a<12) :
  Calls Tryz.prog 97 #[.pointer (some ⟨h.p,0,none⟩), .agg #[.int .i64 13, .int .i64 r, .int .i64 a, .int .i64 xb, .int .i64 xi, .int .i64 xn]] w (dq w h (O.gU r (O.pt (O.ba a)))):=by
 have HB0:=Hz B;have aw:ah (w.alloc (.cells #[.int .i64 13, .int .i64 r, .int .i64 a, .int .i64 xb, .int .i64 xi, .int .i64 xn] 69)) w.heap.size [.int .i64 13, .int .i64 r, .int .i64 a, .int .i64 xb, .int .i64 xi, .int .i64 xn] 69:=ah.newAt _ rfl rfl;have ka:=(Kz w).alloc (.cells #[.int .i64 13, .int .i64 r, .int .i64 a, .int .i64 xb, .int .i64 xi, .int .i64 xn] 69);have HB1:=Hz (B.same ka);have K1:=Hz ka;have SB1:=Hz aw;have SOW:=Hz (show ¬ h.Own w.heap.size from fun e=>by have:=B.bU e;omega);clear aw ka B;go_enter Tryz.func97,Tryz.ntmps97;go_wp2_with fail;generalize w.alloc (.cells #[.int .i64 13, .int .i64 r, .int .i64 a, .int .i64 xb, .int .i64 xi, .int .i64 xn] 69)=w1 at *;generalize w.heap.size=sb at *;have s0:=SB1.out.cell 0;have s1:=SB1.out.cell 1;have s2:=SB1.out.cell 2;have s3:=SB1.out.cell 3;have s4:=SB1.out.cell 4;have s5:=SB1.out.cell 5;have sl:=SB1.out.lt;simp only [Lz,Ls] at s0 s1 s2 s3 s4 s5;have HLN:=Hz (show ∀ x,O.pt x=if (O.ar.a8 x).2.2.2=0∧(O.ar.a8 x).2.1=5 then (4*(O.ar.a8 x).2.2.1,2) else (4*(O.ar.a8 x).2.2.1,(O.ar.a8 x).2.2.2) from fun x=>rfl);obtain ⟨b0,bl⟩:=HB1.out.pc;obtain ⟨g,o,cap,hro,hown,q0,q3,ql,gl,fz,rc⟩:=HB1.out.roots;have ra:=rc a ha;have hai:(a:Int)<12:=by omega
 have hkd:=fun w' (R:bp w' h.a O)=>sf (O.ba a) R;clear hro hown fz rc;have ra:w1.cell? ⟨g,o+a,none⟩=some (.int .i64 (O.ba a)):=ra;generalize hva:O.ba (a:Int)=va at *;have HVA:=Hz hva;clear hva;obtain ⟨⟨p1,kd,n1,e1⟩,hT1⟩:∃ t,O.ar.a8 va=t:=⟨_,rfl⟩;simp only [hT1] at hkd;have HK:=Hz hkd;have HT1:=Hz hT1;clear hkd hT1;go_wp2_with fail;refine ay (.free 0 (.free 1 (.free 2 (.free 4 (.free 5 (.free 6 (.free 11 (.pure 3 (.pure 7 (.free 8 (.free 9 (.pure 10 (.pure 12 (.free 13 (.pure 14 (.run 15 (.swi [] (.free 16 (.free 17 (.free 18 (.free 19 (.free 20 (.free 21 (.free 22 (.fin))))))))))))))))))))))))) [15,16,17,18,19,20,21,22] (fun w'=>w'.cell? ⟨h.p,0,none⟩=some (.pointer (some ⟨h.a.p,0,none⟩))∧w'.cell? ⟨h.a.p,3,none⟩=some (.slice (some ⟨g,o,none⟩) 12 cap)∧w'.cell? ⟨g,o+a,none⟩=some (.int .i64 va)∧w'.cell? ⟨sb,2,none⟩=some (.int .i64 a)) (by kernel_rfl) (by kernel_rfl) ⟨b0,q3,ra,s2⟩ ?_
 iterate 15 ((first | refine au rfl rfl fun K hK=>?_ | refine aq rfl rfl fun K hK=>?_ | refine aF rfl rfl fun K hK=>?_ | refine az rfl rfl fun K hK=>?_ | refine aE rfl rfl fun K hK=>?_);go_simp;refine hK _ ?_;clear hK K)
 refine aJ rfl rfl rfl (fun K hK=>?_);unfold aC;go_simp;refine (HK.out _ (HB1.out.same ((Kz w1).drew)).H).mono ?_;rintro e3 w3 ⟨rfl,rfl⟩;refine hK _ _ ?_;clear hK K;refine aH (fun _=>True) trivial ?_
 iterate 7 ((first | refine au rfl rfl fun K hK=>?_ | refine aq rfl rfl fun K hK=>?_);go_simp;refine hK _ ?_;clear hK K)
 refine aB ?_;have kd1:=(Kz w1).drew;have HB2:=Hz (HB1.out.same kd1);have K2:=Hz (K1.out.trans kd1);have SB2:=Hz (kd1.ak SB1.out (fun h=>h));clear kd1 s0 s1 s2 s3 s4 s5 sl HB1 K1 SB1 b0 bl q0 q3 ql gl ra HK;generalize w1.drew=w2 at *;have HN1:=Hz (show 0≤n1∧n1≤12 from by
  have h1:=HT1.out;unfold Ar.a8 at h1;split at h1
  ·have:=O.ar.aU (va/4);cases h1;exact this
  ·cases h1;decide)
 have HLN:=Hz (HLN.out va);rw [HT1.out] at HLN;dsimp only at HLN;have HX:=Hz (show br (4*n1) by have:=HN1.out;unfold br;omega);have NUM:=Hz (fun w=>nQ n1 w (by have:=HN1.out;unfold cA;omega));have s1:=SB2.out.cell 1;have s2:=SB2.out.cell 2;have sl:=SB2.out.lt;simp only [Lz,Ls] at s1 s2;by_cases h5:e1=0∧kd=5
 ·have HE:=Hz (show O.pt va=(4*n1,2) by rw [HLN.out,if_pos h5]);obtain ⟨rfl,rfl⟩:=h5;go_wp2_with fail;refine ay (.free 0 (.free 1 (.free 3 (.free 5 (.pure 2 (.run 4 (.run 6 (.swi [] (.free 7 (.fin)))))))))) [6,7] (fun w'=>w'.cell? ⟨sb,1,none⟩=some (.int .i64 r)) (by kernel_rfl) (by kernel_rfl) s1 ?_
  iterate 5 ((first | refine au rfl rfl fun K hK=>?_ | refine aq rfl rfl fun K hK=>?_ | refine aF rfl rfl fun K hK=>?_ | refine az rfl rfl fun K hK=>?_ | refine aE rfl rfl fun K hK=>?_);go_simp;refine hK _ ?_;clear hK K)
  refine aM rfl rfl (fun K hK=>?_);unfold aC;go_simp;refine (NUM.out _).mono ?_;rintro e w7 ⟨rfl,hk7⟩;have kk:=(Kz w2).drew.trans hk7;have HB7:=Hz (HB2.out.same kk);have K7:=Hz (K2.out.trans kk);have SB7:=Hz (kk.ak SB2.out (fun h=>h));refine hK _ _ (fun _=>SB7.out.cell 1) ?_;clear hK K hk7 kk HB2 K2 SB2 s1 s2 sl;have s1:=SB7.out.cell 1;have sl:=SB7.out.lt;simp only [Lz,Ls] at s1
  skip
  refine aJ rfl rfl rfl (fun K hK=>?_);unfold aC;go_simp;refine (iw r (4*n1) (2) HB7.out hr HX.out).mono ?_;rintro e w8 ⟨rfl,ht⟩;have TO:=Hz (a6.aW K7.out ht.to);refine hK _ _ ?_;clear hK K ht s1 sl;refine aH (fun _=>True) trivial ?_
  iterate 1 ((first | refine au rfl rfl fun K hK=>?_ | refine aq rfl rfl fun K hK=>?_);go_simp;refine hK _ ?_;clear hK K)
  refine aB ?_;go_wp2_with fail;go_ret;unfold dq;rw [HE.out];exact ⟨rfl,TO.out⟩
 ·have HE:=Hz (show O.pt va=(4*n1,e1) by rw [HLN.out,if_neg h5]);by_cases he1:e1=0
  ·have hk5:¬ kd=5:=fun h=>h5 ⟨he1,h⟩;subst he1;have hd:(kd == 5)=false:=by simpa using hk5
   clear h5 hk5;go_wp2_with fail;refine ay (.free 0 (.free 1 (.free 3 (.free 5 (.pure 2 (.run 4 (.run 6 (.swi [] (.free 7 (.fin)))))))))) [6,7] (fun w'=>w'.cell? ⟨sb,1,none⟩=some (.int .i64 r)) (by kernel_rfl) (by kernel_rfl) s1 ?_
   iterate 5 ((first | refine au rfl rfl fun K hK=>?_ | refine aq rfl rfl fun K hK=>?_ | refine aF rfl rfl fun K hK=>?_ | refine az rfl rfl fun K hK=>?_ | refine aE rfl rfl fun K hK=>?_);go_simp;refine hK _ ?_;clear hK K)
   refine aM rfl rfl (fun K hK=>?_);unfold aC;go_simp;refine (NUM.out _).mono ?_;rintro e w7 ⟨rfl,hk7⟩;have kk:=(Kz w2).drew.trans hk7;have HB7:=Hz (HB2.out.same kk);have K7:=Hz (K2.out.trans kk);have SB7:=Hz (kk.ak SB2.out (fun h=>h));refine hK _ _ (fun _=>SB7.out.cell 1) ?_;clear hK K hk7 kk HB2 K2 SB2 s1 s2 sl;have s1:=SB7.out.cell 1;have sl:=SB7.out.lt;simp only [Lz,Ls] at s1
   skip
   refine aJ rfl rfl rfl (fun K hK=>?_);unfold aC;go_simp;refine (iw r (4*n1) (0) HB7.out hr HX.out).mono ?_;rintro e w8 ⟨rfl,ht⟩;have TO:=Hz (a6.aW K7.out ht.to);refine hK _ _ ?_;clear hK K ht s1 sl;refine aH (fun _=>True) trivial ?_
   iterate 1 ((first | refine au rfl rfl fun K hK=>?_ | refine aq rfl rfl fun K hK=>?_);go_simp;refine hK _ ?_;clear hK K)
   refine aB ?_;go_wp2_with fail;go_ret;unfold dq;rw [HE.out];exact ⟨rfl,TO.out⟩
  ·have hd:(e1 == 0)=false:=by simpa using he1
   clear h5 he1;go_wp2_with fail;refine ay (.free 0 (.free 1 (.free 3 (.free 5 (.pure 2 (.run 4 (.run 6 (.swi [] (.free 7 (.fin)))))))))) [6,7] (fun w'=>w'.cell? ⟨sb,1,none⟩=some (.int .i64 r)) (by kernel_rfl) (by kernel_rfl) s1 ?_
   iterate 5 ((first | refine au rfl rfl fun K hK=>?_ | refine aq rfl rfl fun K hK=>?_ | refine aF rfl rfl fun K hK=>?_ | refine az rfl rfl fun K hK=>?_ | refine aE rfl rfl fun K hK=>?_);go_simp;refine hK _ ?_;clear hK K)
   refine aM rfl rfl (fun K hK=>?_);unfold aC;go_simp;refine (NUM.out _).mono ?_;rintro e w7 ⟨rfl,hk7⟩;have kk:=(Kz w2).drew.trans hk7;have HB7:=Hz (HB2.out.same kk);have K7:=Hz (K2.out.trans kk);have SB7:=Hz (kk.ak SB2.out (fun h=>h));refine hK _ _ (fun _=>SB7.out.cell 1) ?_;clear hK K hk7 kk HB2 K2 SB2 s1 s2 sl;have s1:=SB7.out.cell 1;have sl:=SB7.out.lt;simp only [Lz,Ls] at s1
   skip
   refine aJ rfl rfl rfl (fun K hK=>?_);unfold aC;go_simp;refine (iw r (4*n1) (e1) HB7.out hr HX.out).mono ?_;rintro e w8 ⟨rfl,ht⟩;have TO:=Hz (a6.aW K7.out ht.to);refine hK _ _ ?_;clear hK K ht s1 sl;refine aH (fun _=>True) trivial ?_
   iterate 1 ((first | refine au rfl rfl fun K hK=>?_ | refine aq rfl rfl fun K hK=>?_);go_simp;refine hK _ ?_;clear hK K)
   refine aB ?_;go_wp2_with fail;go_ret;unfold dq;rw [HE.out];exact ⟨rfl,TO.out⟩
theorem AB (r a c:Nat) (xi xn:Int) (B:bj w h O) (hr:r<12) (ha:a<12) (hc:c<12) :
  Calls Tryz.prog 98 #[.pointer (some ⟨h.p,0,none⟩), .agg #[.int .i64 14, .int .i64 r, .int .i64 a, .int .i64 c, .int .i64 xi, .int .i64 xn]] w (dq w h (O.gU r (4*(if O.ba a=O.ba c then 1 else 0),0))):=by
 by_cases heq:O.ba (a:Int)=O.ba (c:Int)
 ·rw [if_pos heq];have HVC:=Hz heq;clear heq;have HB0:=Hz B;have aw:ah (w.alloc (.cells #[.int .i64 14, .int .i64 r, .int .i64 a, .int .i64 c, .int .i64 xi, .int .i64 xn] 69)) w.heap.size [.int .i64 14, .int .i64 r, .int .i64 a, .int .i64 c, .int .i64 xi, .int .i64 xn] 69:=ah.newAt _ rfl rfl;have ka:=(Kz w).alloc (.cells #[.int .i64 14, .int .i64 r, .int .i64 a, .int .i64 c, .int .i64 xi, .int .i64 xn] 69);have HB1:=Hz (B.same ka);have K1:=Hz ka;have SB1:=Hz aw;have SOW:=Hz (show ¬ h.Own w.heap.size from fun e=>by have:=B.bU e;omega);clear aw ka B;go_enter Tryz.func98,Tryz.ntmps98;go_wp2_with fail;generalize w.alloc (.cells #[.int .i64 14, .int .i64 r, .int .i64 a, .int .i64 c, .int .i64 xi, .int .i64 xn] 69)=w1 at *;generalize w.heap.size=sb at *;have s0:=SB1.out.cell 0;have s1:=SB1.out.cell 1;have s2:=SB1.out.cell 2;have s3:=SB1.out.cell 3;have s4:=SB1.out.cell 4;have s5:=SB1.out.cell 5;have sl:=SB1.out.lt;simp only [Lz,Ls] at s0 s1 s2 s3 s4 s5;obtain ⟨b0,bl⟩:=HB1.out.pc;obtain ⟨g,o,cap,hro,hown,q0,q3,ql,gl,fz,rc⟩:=HB1.out.roots;have ra:=rc a ha;have rb:=rc c hc;have hai:(a:Int)<12:=by omega
  have hci:(c:Int)<12:=by omega
  clear hro hown fz rc;have ra:w1.cell? ⟨g,o+a,none⟩=some (.int .i64 (O.ba a)):=ra;have rb:w1.cell? ⟨g,o+c,none⟩=some (.int .i64 (O.ba c)):=rb;rw [HVC.out] at ra;generalize O.ba (c:Int)=va at *;have hee:(va == va)=true:=by simp
  go_wp2_with fail;refine ay (.free 0 (.free 1 (.free 2 (.free 7 (.free 11 (.free 12 (.free 13 (.free 18 (.pure 3 (.free 4 (.free 5 (.pure 6 (.pure 8 (.free 9 (.pure 10 (.pure 14 (.free 15 (.free 16 (.pure 17 (.pure 19 (.free 20 (.pure 21 (.free 22 (.fin)))))))))))))))))))))))) [] (fun w'=>w'.cell? ⟨h.p,0,none⟩=some (.pointer (some ⟨h.a.p,0,none⟩))∧w'.cell? ⟨h.a.p,3,none⟩=some (.slice (some ⟨g,o,none⟩) 12 cap)∧w'.cell? ⟨g,o+a,none⟩=some (.int .i64 va)∧w'.cell? ⟨g,o+c,none⟩=some (.int .i64 va)∧w'.cell? ⟨sb,2,none⟩=some (.int .i64 a)∧w'.cell? ⟨sb,3,none⟩=some (.int .i64 c)) (by kernel_rfl) (by kernel_rfl) ⟨b0,q3,ra,rb,s2,s3⟩ ?_
  iterate 23 ((first | refine au rfl rfl fun K hK=>?_ | refine aq rfl rfl fun K hK=>?_ | refine aF rfl rfl fun K hK=>?_ | refine az rfl rfl fun K hK=>?_ | refine aE rfl rfl fun K hK=>?_);go_simp;refine hK _ ?_;clear hK K)
  refine aB ?_;have kd1:=(Kz w1).drew;have HB2:=Hz (HB1.out.same kd1);have K2:=Hz (K1.out.trans kd1);have SB2:=Hz (kd1.ak SB1.out (fun h=>h));clear kd1 s0 s1 s2 s3 s4 s5 sl HB1 K1 SB1 b0 bl q0 q3 ql gl ra rb;generalize w1.drew=w2 at *;have s1:=SB2.out.cell 1;have s2:=SB2.out.cell 2;have sl:=SB2.out.lt;simp only [Lz,Ls] at s1 s2;have HX:=Hz (show br (4*1) by unfold br;omega);have NUM:=Hz (fun w=>nQ 1 w (by unfold cA;omega));go_wp2_with fail;refine ay (.free 0 (.free 1 (.free 3 (.pure 2 (.run 4 (.run 5 (.swi [] (.free 6 (.fin))))))))) [5,6] (fun w'=>w'.cell? ⟨sb,1,none⟩=some (.int .i64 r)) (by kernel_rfl) (by kernel_rfl) s1 ?_
  iterate 4 ((first | refine au rfl rfl fun K hK=>?_ | refine aq rfl rfl fun K hK=>?_ | refine aF rfl rfl fun K hK=>?_ | refine az rfl rfl fun K hK=>?_ | refine aE rfl rfl fun K hK=>?_);go_simp;refine hK _ ?_;clear hK K)
  refine aM rfl rfl (fun K hK=>?_);unfold aC;go_simp;refine (NUM.out _).mono ?_;rintro e w7 ⟨rfl,hk7⟩;have kk:=(Kz w2).drew.trans hk7;have HB7:=Hz (HB2.out.same kk);have K7:=Hz (K2.out.trans kk);have SB7:=Hz (kk.ak SB2.out (fun h=>h));refine hK _ _ (fun _=>SB7.out.cell 1) ?_;clear hK K hk7 kk HB2 K2 SB2 s1 s2 sl;have s1:=SB7.out.cell 1;have sl:=SB7.out.lt;simp only [Lz,Ls] at s1
  skip
  refine aJ rfl rfl rfl (fun K hK=>?_);unfold aC;go_simp;refine (iw r (4*1) (0) HB7.out hr HX.out).mono ?_;rintro e w8 ⟨rfl,ht⟩;have TO:=Hz (a6.aW K7.out ht.to);refine hK _ _ ?_;clear hK K ht s1 sl;refine aH (fun _=>True) trivial ?_
  iterate 1 ((first | refine au rfl rfl fun K hK=>?_ | refine aq rfl rfl fun K hK=>?_);go_simp;refine hK _ ?_;clear hK K)
  refine aB ?_;go_wp2_with fail;go_ret;unfold dq;exact ⟨rfl,TO.out⟩
 ·rw [if_neg heq];have HVC:=Hz heq;clear heq;have HB0:=Hz B;have aw:ah (w.alloc (.cells #[.int .i64 14, .int .i64 r, .int .i64 a, .int .i64 c, .int .i64 xi, .int .i64 xn] 69)) w.heap.size [.int .i64 14, .int .i64 r, .int .i64 a, .int .i64 c, .int .i64 xi, .int .i64 xn] 69:=ah.newAt _ rfl rfl;have ka:=(Kz w).alloc (.cells #[.int .i64 14, .int .i64 r, .int .i64 a, .int .i64 c, .int .i64 xi, .int .i64 xn] 69);have HB1:=Hz (B.same ka);have K1:=Hz ka;have SB1:=Hz aw;have SOW:=Hz (show ¬ h.Own w.heap.size from fun e=>by have:=B.bU e;omega);clear aw ka B;go_enter Tryz.func98,Tryz.ntmps98;go_wp2_with fail;generalize w.alloc (.cells #[.int .i64 14, .int .i64 r, .int .i64 a, .int .i64 c, .int .i64 xi, .int .i64 xn] 69)=w1 at *;generalize w.heap.size=sb at *;have s0:=SB1.out.cell 0;have s1:=SB1.out.cell 1;have s2:=SB1.out.cell 2;have s3:=SB1.out.cell 3;have s4:=SB1.out.cell 4;have s5:=SB1.out.cell 5;have sl:=SB1.out.lt;simp only [Lz,Ls] at s0 s1 s2 s3 s4 s5;obtain ⟨b0,bl⟩:=HB1.out.pc;obtain ⟨g,o,cap,hro,hown,q0,q3,ql,gl,fz,rc⟩:=HB1.out.roots;have ra:=rc a ha;have rb:=rc c hc;have hai:(a:Int)<12:=by omega
  have hci:(c:Int)<12:=by omega
  clear hro hown fz rc;have ra:w1.cell? ⟨g,o+a,none⟩=some (.int .i64 (O.ba a)):=ra;have rb:w1.cell? ⟨g,o+c,none⟩=some (.int .i64 (O.ba c)):=rb;have heq:=HVC.out;generalize O.ba (a:Int)=va at *;generalize O.ba (c:Int)=vc at *;have hee:(va == vc)=false:=by simpa using heq
  clear heq;go_wp2_with fail;refine ay (.free 0 (.free 1 (.free 2 (.free 7 (.free 11 (.free 12 (.free 13 (.free 18 (.pure 3 (.free 4 (.free 5 (.pure 6 (.pure 8 (.free 9 (.pure 10 (.pure 14 (.free 15 (.free 16 (.pure 17 (.pure 19 (.free 20 (.pure 21 (.free 22 (.fin)))))))))))))))))))))))) [] (fun w'=>w'.cell? ⟨h.p,0,none⟩=some (.pointer (some ⟨h.a.p,0,none⟩))∧w'.cell? ⟨h.a.p,3,none⟩=some (.slice (some ⟨g,o,none⟩) 12 cap)∧w'.cell? ⟨g,o+a,none⟩=some (.int .i64 va)∧w'.cell? ⟨g,o+c,none⟩=some (.int .i64 vc)∧w'.cell? ⟨sb,2,none⟩=some (.int .i64 a)∧w'.cell? ⟨sb,3,none⟩=some (.int .i64 c)) (by kernel_rfl) (by kernel_rfl) ⟨b0,q3,ra,rb,s2,s3⟩ ?_
  iterate 23 ((first | refine au rfl rfl fun K hK=>?_ | refine aq rfl rfl fun K hK=>?_ | refine aF rfl rfl fun K hK=>?_ | refine az rfl rfl fun K hK=>?_ | refine aE rfl rfl fun K hK=>?_);go_simp;refine hK _ ?_;clear hK K)
  refine aB ?_;have kd1:=(Kz w1).drew;have HB2:=Hz (HB1.out.same kd1);have K2:=Hz (K1.out.trans kd1);have SB2:=Hz (kd1.ak SB1.out (fun h=>h));clear kd1 s0 s1 s2 s3 s4 s5 sl HB1 K1 SB1 b0 bl q0 q3 ql gl ra rb;generalize w1.drew=w2 at *;have s1:=SB2.out.cell 1;have s2:=SB2.out.cell 2;have sl:=SB2.out.lt;simp only [Lz,Ls] at s1 s2;have HX:=Hz (show br (4*0) by unfold br;omega);have NUM:=Hz (fun w=>nQ 0 w (by unfold cA;omega));go_wp2_with fail;refine ay (.free 0 (.free 1 (.free 3 (.pure 2 (.run 4 (.run 5 (.swi [] (.free 6 (.fin))))))))) [5,6] (fun w'=>w'.cell? ⟨sb,1,none⟩=some (.int .i64 r)) (by kernel_rfl) (by kernel_rfl) s1 ?_
  iterate 4 ((first | refine au rfl rfl fun K hK=>?_ | refine aq rfl rfl fun K hK=>?_ | refine aF rfl rfl fun K hK=>?_ | refine az rfl rfl fun K hK=>?_ | refine aE rfl rfl fun K hK=>?_);go_simp;refine hK _ ?_;clear hK K)
  refine aM rfl rfl (fun K hK=>?_);unfold aC;go_simp;refine (NUM.out _).mono ?_;rintro e w7 ⟨rfl,hk7⟩;have kk:=(Kz w2).drew.trans hk7;have HB7:=Hz (HB2.out.same kk);have K7:=Hz (K2.out.trans kk);have SB7:=Hz (kk.ak SB2.out (fun h=>h));refine hK _ _ (fun _=>SB7.out.cell 1) ?_;clear hK K hk7 kk HB2 K2 SB2 s1 s2 sl;have s1:=SB7.out.cell 1;have sl:=SB7.out.lt;simp only [Lz,Ls] at s1
  skip
  refine aJ rfl rfl rfl (fun K hK=>?_);unfold aC;go_simp;refine (iw r (4*0) (0) HB7.out hr HX.out).mono ?_;rintro e w8 ⟨rfl,ht⟩;have TO:=Hz (a6.aW K7.out ht.to);refine hK _ _ ?_;clear hK K ht s1 sl;refine aH (fun _=>True) trivial ?_
  iterate 1 ((first | refine au rfl rfl fun K hK=>?_ | refine aq rfl rfl fun K hK=>?_);go_simp;refine hK _ ?_;clear hK K)
  refine aB ?_;go_wp2_with fail;go_ret;unfold dq;exact ⟨rfl,TO.out⟩
end
end
section
open Go.RowKit
section
variable {w w':World} {h:HH} {O O':Wo} {W:Wd} {φ:Int→Int}
theorem y6 (xk xr xa xb xi xn:Int) (B:bj w h O) (hbad:¬ aX ⟨xk,xr,xa,xb,xi,xn⟩=0) :
  Calls Tryz.prog 32 #[.pointer (some ⟨h.p,0,none⟩), .agg #[.int .i64 xk, .int .i64 xr, .int .i64 xa, .int .i64 xb, .int .i64 xi, .int .i64 xn]] w (bO w h O ⟨xk,xr,xa,xb,xi,xn⟩):=by
 unfold bO;have HBD:=Hz hbad;clear hbad;have HB0:=Hz B;have aw:ah (w.alloc (.cells #[.int .i64 xk, .int .i64 xr, .int .i64 xa, .int .i64 xb, .int .i64 xi, .int .i64 xn] 69)) w.heap.size [.int .i64 xk, .int .i64 xr, .int .i64 xa, .int .i64 xb, .int .i64 xi, .int .i64 xn] 69:=ah.newAt _ rfl rfl;have ka:=(Kz w).alloc (.cells #[.int .i64 xk, .int .i64 xr, .int .i64 xa, .int .i64 xb, .int .i64 xi, .int .i64 xn] 69);have s0:=aw.cell 0;have s1:=aw.cell 1;have s2:=aw.cell 2;have s3:=aw.cell 3;have s4:=aw.cell 4;have s5:=aw.cell 5;have sl:=aw.lt;simp only [Lz,Ls] at s0 s1 s2 s3 s4 s5;have HSF:=Hz (fun w=>dD ⟨xk,xr,xa,xb,xi,xn⟩ w);obtain ⟨c,hc⟩:∃ c,aX ⟨xk,xr,xa,xb,xi,xn⟩=c:=⟨_,rfl⟩;rw [hc] at HSF;have HC:=Hz hc;have HB:=Hz aw;have KA:=Hz ka;clear aw hc ka B;go_enter Tryz.func32,Tryz.ntmps32;go_wp2_with (refine aV rfl 69 (.tmp 3) rfl [.int .i64 xk, .int .i64 xr, .int .i64 xa, .int .i64 xb, .int .i64 xi, .int .i64 xn] (by kernel_rfl) w.heap.size 0 rfl (aa s0 (aa s1 (aa s2 (aa s3 (aa s4 (aa s5 aQ)))))) ?_);refine (HSF.out _).mono ?_;rintro e w1 ⟨rfl,hk⟩;have HB1:=Hz ((HB0.out.same KA.out).same hk);have K1:=Hz (KA.out.trans hk);have SB1:=Hz (hk.ak HB.out (fun h=>h));have SFR:=Hz (show ¬ h.Own w.heap.size from fun e=>by have:=HB0.out.bU e;omega);clear hk s0 s1 s2 s3 s4 s5 sl HSF KA HB;generalize w.heap.size=sb at *;have s0:=SB1.out.cell 0;have s1:=SB1.out.cell 1;have s2:=SB1.out.cell 2;have s3:=SB1.out.cell 3;have s4:=SB1.out.cell 4;have s5:=SB1.out.cell 5;have sl:=SB1.out.lt;simp only [Lz,Ls] at s0 s1 s2 s3 s4 s5;by_cases h0:¬ c=0
 ·have HE:=Hz (show O.do ⟨xk,xr,xa,xb,xi,xn⟩=(c,O) by unfold Wo.do;rw [HC.out,if_neg h0]);have hd:(c != 0)=true:=by simpa using h0
  clear h0;go_wp2_with fail;go_ret;exact ⟨by rw [HE.out];rfl,by rw [HE.out];exact a6.same HB0.out K1.out⟩
 have h0:c=0:=Classical.not_not.1 h0;subst h0;exact (HBD.out HC.out).elim
theorem y7 (xr xa xb xi xn:Int) (B:bj w h O) :
  Calls Tryz.prog 32 #[.pointer (some ⟨h.p,0,none⟩), .agg #[.int .i64 2, .int .i64 xr, .int .i64 xa, .int .i64 xb, .int .i64 xi, .int .i64 xn]] w (bO w h O ⟨2,xr,xa,xb,xi,xn⟩):=by
 unfold bO;have HB0:=Hz B;have aw:ah (w.alloc (.cells #[.int .i64 2, .int .i64 xr, .int .i64 xa, .int .i64 xb, .int .i64 xi, .int .i64 xn] 69)) w.heap.size [.int .i64 2, .int .i64 xr, .int .i64 xa, .int .i64 xb, .int .i64 xi, .int .i64 xn] 69:=ah.newAt _ rfl rfl;have ka:=(Kz w).alloc (.cells #[.int .i64 2, .int .i64 xr, .int .i64 xa, .int .i64 xb, .int .i64 xi, .int .i64 xn] 69);have s0:=aw.cell 0;have s1:=aw.cell 1;have s2:=aw.cell 2;have s3:=aw.cell 3;have s4:=aw.cell 4;have s5:=aw.cell 5;have sl:=aw.lt;simp only [Lz,Ls] at s0 s1 s2 s3 s4 s5;have HSF:=Hz (fun w=>dD ⟨2,xr,xa,xb,xi,xn⟩ w);obtain ⟨c,hc⟩:∃ c,aX ⟨2,xr,xa,xb,xi,xn⟩=c:=⟨_,rfl⟩;rw [hc] at HSF;have HC:=Hz hc;have HB:=Hz aw;have KA:=Hz ka;clear aw hc ka B;go_enter Tryz.func32,Tryz.ntmps32;go_wp2_with (refine aV rfl 69 (.tmp 3) rfl [.int .i64 2, .int .i64 xr, .int .i64 xa, .int .i64 xb, .int .i64 xi, .int .i64 xn] (by kernel_rfl) w.heap.size 0 rfl (aa s0 (aa s1 (aa s2 (aa s3 (aa s4 (aa s5 aQ)))))) ?_);refine (HSF.out _).mono ?_;rintro e w1 ⟨rfl,hk⟩;have HB1:=Hz ((HB0.out.same KA.out).same hk);have K1:=Hz (KA.out.trans hk);have SB1:=Hz (hk.ak HB.out (fun h=>h));have SFR:=Hz (show ¬ h.Own w.heap.size from fun e=>by have:=HB0.out.bU e;omega);clear hk s0 s1 s2 s3 s4 s5 sl HSF KA HB;generalize w.heap.size=sb at *;have s0:=SB1.out.cell 0;have s1:=SB1.out.cell 1;have s2:=SB1.out.cell 2;have s3:=SB1.out.cell 3;have s4:=SB1.out.cell 4;have s5:=SB1.out.cell 5;have sl:=SB1.out.lt;simp only [Lz,Ls] at s0 s1 s2 s3 s4 s5;by_cases h0:¬ c=0
 ·have HE:=Hz (show O.do ⟨2,xr,xa,xb,xi,xn⟩=(c,O) by unfold Wo.do;rw [HC.out,if_neg h0]);have hd:(c != 0)=true:=by simpa using h0
  clear h0;go_wp2_with fail;go_ret;exact ⟨by rw [HE.out];rfl,by rw [HE.out];exact a6.same HB0.out K1.out⟩
 have h0:c=0:=Classical.not_not.1 h0;subst h0;have hr:0≤xr∧xr<12:=(aN _).1 ((aI HC.out).2.1 (show aR 2%2=1 by decide));obtain ⟨r,rfl⟩:∃ r:Nat,xr=r:=⟨xr.toNat,by omega⟩;have hr12:r<12:=by omega
 clear hr;have HE:=Hz (show O.do ⟨2,r,xa,xb,xi,xn⟩=O.gU r (2,0) by unfold Wo.do;rw [if_pos HC.out];rfl);go_wp2_with fail;refine ay (.free 0 (.free 1 (.pure 2 (.run 3 (.run 4 (.swi [] (.free 5 (.fin)))))))) [4,5] (fun w'=>w'.cell? ⟨sb,1,none⟩=some (.int .i64 r)) (by kernel_rfl) (by kernel_rfl) s1 ?_
 iterate 3 ((first | refine au rfl rfl fun K hK=>?_ | refine aq rfl rfl fun K hK=>?_ | refine aF rfl rfl fun K hK=>?_ | refine az rfl rfl fun K hK=>?_ | refine aE rfl rfl fun K hK=>?_);go_simp;refine hK _ ?_;clear hK K)
 refine aM rfl rfl (fun K hK=>?_);unfold aC;go_simp;refine (uW _).mono ?_;rintro e w7 ⟨rfl,rfl⟩;refine hK _ _ (fun hg=>hg) ?_;clear hK K
 skip
 refine aJ rfl rfl rfl (fun K hK=>?_);unfold aC;go_simp;have hk1:=(Kz w1).drew;refine (iw r 2 0 (HB1.out.same hk1) hr12 (by unfold br;omega)).mono ?_;rintro e w8 ⟨rfl,ht⟩;have TO:=Hz (a6.aW (K1.out.trans hk1) ht.to);refine hK _ _ ?_;clear hK K ht hk1 s0 s1 s2 s3 s4 s5 sl;refine aH (fun _=>True) trivial ?_
 iterate 1 ((first | refine au rfl rfl fun K hK=>?_ | refine aq rfl rfl fun K hK=>?_);go_simp;refine hK _ ?_;clear hK K)
 refine aB ?_;go_wp2_with fail;go_ret;exact ⟨by rw [HE.out];rfl,by rw [HE.out];exact TO.out⟩
theorem xJ (xr xa xb xi xn:Int) (B:bj w h O) :
  Calls Tryz.prog 32 #[.pointer (some ⟨h.p,0,none⟩), .agg #[.int .i64 3, .int .i64 xr, .int .i64 xa, .int .i64 xb, .int .i64 xi, .int .i64 xn]] w (bO w h O ⟨3,xr,xa,xb,xi,xn⟩):=by
 unfold bO;have HB0:=Hz B;have aw:ah (w.alloc (.cells #[.int .i64 3, .int .i64 xr, .int .i64 xa, .int .i64 xb, .int .i64 xi, .int .i64 xn] 69)) w.heap.size [.int .i64 3, .int .i64 xr, .int .i64 xa, .int .i64 xb, .int .i64 xi, .int .i64 xn] 69:=ah.newAt _ rfl rfl;have ka:=(Kz w).alloc (.cells #[.int .i64 3, .int .i64 xr, .int .i64 xa, .int .i64 xb, .int .i64 xi, .int .i64 xn] 69);have s0:=aw.cell 0;have s1:=aw.cell 1;have s2:=aw.cell 2;have s3:=aw.cell 3;have s4:=aw.cell 4;have s5:=aw.cell 5;have sl:=aw.lt;simp only [Lz,Ls] at s0 s1 s2 s3 s4 s5;have HSF:=Hz (fun w=>dD ⟨3,xr,xa,xb,xi,xn⟩ w);obtain ⟨c,hc⟩:∃ c,aX ⟨3,xr,xa,xb,xi,xn⟩=c:=⟨_,rfl⟩;rw [hc] at HSF;have HC:=Hz hc;have HB:=Hz aw;have KA:=Hz ka;clear aw hc ka B;go_enter Tryz.func32,Tryz.ntmps32;go_wp2_with (refine aV rfl 69 (.tmp 3) rfl [.int .i64 3, .int .i64 xr, .int .i64 xa, .int .i64 xb, .int .i64 xi, .int .i64 xn] (by kernel_rfl) w.heap.size 0 rfl (aa s0 (aa s1 (aa s2 (aa s3 (aa s4 (aa s5 aQ)))))) ?_);refine (HSF.out _).mono ?_;rintro e w1 ⟨rfl,hk⟩;have HB1:=Hz ((HB0.out.same KA.out).same hk);have K1:=Hz (KA.out.trans hk);have SB1:=Hz (hk.ak HB.out (fun h=>h));have SFR:=Hz (show ¬ h.Own w.heap.size from fun e=>by have:=HB0.out.bU e;omega);clear hk s0 s1 s2 s3 s4 s5 sl HSF KA HB;generalize w.heap.size=sb at *;have s0:=SB1.out.cell 0;have s1:=SB1.out.cell 1;have s2:=SB1.out.cell 2;have s3:=SB1.out.cell 3;have s4:=SB1.out.cell 4;have s5:=SB1.out.cell 5;have sl:=SB1.out.lt;simp only [Lz,Ls] at s0 s1 s2 s3 s4 s5;by_cases h0:¬ c=0
 ·have HE:=Hz (show O.do ⟨3,xr,xa,xb,xi,xn⟩=(c,O) by unfold Wo.do;rw [HC.out,if_neg h0]);have hd:(c != 0)=true:=by simpa using h0
  clear h0;go_wp2_with fail;go_ret;exact ⟨by rw [HE.out];rfl,by rw [HE.out];exact a6.same HB0.out K1.out⟩
 have h0:c=0:=Classical.not_not.1 h0;subst h0;have hr:0≤xr∧xr<12:=(aN _).1 ((aI HC.out).2.1 (show aR 3%2=1 by decide));obtain ⟨r,rfl⟩:∃ r:Nat,xr=r:=⟨xr.toNat,by omega⟩;have hr12:r<12:=by omega
 clear hr;have ha:0≤xa∧xa<12:=(aN _).1 ((aI HC.out).2.2.1 (show aR 3/2%2=1 by decide));obtain ⟨a,rfl⟩:∃ a:Nat,xa=a:=⟨xa.toNat,by omega⟩;have ha12:a<12:=by omega
 clear ha;have HE:=Hz (show O.do ⟨3,r,a,xb,xi,xn⟩=O.gU r (O.ba a,0) by unfold Wo.do;rw [if_pos HC.out];rfl);obtain ⟨b0,bl⟩:=HB1.out.pc;obtain ⟨g,o,cap,hro,hown,q0,q3,ql,gl,fz,rc⟩:=HB1.out.roots;have ra:=rc a ha12;have ra:w1.cell? ⟨g,o+a,none⟩=some (.int .i64 (O.ba a)):=ra;have ha12i:(a:Int)<12:=by omega
 clear hro hown fz rc;have HVR:=Hz (kj HB1.out.H.ok (a:Int));generalize O.ba (a:Int)=va at *;go_wp2_with fail;refine ay (.free 0 (.free 1 (.free 3 (.free 4 (.free 5 (.free 10 (.pure 2 (.pure 6 (.free 7 (.free 8 (.pure 9 (.pure 11 (.free 12 (.pure 13 (.run 14 (.swi [] (.free 15 (.fin)))))))))))))))))) [14,15] (fun w'=>w'.cell? ⟨h.p,0,none⟩=some (.pointer (some ⟨h.a.p,0,none⟩))∧w'.cell? ⟨h.a.p,3,none⟩=some (.slice (some ⟨g,o,none⟩) 12 cap)∧w'.cell? ⟨g,o+a,none⟩=some (.int .i64 va)∧w'.cell? ⟨sb,1,none⟩=some (.int .i64 r)∧w'.cell? ⟨sb,2,none⟩=some (.int .i64 a)) (by kernel_rfl) (by kernel_rfl) ⟨b0,q3,ra,s1,s2⟩ ?_
 iterate 14 ((first | refine au rfl rfl fun K hK=>?_ | refine aq rfl rfl fun K hK=>?_ | refine aF rfl rfl fun K hK=>?_ | refine az rfl rfl fun K hK=>?_ | refine aE rfl rfl fun K hK=>?_);go_simp;refine hK _ ?_;clear hK K)
 refine aJ rfl rfl rfl (fun K hK=>?_);unfold aC;go_simp;have hk1:=(Kz w1).drew;refine (iw r va 0 (HB1.out.same hk1) hr12 HVR.out).mono ?_;rintro e w8 ⟨rfl,ht⟩;have TO:=Hz (a6.aW (K1.out.trans hk1) ht.to);refine hK _ _ ?_;clear hK K ht hk1 s0 s1 s2 s3 s4 s5 sl b0 bl q0 q3 ql gl ra;refine aH (fun _=>True) trivial ?_
 iterate 1 ((first | refine au rfl rfl fun K hK=>?_ | refine aq rfl rfl fun K hK=>?_);go_simp;refine hK _ ?_;clear hK K)
 refine aB ?_;go_wp2_with fail;go_ret;exact ⟨by rw [HE.out];rfl,by rw [HE.out];exact TO.out⟩
theorem y8 (xr xa xb xi xn:Int) (R:aL O W φ) (B:bj w h O) :
  Calls Tryz.prog 32 #[.pointer (some ⟨h.p,0,none⟩), .agg #[.int .i64 5, .int .i64 xr, .int .i64 xa, .int .i64 xb, .int .i64 xi, .int .i64 xn]] w (bO w h O ⟨5,xr,xa,xb,xi,xn⟩):=by
 unfold bO;have HRR:=Hz R;clear R;have HB0:=Hz B;have aw:ah (w.alloc (.cells #[.int .i64 5, .int .i64 xr, .int .i64 xa, .int .i64 xb, .int .i64 xi, .int .i64 xn] 69)) w.heap.size [.int .i64 5, .int .i64 xr, .int .i64 xa, .int .i64 xb, .int .i64 xi, .int .i64 xn] 69:=ah.newAt _ rfl rfl;have ka:=(Kz w).alloc (.cells #[.int .i64 5, .int .i64 xr, .int .i64 xa, .int .i64 xb, .int .i64 xi, .int .i64 xn] 69);have s0:=aw.cell 0;have s1:=aw.cell 1;have s2:=aw.cell 2;have s3:=aw.cell 3;have s4:=aw.cell 4;have s5:=aw.cell 5;have sl:=aw.lt;simp only [Lz,Ls] at s0 s1 s2 s3 s4 s5;have HSF:=Hz (fun w=>dD ⟨5,xr,xa,xb,xi,xn⟩ w);obtain ⟨c,hc⟩:∃ c,aX ⟨5,xr,xa,xb,xi,xn⟩=c:=⟨_,rfl⟩;rw [hc] at HSF;have HC:=Hz hc;have HB:=Hz aw;have KA:=Hz ka;clear aw hc ka B;go_enter Tryz.func32,Tryz.ntmps32;go_wp2_with (refine aV rfl 69 (.tmp 3) rfl [.int .i64 5, .int .i64 xr, .int .i64 xa, .int .i64 xb, .int .i64 xi, .int .i64 xn] (by kernel_rfl) w.heap.size 0 rfl (aa s0 (aa s1 (aa s2 (aa s3 (aa s4 (aa s5 aQ)))))) ?_);refine (HSF.out _).mono ?_;rintro e w1 ⟨rfl,hk⟩;have HB1:=Hz ((HB0.out.same KA.out).same hk);have K1:=Hz (KA.out.trans hk);have SB1:=Hz (hk.ak HB.out (fun h=>h));have SFR:=Hz (show ¬ h.Own w.heap.size from fun e=>by have:=HB0.out.bU e;omega);clear hk s0 s1 s2 s3 s4 s5 sl HSF KA HB;generalize w.heap.size=sb at *;have s0:=SB1.out.cell 0;have s1:=SB1.out.cell 1;have s2:=SB1.out.cell 2;have s3:=SB1.out.cell 3;have s4:=SB1.out.cell 4;have s5:=SB1.out.cell 5;have sl:=SB1.out.lt;simp only [Lz,Ls] at s0 s1 s2 s3 s4 s5;by_cases h0:¬ c=0
 ·have HE:=Hz (show O.do ⟨5,xr,xa,xb,xi,xn⟩=(c,O) by unfold Wo.do;rw [HC.out,if_neg h0]);have hd:(c != 0)=true:=by simpa using h0
  clear h0;go_wp2_with fail;go_ret;exact ⟨by rw [HE.out];rfl,by rw [HE.out];exact a6.same HB0.out K1.out⟩
 have h0:c=0:=Classical.not_not.1 h0;subst h0;have hr:0≤xr∧xr<12:=(aN _).1 ((aI HC.out).2.1 (show aR 5%2=1 by decide));obtain ⟨r,rfl⟩:∃ r:Nat,xr=r:=⟨xr.toNat,by omega⟩;have hr12:r<12:=by omega
 clear hr;have ha:0≤xa∧xa<12:=(aN _).1 ((aI HC.out).2.2.1 (show aR 5/2%2=1 by decide));obtain ⟨a,rfl⟩:∃ a:Nat,xa=a:=⟨xa.toNat,by omega⟩;have ha12:a<12:=by omega
 clear ha;have hn:0≤xn∧xn≤12:=(aI HC.out).2.2.2.2.2 rfl;obtain ⟨n,rfl⟩:∃ n:Nat,xn=n:=⟨xn.toNat,by omega⟩;have HE:=Hz (show O.do ⟨5,r,a,xb,xi,n⟩=O.bR r 2 (List.replicate n (a:Int)) by unfold Wo.do;rw [if_pos HC.out];rfl);have HCL:=Hz (xH r a n xb xi HB1.out hr12 ha12 (by omega) (eN.rep HRR.out (by omega)));unfold dq at HCL;clear hn;go_wp2_with (refine aV rfl 69 (.tmp 3) rfl [.int .i64 5, .int .i64 r, .int .i64 a, .int .i64 xb, .int .i64 xi, .int .i64 n] (by kernel_rfl) sb 0 rfl (aa s0 (aa s1 (aa s2 (aa s3 (aa s4 (aa s5 aQ)))))) ?_);refine HCL.out.mono ?_;rintro e w3 ⟨rfl,ht⟩;have TO:=Hz (a6.aW K1.out ht);clear ht s0 s1 s2 s3 s4 s5 sl HCL;go_wp2_with fail;go_ret;exact ⟨by rw [HE.out];rfl,by rw [HE.out];exact TO.out⟩
theorem xK (xr xa xb xi xn:Int) (R:aL O W φ) (B:bj w h O) :
  Calls Tryz.prog 32 #[.pointer (some ⟨h.p,0,none⟩), .agg #[.int .i64 6, .int .i64 xr, .int .i64 xa, .int .i64 xb, .int .i64 xi, .int .i64 xn]] w (bO w h O ⟨6,xr,xa,xb,xi,xn⟩):=by
 unfold bO;have HRM:=Hz (show eN h O 3 from eN.rep R (by omega));clear R;have HB0:=Hz B;have aw:ah (w.alloc (.cells #[.int .i64 6, .int .i64 xr, .int .i64 xa, .int .i64 xb, .int .i64 xi, .int .i64 xn] 69)) w.heap.size [.int .i64 6, .int .i64 xr, .int .i64 xa, .int .i64 xb, .int .i64 xi, .int .i64 xn] 69:=ah.newAt _ rfl rfl;have ka:=(Kz w).alloc (.cells #[.int .i64 6, .int .i64 xr, .int .i64 xa, .int .i64 xb, .int .i64 xi, .int .i64 xn] 69);have s0:=aw.cell 0;have s1:=aw.cell 1;have s2:=aw.cell 2;have s3:=aw.cell 3;have s4:=aw.cell 4;have s5:=aw.cell 5;have sl:=aw.lt;simp only [Lz,Ls] at s0 s1 s2 s3 s4 s5;have HSF:=Hz (fun w=>dD ⟨6,xr,xa,xb,xi,xn⟩ w);obtain ⟨c,hc⟩:∃ c,aX ⟨6,xr,xa,xb,xi,xn⟩=c:=⟨_,rfl⟩;rw [hc] at HSF;have HC:=Hz hc;have HB:=Hz aw;have KA:=Hz ka;clear aw hc ka B;go_enter Tryz.func32,Tryz.ntmps32;go_wp2_with (refine aV rfl 69 (.tmp 3) rfl [.int .i64 6, .int .i64 xr, .int .i64 xa, .int .i64 xb, .int .i64 xi, .int .i64 xn] (by kernel_rfl) w.heap.size 0 rfl (aa s0 (aa s1 (aa s2 (aa s3 (aa s4 (aa s5 aQ)))))) ?_);refine (HSF.out _).mono ?_;rintro e w1 ⟨rfl,hk⟩;have HB1:=Hz ((HB0.out.same KA.out).same hk);have K1:=Hz (KA.out.trans hk);have SB1:=Hz (hk.ak HB.out (fun h=>h));have SFR:=Hz (show ¬ h.Own w.heap.size from fun e=>by have:=HB0.out.bU e;omega);clear hk s0 s1 s2 s3 s4 s5 sl HSF KA HB;generalize w.heap.size=sb at *;have s0:=SB1.out.cell 0;have s1:=SB1.out.cell 1;have s2:=SB1.out.cell 2;have s3:=SB1.out.cell 3;have s4:=SB1.out.cell 4;have s5:=SB1.out.cell 5;have sl:=SB1.out.lt;simp only [Lz,Ls] at s0 s1 s2 s3 s4 s5;by_cases h0:¬ c=0
 ·have HE:=Hz (show O.do ⟨6,xr,xa,xb,xi,xn⟩=(c,O) by unfold Wo.do;rw [HC.out,if_neg h0]);have hd:(c != 0)=true:=by simpa using h0
  clear h0;go_wp2_with fail;go_ret;exact ⟨by rw [HE.out];rfl,by rw [HE.out];exact a6.same HB0.out K1.out⟩
 have h0:c=0:=Classical.not_not.1 h0;subst h0;have hr:0≤xr∧xr<12:=(aN _).1 ((aI HC.out).2.1 (show aR 6%2=1 by decide));obtain ⟨r,rfl⟩:∃ r:Nat,xr=r:=⟨xr.toNat,by omega⟩;have hr12:r<12:=by omega
 clear hr;have ha:0≤xa∧xa<12:=(aN _).1 ((aI HC.out).2.2.1 (show aR 6/2%2=1 by decide));obtain ⟨a,rfl⟩:∃ a:Nat,xa=a:=⟨xa.toNat,by omega⟩;have ha12:a<12:=by omega
 clear ha;have hb:0≤xb∧xb<12:=(aN _).1 ((aI HC.out).2.2.2.1 (show aR 6/4%2=1 by decide));obtain ⟨b,rfl⟩:∃ b:Nat,xb=b:=⟨xb.toNat,by omega⟩;have hb12:b<12:=by omega
 clear hb;have HE:=Hz (show O.do ⟨6,r,a,b,xi,xn⟩=O.bR r 3 ([a,b].map fun (k:Nat)=>(k:Int)) by unfold Wo.do;rw [if_pos HC.out];rfl);have ka:=(Kz w1).alloc (.cells #[.int .i64 a, .int .i64 b] 3);have hbl:ah (w1.alloc (.cells #[.int .i64 a, .int .i64 b] 3)) w1.heap.size [.int .i64 a, .int .i64 b] 3:=ah.newAt _ rfl rfl;have hmk:=lO r 3 [a,b] (some ⟨w1.heap.size,0,none⟩) 2 (HB1.out.same ka) hr12 (by intro k hk;simp at hk;omega) (show bs 3 2=true by decide) (Rd.ak hbl 0 _ rfl) (fun ad e hb hn=>by cases e;have:=HB1.out.bU hn;simp at this) (HRM.out.1 _ (HB1.out.same ka)) HRM.out.2;have HMK:=Hz hmk;have HKA:=Hz ka;clear ka hbl hmk;go_wp2_with fail;refine HMK.out.mono ?_;rintro e w3 ⟨rfl,ht⟩;have TO:=Hz (a6.aW (K1.out.trans HKA.out) ht);clear ht s0 s1 s2 s3 s4 s5 sl;go_wp2_with fail;go_ret;exact ⟨by rw [HE.out];rfl,by rw [HE.out];exact TO.out⟩
theorem vW (xr xa xb xi xn:Int) (R:aL O W φ) (B:bj w h O) :
  Calls Tryz.prog 32 #[.pointer (some ⟨h.p,0,none⟩), .agg #[.int .i64 7, .int .i64 xr, .int .i64 xa, .int .i64 xb, .int .i64 xi, .int .i64 xn]] w (bO w h O ⟨7,xr,xa,xb,xi,xn⟩):=by
 unfold bO;have HRM:=Hz (show eN h O 3 from eN.rep R (by omega));clear R;have HB0:=Hz B;have aw:ah (w.alloc (.cells #[.int .i64 7, .int .i64 xr, .int .i64 xa, .int .i64 xb, .int .i64 xi, .int .i64 xn] 69)) w.heap.size [.int .i64 7, .int .i64 xr, .int .i64 xa, .int .i64 xb, .int .i64 xi, .int .i64 xn] 69:=ah.newAt _ rfl rfl;have ka:=(Kz w).alloc (.cells #[.int .i64 7, .int .i64 xr, .int .i64 xa, .int .i64 xb, .int .i64 xi, .int .i64 xn] 69);have s0:=aw.cell 0;have s1:=aw.cell 1;have s2:=aw.cell 2;have s3:=aw.cell 3;have s4:=aw.cell 4;have s5:=aw.cell 5;have sl:=aw.lt;simp only [Lz,Ls] at s0 s1 s2 s3 s4 s5;have HSF:=Hz (fun w=>dD ⟨7,xr,xa,xb,xi,xn⟩ w);obtain ⟨c,hc⟩:∃ c,aX ⟨7,xr,xa,xb,xi,xn⟩=c:=⟨_,rfl⟩;rw [hc] at HSF;have HC:=Hz hc;have HB:=Hz aw;have KA:=Hz ka;clear aw hc ka B;go_enter Tryz.func32,Tryz.ntmps32;go_wp2_with (refine aV rfl 69 (.tmp 3) rfl [.int .i64 7, .int .i64 xr, .int .i64 xa, .int .i64 xb, .int .i64 xi, .int .i64 xn] (by kernel_rfl) w.heap.size 0 rfl (aa s0 (aa s1 (aa s2 (aa s3 (aa s4 (aa s5 aQ)))))) ?_);refine (HSF.out _).mono ?_;rintro e w1 ⟨rfl,hk⟩;have HB1:=Hz ((HB0.out.same KA.out).same hk);have K1:=Hz (KA.out.trans hk);have SB1:=Hz (hk.ak HB.out (fun h=>h));have SFR:=Hz (show ¬ h.Own w.heap.size from fun e=>by have:=HB0.out.bU e;omega);clear hk s0 s1 s2 s3 s4 s5 sl HSF KA HB;generalize w.heap.size=sb at *;have s0:=SB1.out.cell 0;have s1:=SB1.out.cell 1;have s2:=SB1.out.cell 2;have s3:=SB1.out.cell 3;have s4:=SB1.out.cell 4;have s5:=SB1.out.cell 5;have sl:=SB1.out.lt;simp only [Lz,Ls] at s0 s1 s2 s3 s4 s5;by_cases h0:¬ c=0
 ·have HE:=Hz (show O.do ⟨7,xr,xa,xb,xi,xn⟩=(c,O) by unfold Wo.do;rw [HC.out,if_neg h0]);have hd:(c != 0)=true:=by simpa using h0
  clear h0;go_wp2_with fail;go_ret;exact ⟨by rw [HE.out];rfl,by rw [HE.out];exact a6.same HB0.out K1.out⟩
 have h0:c=0:=Classical.not_not.1 h0;subst h0;have hr:0≤xr∧xr<12:=(aN _).1 ((aI HC.out).2.1 (show aR 7%2=1 by decide));obtain ⟨r,rfl⟩:∃ r:Nat,xr=r:=⟨xr.toNat,by omega⟩;have hr12:r<12:=by omega
 clear hr;have ha:0≤xa∧xa<12:=(aN _).1 ((aI HC.out).2.2.1 (show aR 7/2%2=1 by decide));obtain ⟨a,rfl⟩:∃ a:Nat,xa=a:=⟨xa.toNat,by omega⟩;have ha12:a<12:=by omega
 clear ha;have hb:0≤xb∧xb<12:=(aN _).1 ((aI HC.out).2.2.2.1 (show aR 7/4%2=1 by decide));obtain ⟨b,rfl⟩:∃ b:Nat,xb=b:=⟨xb.toNat,by omega⟩;have hb12:b<12:=by omega
 clear hb;have HE:=Hz (show O.do ⟨7,r,a,b,xi,xn⟩=O.bR r 4 ([a,b].map fun (k:Nat)=>(k:Int)) by unfold Wo.do;rw [if_pos HC.out];rfl);have ka:=(Kz w1).alloc (.cells #[.int .i64 a, .int .i64 b] 3);have hbl:ah (w1.alloc (.cells #[.int .i64 a, .int .i64 b] 3)) w1.heap.size [.int .i64 a, .int .i64 b] 3:=ah.newAt _ rfl rfl;have hmk:=lO r 4 [a,b] (some ⟨w1.heap.size,0,none⟩) 2 (HB1.out.same ka) hr12 (by intro k hk;simp at hk;omega) (show bs 4 2=true by decide) (Rd.ak hbl 0 _ rfl) (fun ad e hb hn=>by cases e;have:=HB1.out.bU hn;simp at this) (HRM.out.1 _ (HB1.out.same ka)) HRM.out.2;have HMK:=Hz hmk;have HKA:=Hz ka;clear ka hbl hmk;go_wp2_with fail;refine HMK.out.mono ?_;rintro e w3 ⟨rfl,ht⟩;have TO:=Hz (a6.aW (K1.out.trans HKA.out) ht);clear ht s0 s1 s2 s3 s4 s5 sl;go_wp2_with fail;go_ret;exact ⟨by rw [HE.out];rfl,by rw [HE.out];exact TO.out⟩
theorem vX (xr xa xb xi xn:Int) (R:aL O W φ) (B:bj w h O) :
  Calls Tryz.prog 32 #[.pointer (some ⟨h.p,0,none⟩), .agg #[.int .i64 8, .int .i64 xr, .int .i64 xa, .int .i64 xb, .int .i64 xi, .int .i64 xn]] w (bO w h O ⟨8,xr,xa,xb,xi,xn⟩):=by
 unfold bO;have HRM:=Hz (show eN h O 1 from eN.rep R (by omega));clear R;have HB0:=Hz B;have aw:ah (w.alloc (.cells #[.int .i64 8, .int .i64 xr, .int .i64 xa, .int .i64 xb, .int .i64 xi, .int .i64 xn] 69)) w.heap.size [.int .i64 8, .int .i64 xr, .int .i64 xa, .int .i64 xb, .int .i64 xi, .int .i64 xn] 69:=ah.newAt _ rfl rfl;have ka:=(Kz w).alloc (.cells #[.int .i64 8, .int .i64 xr, .int .i64 xa, .int .i64 xb, .int .i64 xi, .int .i64 xn] 69);have s0:=aw.cell 0;have s1:=aw.cell 1;have s2:=aw.cell 2;have s3:=aw.cell 3;have s4:=aw.cell 4;have s5:=aw.cell 5;have sl:=aw.lt;simp only [Lz,Ls] at s0 s1 s2 s3 s4 s5;have HSF:=Hz (fun w=>dD ⟨8,xr,xa,xb,xi,xn⟩ w);obtain ⟨c,hc⟩:∃ c,aX ⟨8,xr,xa,xb,xi,xn⟩=c:=⟨_,rfl⟩;rw [hc] at HSF;have HC:=Hz hc;have HB:=Hz aw;have KA:=Hz ka;clear aw hc ka B;go_enter Tryz.func32,Tryz.ntmps32;go_wp2_with (refine aV rfl 69 (.tmp 3) rfl [.int .i64 8, .int .i64 xr, .int .i64 xa, .int .i64 xb, .int .i64 xi, .int .i64 xn] (by kernel_rfl) w.heap.size 0 rfl (aa s0 (aa s1 (aa s2 (aa s3 (aa s4 (aa s5 aQ)))))) ?_);refine (HSF.out _).mono ?_;rintro e w1 ⟨rfl,hk⟩;have HB1:=Hz ((HB0.out.same KA.out).same hk);have K1:=Hz (KA.out.trans hk);have SB1:=Hz (hk.ak HB.out (fun h=>h));have SFR:=Hz (show ¬ h.Own w.heap.size from fun e=>by have:=HB0.out.bU e;omega);clear hk s0 s1 s2 s3 s4 s5 sl HSF KA HB;generalize w.heap.size=sb at *;have s0:=SB1.out.cell 0;have s1:=SB1.out.cell 1;have s2:=SB1.out.cell 2;have s3:=SB1.out.cell 3;have s4:=SB1.out.cell 4;have s5:=SB1.out.cell 5;have sl:=SB1.out.lt;simp only [Lz,Ls] at s0 s1 s2 s3 s4 s5;by_cases h0:¬ c=0
 ·have HE:=Hz (show O.do ⟨8,xr,xa,xb,xi,xn⟩=(c,O) by unfold Wo.do;rw [HC.out,if_neg h0]);have hd:(c != 0)=true:=by simpa using h0
  clear h0;go_wp2_with fail;go_ret;exact ⟨by rw [HE.out];rfl,by rw [HE.out];exact a6.same HB0.out K1.out⟩
 have h0:c=0:=Classical.not_not.1 h0;subst h0;have hr:0≤xr∧xr<12:=(aN _).1 ((aI HC.out).2.1 (show aR 8%2=1 by decide));obtain ⟨r,rfl⟩:∃ r:Nat,xr=r:=⟨xr.toNat,by omega⟩;have hr12:r<12:=by omega
 clear hr;have HE:=Hz (show O.do ⟨8,r,xa,xb,xi,xn⟩=O.bR r 5 (([]:List Nat).map fun (k:Nat)=>(k:Int)) by unfold Wo.do;rw [if_pos HC.out];rfl);have HMK:=Hz (lO r 5 [] none 0 HB1.out hr12 (by intro k hk;cases hk) (show bs 5 0=true by decide) (Rd.nil _ _) (fun ad e hb hn=>by cases e) (HRM.out.1 _ HB1.out) HRM.out.2);go_wp2_with fail;refine HMK.out.mono ?_;rintro e w3 ⟨rfl,ht⟩;have TO:=Hz (a6.aW K1.out ht);clear ht s0 s1 s2 s3 s4 s5 sl;go_wp2_with fail;go_ret;exact ⟨by rw [HE.out];rfl,by rw [HE.out];exact TO.out⟩
theorem y9 (xr xa xb xi xn:Int) (B:bj w h O) :
  Calls Tryz.prog 32 #[.pointer (some ⟨h.p,0,none⟩), .agg #[.int .i64 9, .int .i64 xr, .int .i64 xa, .int .i64 xb, .int .i64 xi, .int .i64 xn]] w (bO w h O ⟨9,xr,xa,xb,xi,xn⟩):=by
 unfold bO;have HB0:=Hz B;have aw:ah (w.alloc (.cells #[.int .i64 9, .int .i64 xr, .int .i64 xa, .int .i64 xb, .int .i64 xi, .int .i64 xn] 69)) w.heap.size [.int .i64 9, .int .i64 xr, .int .i64 xa, .int .i64 xb, .int .i64 xi, .int .i64 xn] 69:=ah.newAt _ rfl rfl;have ka:=(Kz w).alloc (.cells #[.int .i64 9, .int .i64 xr, .int .i64 xa, .int .i64 xb, .int .i64 xi, .int .i64 xn] 69);have s0:=aw.cell 0;have s1:=aw.cell 1;have s2:=aw.cell 2;have s3:=aw.cell 3;have s4:=aw.cell 4;have s5:=aw.cell 5;have sl:=aw.lt;simp only [Lz,Ls] at s0 s1 s2 s3 s4 s5;have HSF:=Hz (fun w=>dD ⟨9,xr,xa,xb,xi,xn⟩ w);obtain ⟨c,hc⟩:∃ c,aX ⟨9,xr,xa,xb,xi,xn⟩=c:=⟨_,rfl⟩;rw [hc] at HSF;have HC:=Hz hc;have HB:=Hz aw;have KA:=Hz ka;clear aw hc ka B;go_enter Tryz.func32,Tryz.ntmps32;go_wp2_with (refine aV rfl 69 (.tmp 3) rfl [.int .i64 9, .int .i64 xr, .int .i64 xa, .int .i64 xb, .int .i64 xi, .int .i64 xn] (by kernel_rfl) w.heap.size 0 rfl (aa s0 (aa s1 (aa s2 (aa s3 (aa s4 (aa s5 aQ)))))) ?_);refine (HSF.out _).mono ?_;rintro e w1 ⟨rfl,hk⟩;have HB1:=Hz ((HB0.out.same KA.out).same hk);have K1:=Hz (KA.out.trans hk);have SB1:=Hz (hk.ak HB.out (fun h=>h));have SFR:=Hz (show ¬ h.Own w.heap.size from fun e=>by have:=HB0.out.bU e;omega);clear hk s0 s1 s2 s3 s4 s5 sl HSF KA HB;generalize w.heap.size=sb at *;have s0:=SB1.out.cell 0;have s1:=SB1.out.cell 1;have s2:=SB1.out.cell 2;have s3:=SB1.out.cell 3;have s4:=SB1.out.cell 4;have s5:=SB1.out.cell 5;have sl:=SB1.out.lt;simp only [Lz,Ls] at s0 s1 s2 s3 s4 s5;by_cases h0:¬ c=0
 ·have HE:=Hz (show O.do ⟨9,xr,xa,xb,xi,xn⟩=(c,O) by unfold Wo.do;rw [HC.out,if_neg h0]);have hd:(c != 0)=true:=by simpa using h0
  clear h0;go_wp2_with fail;go_ret;exact ⟨by rw [HE.out];rfl,by rw [HE.out];exact a6.same HB0.out K1.out⟩
 have h0:c=0:=Classical.not_not.1 h0;subst h0;have ha:0≤xa∧xa<12:=(aN _).1 ((aI HC.out).2.2.1 (show aR 9/2%2=1 by decide));obtain ⟨a,rfl⟩:∃ a:Nat,xa=a:=⟨xa.toNat,by omega⟩;have ha12:a<12:=by omega
 clear ha;have hb:0≤xb∧xb<12:=(aN _).1 ((aI HC.out).2.2.2.1 (show aR 9/4%2=1 by decide));obtain ⟨b,rfl⟩:∃ b:Nat,xb=b:=⟨xb.toNat,by omega⟩;have hb12:b<12:=by omega
 clear hb;have HE:=Hz (show O.do ⟨9,xr,a,b,xi,xn⟩=O.ic a b by unfold Wo.do;rw [if_pos HC.out];rfl);have HCL:=Hz (Bz a b xr xi xn HB1.out ha12 hb12);unfold dq at HCL;go_wp2_with (refine aV rfl 69 (.tmp 3) rfl [.int .i64 9, .int .i64 xr, .int .i64 a, .int .i64 b, .int .i64 xi, .int .i64 xn] (by kernel_rfl) sb 0 rfl (aa s0 (aa s1 (aa s2 (aa s3 (aa s4 (aa s5 aQ)))))) ?_);refine HCL.out.mono ?_;rintro e w3 ⟨rfl,ht⟩;have TO:=Hz (a6.aW K1.out ht);clear ht s0 s1 s2 s3 s4 s5 sl HCL;go_wp2_with fail;go_ret;exact ⟨by rw [HE.out];rfl,by rw [HE.out];exact TO.out⟩
theorem za (xr xa xb xi xn:Int) (B:bj w h O) :
  Calls Tryz.prog 32 #[.pointer (some ⟨h.p,0,none⟩), .agg #[.int .i64 10, .int .i64 xr, .int .i64 xa, .int .i64 xb, .int .i64 xi, .int .i64 xn]] w (bO w h O ⟨10,xr,xa,xb,xi,xn⟩):=by
 unfold bO;have HB0:=Hz B;have aw:ah (w.alloc (.cells #[.int .i64 10, .int .i64 xr, .int .i64 xa, .int .i64 xb, .int .i64 xi, .int .i64 xn] 69)) w.heap.size [.int .i64 10, .int .i64 xr, .int .i64 xa, .int .i64 xb, .int .i64 xi, .int .i64 xn] 69:=ah.newAt _ rfl rfl;have ka:=(Kz w).alloc (.cells #[.int .i64 10, .int .i64 xr, .int .i64 xa, .int .i64 xb, .int .i64 xi, .int .i64 xn] 69);have s0:=aw.cell 0;have s1:=aw.cell 1;have s2:=aw.cell 2;have s3:=aw.cell 3;have s4:=aw.cell 4;have s5:=aw.cell 5;have sl:=aw.lt;simp only [Lz,Ls] at s0 s1 s2 s3 s4 s5;have HSF:=Hz (fun w=>dD ⟨10,xr,xa,xb,xi,xn⟩ w);obtain ⟨c,hc⟩:∃ c,aX ⟨10,xr,xa,xb,xi,xn⟩=c:=⟨_,rfl⟩;rw [hc] at HSF;have HC:=Hz hc;have HB:=Hz aw;have KA:=Hz ka;clear aw hc ka B;go_enter Tryz.func32,Tryz.ntmps32;go_wp2_with (refine aV rfl 69 (.tmp 3) rfl [.int .i64 10, .int .i64 xr, .int .i64 xa, .int .i64 xb, .int .i64 xi, .int .i64 xn] (by kernel_rfl) w.heap.size 0 rfl (aa s0 (aa s1 (aa s2 (aa s3 (aa s4 (aa s5 aQ)))))) ?_);refine (HSF.out _).mono ?_;rintro e w1 ⟨rfl,hk⟩;have HB1:=Hz ((HB0.out.same KA.out).same hk);have K1:=Hz (KA.out.trans hk);have SB1:=Hz (hk.ak HB.out (fun h=>h));have SFR:=Hz (show ¬ h.Own w.heap.size from fun e=>by have:=HB0.out.bU e;omega);clear hk s0 s1 s2 s3 s4 s5 sl HSF KA HB;generalize w.heap.size=sb at *;have s0:=SB1.out.cell 0;have s1:=SB1.out.cell 1;have s2:=SB1.out.cell 2;have s3:=SB1.out.cell 3;have s4:=SB1.out.cell 4;have s5:=SB1.out.cell 5;have sl:=SB1.out.lt;simp only [Lz,Ls] at s0 s1 s2 s3 s4 s5;by_cases h0:¬ c=0
 ·have HE:=Hz (show O.do ⟨10,xr,xa,xb,xi,xn⟩=(c,O) by unfold Wo.do;rw [HC.out,if_neg h0]);have hd:(c != 0)=true:=by simpa using h0
  clear h0;go_wp2_with fail;go_ret;exact ⟨by rw [HE.out];rfl,by rw [HE.out];exact a6.same HB0.out K1.out⟩
 have h0:c=0:=Classical.not_not.1 h0;subst h0;have hr:0≤xr∧xr<12:=(aN _).1 ((aI HC.out).2.1 (show aR 10%2=1 by decide));obtain ⟨r,rfl⟩:∃ r:Nat,xr=r:=⟨xr.toNat,by omega⟩;have hr12:r<12:=by omega
 clear hr;have ha:0≤xa∧xa<12:=(aN _).1 ((aI HC.out).2.2.1 (show aR 10/2%2=1 by decide));obtain ⟨a,rfl⟩:∃ a:Nat,xa=a:=⟨xa.toNat,by omega⟩;have ha12:a<12:=by omega
 clear ha;have HE:=Hz (show O.do ⟨10,r,a,xb,xi,xn⟩=O.pop r a by unfold Wo.do;rw [if_pos HC.out];rfl);have HCL:=Hz (BA r a xb xi xn HB1.out hr12 ha12);unfold dq at HCL;go_wp2_with (refine aV rfl 69 (.tmp 3) rfl [.int .i64 10, .int .i64 r, .int .i64 a, .int .i64 xb, .int .i64 xi, .int .i64 xn] (by kernel_rfl) sb 0 rfl (aa s0 (aa s1 (aa s2 (aa s3 (aa s4 (aa s5 aQ)))))) ?_);refine HCL.out.mono ?_;rintro e w3 ⟨rfl,ht⟩;have TO:=Hz (a6.aW K1.out ht);clear ht s0 s1 s2 s3 s4 s5 sl HCL;go_wp2_with fail;go_ret;exact ⟨by rw [HE.out];rfl,by rw [HE.out];exact TO.out⟩
theorem zc (xr xa xb xi xn:Int) (B:bj w h O) :
  Calls Tryz.prog 32 #[.pointer (some ⟨h.p,0,none⟩), .agg #[.int .i64 13, .int .i64 xr, .int .i64 xa, .int .i64 xb, .int .i64 xi, .int .i64 xn]] w (bO w h O ⟨13,xr,xa,xb,xi,xn⟩):=by
 unfold bO;have HB0:=Hz B;have aw:ah (w.alloc (.cells #[.int .i64 13, .int .i64 xr, .int .i64 xa, .int .i64 xb, .int .i64 xi, .int .i64 xn] 69)) w.heap.size [.int .i64 13, .int .i64 xr, .int .i64 xa, .int .i64 xb, .int .i64 xi, .int .i64 xn] 69:=ah.newAt _ rfl rfl;have ka:=(Kz w).alloc (.cells #[.int .i64 13, .int .i64 xr, .int .i64 xa, .int .i64 xb, .int .i64 xi, .int .i64 xn] 69);have s0:=aw.cell 0;have s1:=aw.cell 1;have s2:=aw.cell 2;have s3:=aw.cell 3;have s4:=aw.cell 4;have s5:=aw.cell 5;have sl:=aw.lt;simp only [Lz,Ls] at s0 s1 s2 s3 s4 s5;have HSF:=Hz (fun w=>dD ⟨13,xr,xa,xb,xi,xn⟩ w);obtain ⟨c,hc⟩:∃ c,aX ⟨13,xr,xa,xb,xi,xn⟩=c:=⟨_,rfl⟩;rw [hc] at HSF;have HC:=Hz hc;have HB:=Hz aw;have KA:=Hz ka;clear aw hc ka B;go_enter Tryz.func32,Tryz.ntmps32;go_wp2_with (refine aV rfl 69 (.tmp 3) rfl [.int .i64 13, .int .i64 xr, .int .i64 xa, .int .i64 xb, .int .i64 xi, .int .i64 xn] (by kernel_rfl) w.heap.size 0 rfl (aa s0 (aa s1 (aa s2 (aa s3 (aa s4 (aa s5 aQ)))))) ?_);refine (HSF.out _).mono ?_;rintro e w1 ⟨rfl,hk⟩;have HB1:=Hz ((HB0.out.same KA.out).same hk);have K1:=Hz (KA.out.trans hk);have SB1:=Hz (hk.ak HB.out (fun h=>h));have SFR:=Hz (show ¬ h.Own w.heap.size from fun e=>by have:=HB0.out.bU e;omega);clear hk s0 s1 s2 s3 s4 s5 sl HSF KA HB;generalize w.heap.size=sb at *;have s0:=SB1.out.cell 0;have s1:=SB1.out.cell 1;have s2:=SB1.out.cell 2;have s3:=SB1.out.cell 3;have s4:=SB1.out.cell 4;have s5:=SB1.out.cell 5;have sl:=SB1.out.lt;simp only [Lz,Ls] at s0 s1 s2 s3 s4 s5;by_cases h0:¬ c=0
 ·have HE:=Hz (show O.do ⟨13,xr,xa,xb,xi,xn⟩=(c,O) by unfold Wo.do;rw [HC.out,if_neg h0]);have hd:(c != 0)=true:=by simpa using h0
  clear h0;go_wp2_with fail;go_ret;exact ⟨by rw [HE.out];rfl,by rw [HE.out];exact a6.same HB0.out K1.out⟩
 have h0:c=0:=Classical.not_not.1 h0;subst h0;have hr:0≤xr∧xr<12:=(aN _).1 ((aI HC.out).2.1 (show aR 13%2=1 by decide));obtain ⟨r,rfl⟩:∃ r:Nat,xr=r:=⟨xr.toNat,by omega⟩;have hr12:r<12:=by omega
 clear hr;have ha:0≤xa∧xa<12:=(aN _).1 ((aI HC.out).2.2.1 (show aR 13/2%2=1 by decide));obtain ⟨a,rfl⟩:∃ a:Nat,xa=a:=⟨xa.toNat,by omega⟩;have ha12:a<12:=by omega
 clear ha;have HE:=Hz (show O.do ⟨13,r,a,xb,xi,xn⟩=O.gU r (O.pt (O.ba a)) by unfold Wo.do;rw [if_pos HC.out];rfl);have HCL:=Hz (xI r a xb xi xn HB1.out hr12 ha12);unfold dq at HCL;go_wp2_with (refine aV rfl 69 (.tmp 3) rfl [.int .i64 13, .int .i64 r, .int .i64 a, .int .i64 xb, .int .i64 xi, .int .i64 xn] (by kernel_rfl) sb 0 rfl (aa s0 (aa s1 (aa s2 (aa s3 (aa s4 (aa s5 aQ)))))) ?_);refine HCL.out.mono ?_;rintro e w3 ⟨rfl,ht⟩;have TO:=Hz (a6.aW K1.out ht);clear ht s0 s1 s2 s3 s4 s5 sl HCL;go_wp2_with fail;go_ret;exact ⟨by rw [HE.out];rfl,by rw [HE.out];exact TO.out⟩
theorem xL (xr xa xb xi xn:Int) (B:bj w h O) :
  Calls Tryz.prog 32 #[.pointer (some ⟨h.p,0,none⟩), .agg #[.int .i64 14, .int .i64 xr, .int .i64 xa, .int .i64 xb, .int .i64 xi, .int .i64 xn]] w (bO w h O ⟨14,xr,xa,xb,xi,xn⟩):=by
 unfold bO;have HB0:=Hz B;have aw:ah (w.alloc (.cells #[.int .i64 14, .int .i64 xr, .int .i64 xa, .int .i64 xb, .int .i64 xi, .int .i64 xn] 69)) w.heap.size [.int .i64 14, .int .i64 xr, .int .i64 xa, .int .i64 xb, .int .i64 xi, .int .i64 xn] 69:=ah.newAt _ rfl rfl;have ka:=(Kz w).alloc (.cells #[.int .i64 14, .int .i64 xr, .int .i64 xa, .int .i64 xb, .int .i64 xi, .int .i64 xn] 69);have s0:=aw.cell 0;have s1:=aw.cell 1;have s2:=aw.cell 2;have s3:=aw.cell 3;have s4:=aw.cell 4;have s5:=aw.cell 5;have sl:=aw.lt;simp only [Lz,Ls] at s0 s1 s2 s3 s4 s5;have HSF:=Hz (fun w=>dD ⟨14,xr,xa,xb,xi,xn⟩ w);obtain ⟨c,hc⟩:∃ c,aX ⟨14,xr,xa,xb,xi,xn⟩=c:=⟨_,rfl⟩;rw [hc] at HSF;have HC:=Hz hc;have HB:=Hz aw;have KA:=Hz ka;clear aw hc ka B;go_enter Tryz.func32,Tryz.ntmps32;go_wp2_with (refine aV rfl 69 (.tmp 3) rfl [.int .i64 14, .int .i64 xr, .int .i64 xa, .int .i64 xb, .int .i64 xi, .int .i64 xn] (by kernel_rfl) w.heap.size 0 rfl (aa s0 (aa s1 (aa s2 (aa s3 (aa s4 (aa s5 aQ)))))) ?_);refine (HSF.out _).mono ?_;rintro e w1 ⟨rfl,hk⟩;have HB1:=Hz ((HB0.out.same KA.out).same hk);have K1:=Hz (KA.out.trans hk);have SB1:=Hz (hk.ak HB.out (fun h=>h));have SFR:=Hz (show ¬ h.Own w.heap.size from fun e=>by have:=HB0.out.bU e;omega);clear hk s0 s1 s2 s3 s4 s5 sl HSF KA HB;generalize w.heap.size=sb at *;have s0:=SB1.out.cell 0;have s1:=SB1.out.cell 1;have s2:=SB1.out.cell 2;have s3:=SB1.out.cell 3;have s4:=SB1.out.cell 4;have s5:=SB1.out.cell 5;have sl:=SB1.out.lt;simp only [Lz,Ls] at s0 s1 s2 s3 s4 s5;by_cases h0:¬ c=0
 ·have HE:=Hz (show O.do ⟨14,xr,xa,xb,xi,xn⟩=(c,O) by unfold Wo.do;rw [HC.out,if_neg h0]);have hd:(c != 0)=true:=by simpa using h0
  clear h0;go_wp2_with fail;go_ret;exact ⟨by rw [HE.out];rfl,by rw [HE.out];exact a6.same HB0.out K1.out⟩
 have h0:c=0:=Classical.not_not.1 h0;subst h0;have hr:0≤xr∧xr<12:=(aN _).1 ((aI HC.out).2.1 (show aR 14%2=1 by decide));obtain ⟨r,rfl⟩:∃ r:Nat,xr=r:=⟨xr.toNat,by omega⟩;have hr12:r<12:=by omega
 clear hr;have ha:0≤xa∧xa<12:=(aN _).1 ((aI HC.out).2.2.1 (show aR 14/2%2=1 by decide));obtain ⟨a,rfl⟩:∃ a:Nat,xa=a:=⟨xa.toNat,by omega⟩;have ha12:a<12:=by omega
 clear ha;have hb:0≤xb∧xb<12:=(aN _).1 ((aI HC.out).2.2.2.1 (show aR 14/4%2=1 by decide));obtain ⟨b,rfl⟩:∃ b:Nat,xb=b:=⟨xb.toNat,by omega⟩;have hb12:b<12:=by omega
 clear hb;have he:O.do ⟨14,r,a,b,xi,xn⟩=O.gU r (4*(if O.ba a=O.ba b then 1 else 0),0):=by unfold Wo.do;rw [if_pos HC.out];rfl
 have hcl:=AB r a b xi xn HB1.out hr12 ha12 hb12;unfold dq at hcl;generalize (if O.ba (a:Int)=O.ba (b:Int) then (1:Int) else 0)=q at he hcl;have HE:=Hz he;have HCL:=Hz hcl;clear he hcl;go_wp2_with (refine aV rfl 69 (.tmp 3) rfl [.int .i64 14, .int .i64 r, .int .i64 a, .int .i64 b, .int .i64 xi, .int .i64 xn] (by kernel_rfl) sb 0 rfl (aa s0 (aa s1 (aa s2 (aa s3 (aa s4 (aa s5 aQ)))))) ?_);refine HCL.out.mono ?_;rintro e w3 ⟨rfl,ht⟩;have TO:=Hz (a6.aW K1.out ht);clear ht s0 s1 s2 s3 s4 s5 sl HCL;go_wp2_with fail;go_ret;exact ⟨by rw [HE.out];rfl,by rw [HE.out];exact TO.out⟩
theorem zd (xr xa xb xi xn:Int) (B:bj w h O) :
  Calls Tryz.prog 32 #[.pointer (some ⟨h.p,0,none⟩), .agg #[.int .i64 12, .int .i64 xr, .int .i64 xa, .int .i64 xb, .int .i64 xi, .int .i64 xn]] w (bO w h O ⟨12,xr,xa,xb,xi,xn⟩):=by
 unfold bO;have HB0:=Hz B;have aw:ah (w.alloc (.cells #[.int .i64 12, .int .i64 xr, .int .i64 xa, .int .i64 xb, .int .i64 xi, .int .i64 xn] 69)) w.heap.size [.int .i64 12, .int .i64 xr, .int .i64 xa, .int .i64 xb, .int .i64 xi, .int .i64 xn] 69:=ah.newAt _ rfl rfl;have ka:=(Kz w).alloc (.cells #[.int .i64 12, .int .i64 xr, .int .i64 xa, .int .i64 xb, .int .i64 xi, .int .i64 xn] 69);have s0:=aw.cell 0;have s1:=aw.cell 1;have s2:=aw.cell 2;have s3:=aw.cell 3;have s4:=aw.cell 4;have s5:=aw.cell 5;have sl:=aw.lt;simp only [Lz,Ls] at s0 s1 s2 s3 s4 s5;have HSF:=Hz (fun w=>dD ⟨12,xr,xa,xb,xi,xn⟩ w);obtain ⟨c,hc⟩:∃ c,aX ⟨12,xr,xa,xb,xi,xn⟩=c:=⟨_,rfl⟩;rw [hc] at HSF;have HC:=Hz hc;have HB:=Hz aw;have KA:=Hz ka;clear aw hc ka B;go_enter Tryz.func32,Tryz.ntmps32;go_wp2_with (refine aV rfl 69 (.tmp 3) rfl [.int .i64 12, .int .i64 xr, .int .i64 xa, .int .i64 xb, .int .i64 xi, .int .i64 xn] (by kernel_rfl) w.heap.size 0 rfl (aa s0 (aa s1 (aa s2 (aa s3 (aa s4 (aa s5 aQ)))))) ?_);refine (HSF.out _).mono ?_;rintro e w1 ⟨rfl,hk⟩;have HB1:=Hz ((HB0.out.same KA.out).same hk);have K1:=Hz (KA.out.trans hk);have SB1:=Hz (hk.ak HB.out (fun h=>h));have SFR:=Hz (show ¬ h.Own w.heap.size from fun e=>by have:=HB0.out.bU e;omega);clear hk s0 s1 s2 s3 s4 s5 sl HSF KA HB;generalize w.heap.size=sb at *;have s0:=SB1.out.cell 0;have s1:=SB1.out.cell 1;have s2:=SB1.out.cell 2;have s3:=SB1.out.cell 3;have s4:=SB1.out.cell 4;have s5:=SB1.out.cell 5;have sl:=SB1.out.lt;simp only [Lz,Ls] at s0 s1 s2 s3 s4 s5;by_cases h0:¬ c=0
 ·have HE:=Hz (show O.do ⟨12,xr,xa,xb,xi,xn⟩=(c,O) by unfold Wo.do;rw [HC.out,if_neg h0]);have hd:(c != 0)=true:=by simpa using h0
  clear h0;go_wp2_with fail;go_ret;exact ⟨by rw [HE.out];rfl,by rw [HE.out];exact a6.same HB0.out K1.out⟩
 have h0:c=0:=Classical.not_not.1 h0;subst h0;have ha:0≤xa∧xa<12:=(aN _).1 ((aI HC.out).2.2.1 (show aR 12/2%2=1 by decide));obtain ⟨a,rfl⟩:∃ a:Nat,xa=a:=⟨xa.toNat,by omega⟩;have ha12:a<12:=by omega
 clear ha;have hb:0≤xb∧xb<12:=(aN _).1 ((aI HC.out).2.2.2.1 (show aR 12/4%2=1 by decide));obtain ⟨b,rfl⟩:∃ b:Nat,xb=b:=⟨xb.toNat,by omega⟩;have hb12:b<12:=by omega
 clear hb;have HE:=Hz (show O.do ⟨12,xr,a,b,xi,xn⟩=O.set (O.ba a) xi (O.ba b) by unfold Wo.do;rw [if_pos HC.out];rfl);obtain ⟨b0,bl⟩:=HB1.out.pc;obtain ⟨g,o,cap,hro,hown,q0,q3,ql,gl,fz,rc⟩:=HB1.out.roots;have ra:=rc a ha12;have rb:=rc b hb12;have ra:w1.cell? ⟨g,o+a,none⟩=some (.int .i64 (O.ba a)):=ra;have rb:w1.cell? ⟨g,o+b,none⟩=some (.int .i64 (O.ba b)):=rb;have ha12i:(a:Int)<12:=by omega
 have hb12i:(b:Int)<12:=by omega
 clear hro hown fz rc;have hst:=fun w' (R:bp w' h.a O)=>z9 (O.ba a) xi (O.ba b) R (kj R.ok _);generalize O.ba (a:Int)=va at *;generalize O.ba (b:Int)=vb at *;have HST:=Hz hst;clear hst;go_wp2_with fail;refine ay (.free 0 (.free 1 (.free 2 (.free 4 (.free 5 (.free 6 (.free 11 (.free 15 (.free 17 (.free 18 (.free 19 (.free 24 (.pure 3 (.pure 7 (.free 8 (.free 9 (.pure 10 (.pure 12 (.free 13 (.pure 14 (.pure 16 (.pure 20 (.free 21 (.free 22 (.pure 23 (.pure 25 (.free 26 (.pure 27 (.run 28 (.swi [] (.free 29 (.fin)))))))))))))))))))))))))))))))) [28,29] (fun w'=>w'.cell? ⟨h.p,0,none⟩=some (.pointer (some ⟨h.a.p,0,none⟩))∧w'.cell? ⟨h.a.p,3,none⟩=some (.slice (some ⟨g,o,none⟩) 12 cap)∧w'.cell? ⟨g,o+a,none⟩=some (.int .i64 va)∧w'.cell? ⟨g,o+b,none⟩=some (.int .i64 vb)∧w'.cell? ⟨sb,2,none⟩=some (.int .i64 a)∧w'.cell? ⟨sb,3,none⟩=some (.int .i64 b)∧w'.cell? ⟨sb,4,none⟩=some (.int .i64 xi)) (by kernel_rfl) (by kernel_rfl) ⟨b0,q3,ra,rb,s2,s3,s4⟩ ?_
 iterate 28 ((first | refine au rfl rfl fun K hK=>?_ | refine aq rfl rfl fun K hK=>?_ | refine aF rfl rfl fun K hK=>?_ | refine az rfl rfl fun K hK=>?_ | refine aE rfl rfl fun K hK=>?_);go_simp;refine hK _ ?_;clear hK K)
 refine aJ rfl rfl rfl (fun K hK=>?_);unfold aC;go_simp;have hk1:=(Kz w1).drew;refine (HST.out _ (HB1.out.same hk1).H).mono ?_;rintro e w8 ⟨rfl,ht⟩;have TO:=Hz (a6.aW (K1.out.trans hk1) (qi.to ((HB1.out.same hk1).Bd ht)));refine hK _ _ ?_;clear hK K ht hk1 s0 s1 s2 s3 s4 s5 sl b0 bl q0 q3 ql gl ra rb;refine aH (fun _=>True) trivial ?_
 iterate 1 ((first | refine au rfl rfl fun K hK=>?_ | refine aq rfl rfl fun K hK=>?_);go_simp;refine hK _ ?_;clear hK K)
 refine aB ?_;go_wp2_with fail;go_ret;exact ⟨by rw [HE.out];rfl,by rw [HE.out];exact TO.out⟩
theorem vY (xr xa xb xi xn:Int) (R:aL O W φ) (B:bj w h O) :
  Calls Tryz.prog 32 #[.pointer (some ⟨h.p,0,none⟩), .agg #[.int .i64 15, .int .i64 xr, .int .i64 xa, .int .i64 xb, .int .i64 xi, .int .i64 xn]] w (bO w h O ⟨15,xr,xa,xb,xi,xn⟩):=by
 unfold bO;have HR:=Hz R;clear R;have HB0:=Hz B;have aw:ah (w.alloc (.cells #[.int .i64 15, .int .i64 xr, .int .i64 xa, .int .i64 xb, .int .i64 xi, .int .i64 xn] 69)) w.heap.size [.int .i64 15, .int .i64 xr, .int .i64 xa, .int .i64 xb, .int .i64 xi, .int .i64 xn] 69:=ah.newAt _ rfl rfl;have ka:=(Kz w).alloc (.cells #[.int .i64 15, .int .i64 xr, .int .i64 xa, .int .i64 xb, .int .i64 xi, .int .i64 xn] 69);have s0:=aw.cell 0;have s1:=aw.cell 1;have s2:=aw.cell 2;have s3:=aw.cell 3;have s4:=aw.cell 4;have s5:=aw.cell 5;have sl:=aw.lt;simp only [Lz,Ls] at s0 s1 s2 s3 s4 s5;have HSF:=Hz (fun w=>dD ⟨15,xr,xa,xb,xi,xn⟩ w);obtain ⟨c,hc⟩:∃ c,aX ⟨15,xr,xa,xb,xi,xn⟩=c:=⟨_,rfl⟩;rw [hc] at HSF;have HC:=Hz hc;have HB:=Hz aw;have KA:=Hz ka;clear aw hc ka B;go_enter Tryz.func32,Tryz.ntmps32;go_wp2_with (refine aV rfl 69 (.tmp 3) rfl [.int .i64 15, .int .i64 xr, .int .i64 xa, .int .i64 xb, .int .i64 xi, .int .i64 xn] (by kernel_rfl) w.heap.size 0 rfl (aa s0 (aa s1 (aa s2 (aa s3 (aa s4 (aa s5 aQ)))))) ?_);refine (HSF.out _).mono ?_;rintro e w1 ⟨rfl,hk⟩;have HB1:=Hz ((HB0.out.same KA.out).same hk);have K1:=Hz (KA.out.trans hk);have SB1:=Hz (hk.ak HB.out (fun h=>h));have SFR:=Hz (show ¬ h.Own w.heap.size from fun e=>by have:=HB0.out.bU e;omega);clear hk s0 s1 s2 s3 s4 s5 sl HSF KA HB;generalize w.heap.size=sb at *;have s0:=SB1.out.cell 0;have s1:=SB1.out.cell 1;have s2:=SB1.out.cell 2;have s3:=SB1.out.cell 3;have s4:=SB1.out.cell 4;have s5:=SB1.out.cell 5;have sl:=SB1.out.lt;simp only [Lz,Ls] at s0 s1 s2 s3 s4 s5;by_cases h0:¬ c=0
 ·have HE:=Hz (show O.do ⟨15,xr,xa,xb,xi,xn⟩=(c,O) by unfold Wo.do;rw [HC.out,if_neg h0]);have hd:(c != 0)=true:=by simpa using h0
  clear h0;go_wp2_with fail;go_ret;exact ⟨by rw [HE.out];rfl,by rw [HE.out];exact a6.same HB0.out K1.out⟩
 have h0:c=0:=Classical.not_not.1 h0;subst h0;have HE:=Hz (show O.do ⟨15,xr,xa,xb,xi,xn⟩=gQ O by unfold Wo.do;rw [if_pos HC.out];rfl);obtain ⟨b0,bl⟩:=HB1.out.pc;go_wp2_with fail;refine (qs HR.out HB1.out.H).mono ?_;rintro e w5 ⟨rfl,ht⟩;have TO:=Hz (a6.aW K1.out (a6.qV HB1.out ht));clear ht b0 bl s0 s1 s2 s3 s4 s5 sl;go_wp2_with fail;go_ret;exact ⟨by rw [HE.out];rfl,by rw [HE.out];exact TO.out⟩
theorem vZ (xr xa xb xi xn:Int) (R:aL O W φ) (B:bj w h O) :
  Calls Tryz.prog 32 #[.pointer (some ⟨h.p,0,none⟩), .agg #[.int .i64 16, .int .i64 xr, .int .i64 xa, .int .i64 xb, .int .i64 xi, .int .i64 xn]] w (bO w h O ⟨16,xr,xa,xb,xi,xn⟩):=by
 unfold bO;have HR:=Hz R;clear R;have HB0:=Hz B;have aw:ah (w.alloc (.cells #[.int .i64 16, .int .i64 xr, .int .i64 xa, .int .i64 xb, .int .i64 xi, .int .i64 xn] 69)) w.heap.size [.int .i64 16, .int .i64 xr, .int .i64 xa, .int .i64 xb, .int .i64 xi, .int .i64 xn] 69:=ah.newAt _ rfl rfl;have ka:=(Kz w).alloc (.cells #[.int .i64 16, .int .i64 xr, .int .i64 xa, .int .i64 xb, .int .i64 xi, .int .i64 xn] 69);have s0:=aw.cell 0;have s1:=aw.cell 1;have s2:=aw.cell 2;have s3:=aw.cell 3;have s4:=aw.cell 4;have s5:=aw.cell 5;have sl:=aw.lt;simp only [Lz,Ls] at s0 s1 s2 s3 s4 s5;have HSF:=Hz (fun w=>dD ⟨16,xr,xa,xb,xi,xn⟩ w);obtain ⟨c,hc⟩:∃ c,aX ⟨16,xr,xa,xb,xi,xn⟩=c:=⟨_,rfl⟩;rw [hc] at HSF;have HC:=Hz hc;have HB:=Hz aw;have KA:=Hz ka;clear aw hc ka B;go_enter Tryz.func32,Tryz.ntmps32;go_wp2_with (refine aV rfl 69 (.tmp 3) rfl [.int .i64 16, .int .i64 xr, .int .i64 xa, .int .i64 xb, .int .i64 xi, .int .i64 xn] (by kernel_rfl) w.heap.size 0 rfl (aa s0 (aa s1 (aa s2 (aa s3 (aa s4 (aa s5 aQ)))))) ?_);refine (HSF.out _).mono ?_;rintro e w1 ⟨rfl,hk⟩;have HB1:=Hz ((HB0.out.same KA.out).same hk);have K1:=Hz (KA.out.trans hk);have SB1:=Hz (hk.ak HB.out (fun h=>h));have SFR:=Hz (show ¬ h.Own w.heap.size from fun e=>by have:=HB0.out.bU e;omega);clear hk s0 s1 s2 s3 s4 s5 sl HSF KA HB;generalize w.heap.size=sb at *;have s0:=SB1.out.cell 0;have s1:=SB1.out.cell 1;have s2:=SB1.out.cell 2;have s3:=SB1.out.cell 3;have s4:=SB1.out.cell 4;have s5:=SB1.out.cell 5;have sl:=SB1.out.lt;simp only [Lz,Ls] at s0 s1 s2 s3 s4 s5;by_cases h0:¬ c=0
 ·have HE:=Hz (show O.do ⟨16,xr,xa,xb,xi,xn⟩=(c,O) by unfold Wo.do;rw [HC.out,if_neg h0]);have hd:(c != 0)=true:=by simpa using h0
  clear h0;go_wp2_with fail;go_ret;exact ⟨by rw [HE.out];rfl,by rw [HE.out];exact a6.same HB0.out K1.out⟩
 have h0:c=0:=Classical.not_not.1 h0;subst h0;have HE:=Hz (show O.do ⟨16,xr,xa,xb,xi,xn⟩=dL O by unfold Wo.do;rw [if_pos HC.out];rfl);obtain ⟨b0,bl⟩:=HB1.out.pc;go_wp2_with fail;refine (qD HR.out HB1.out.H).mono ?_;rintro e w5 ⟨rfl,ht⟩;have TO:=Hz (a6.aW K1.out (a6.qV HB1.out ht));clear ht b0 bl s0 s1 s2 s3 s4 s5 sl;go_wp2_with fail;go_ret;exact ⟨by rw [HE.out];rfl,by rw [HE.out];exact TO.out⟩
theorem uT {x:St} (h:aX x=0):1≤x.k∧x.k≤16:=by
 have h1:=(aI h).1;unfold aR at h1;by_cases h2:1≤x.k∧x.k≤16
 ·exact h2
 ·exfalso;apply h1;rw [if_neg (by omega),if_neg (by omega),if_neg (by omega),if_neg (by omega),if_neg (by omega)]
theorem Cm (x:St) (R:aL O W φ) (B:bj w h O) :
  Calls Tryz.prog 32 #[.pointer (some ⟨h.p,0,none⟩), .agg #[.int .i64 x.k, .int .i64 x.r, .int .i64 x.a, .int .i64 x.b, .int .i64 x.i, .int .i64 x.n]] w (bO w h O x):=by
 obtain ⟨k,r,a,b,i,n⟩:=x;by_cases hc:aX ⟨k,r,a,b,i,n⟩=0
 ·have hk:=uT hc;dsimp only at hk ⊢;have hcs:k=1∨k=2∨k=3∨k=4∨k=5∨k=6∨k=7∨k=8∨k=9∨k=10∨k=11∨k=12∨k=13∨k=14∨k=15∨k=16:=by omega
  clear hc hk;rcases hcs with rfl | rfl | rfl | rfl | rfl | rfl | rfl | rfl | rfl | rfl | rfl | rfl | rfl | rfl | rfl | rfl
  ·exact sX _ _ _ _ _ B
  ·exact y7 _ _ _ _ _ B
  ·exact xJ _ _ _ _ _ B
  ·exact rE _ _ _ _ _ B (eN.rep R (by omega))
  ·exact y8 _ _ _ _ _ R B
  ·exact xK _ _ _ _ _ R B
  ·exact vW _ _ _ _ _ R B
  ·exact vX _ _ _ _ _ R B
  ·exact y9 _ _ _ _ _ B
  ·exact za _ _ _ _ _ B
  ·exact sY _ _ _ _ _ B
  ·exact zd _ _ _ _ _ B
  ·exact zc _ _ _ _ _ B
  ·exact xL _ _ _ _ _ B
  ·exact vY _ _ _ _ _ R B
  ·exact vZ _ _ _ _ _ R B
 ·exact y6 _ _ _ _ _ _ B hc
end
end
section
open Go.RowKit
section
variable {w:World} {h:RW} {W:Wd}
def tF (w:World) (h:RW) (W:Wd) (x:St) (e:Ending) (w':World):Prop:=e=.returned (.int .i64 (W.do x).1)∧aK w h w' (W.do x).2
theorem Cn (x:St) (H:aZ w h W) (hT:W.T.length≤90000) (hn:br x.n) :
  Calls Tryz.prog 33 #[.pointer (some ⟨h.p,0,none⟩), .agg #[.int .i64 x.k, .int .i64 x.r, .int .i64 x.a, .int .i64 x.b, .int .i64 x.i, .int .i64 x.n]] w (tF w h W x):=by
 obtain ⟨k,r,a,b,i,n⟩:=x;by_cases hc:aX ⟨k,r,a,b,i,n⟩=0
 ·have hk:=uT hc;dsimp only at hk ⊢;have hcs:k=1∨k=2∨k=3∨k=4∨k=5∨k=6∨k=7∨k=8∨k=9∨k=10∨k=11∨k=12∨k=13∨k=14∨k=15∨k=16:=by omega
  clear hc hk;rcases hcs with rfl | rfl | rfl | rfl | rfl | rfl | rfl | rfl | rfl | rfl | rfl | rfl | rfl | rfl | rfl | rfl
  ·exact yp _ _ _ _ _ H
  ·exact y3 _ _ _ _ _ H
  ·exact wZ _ _ _ _ _ H
  ·exact xd _ _ _ _ _ H hT
  ·exact yE _ _ _ _ _ H hT
  ·exact xg _ _ _ _ _ H hT
  ·exact vE _ _ _ _ _ H hT
  ·exact vF _ _ _ _ _ H hT
  ·exact yH _ _ _ _ _ H
  ·exact yZ _ _ _ _ _ H
  ·exact y4 _ _ _ _ _ H
  ·exact y5 _ _ _ _ _ H
  ·exact yF _ _ _ _ _ H
  ·exact xh _ _ _ _ _ H
  ·exact vG _ _ _ _ _ H (by omega)
  ·exact vH _ _ _ _ _ H (by omega)
 ·exact yD _ _ _ _ _ _ H hc
theorem Wd.BB (W:Wd) (x:St):(W.do x).2.T.length≤W.T.length+1:=by
 have hnew:∀ (r k:Int) (l:List Int),(W.bR r k l).2.T.length≤W.T.length+1:=fun r k l=>by
  unfold Wd.bR;split
  ·show ((W.room (1+(l.length:Int))).2.T ++ [_]).length≤_
   rw [List.length_append,Wd.sO];simp
  ·dsimp only;omega
 have hcut:∀ g,(W.cut g).2.T.length≤W.T.length+1:=fun g=>by rw [Wd.Ay];omega
 have hreg:(W.ic x).2.T.length≤W.T.length+1:=by
  unfold Wd.ic;split
  ·dsimp only;omega
  ·split <;> (dsimp only;omega)
 have hpop:(W.pop x).2.T.length≤W.T.length+1:=by
  unfold Wd.pop;split
  ·dsimp only;omega
  ·split <;> (dsimp only;omega)
 have hget:(W.get x).2.T.length≤W.T.length+1:=by
  unfold Wd.get;split
  ·show (W.cB _ _).T.length≤_;rw [pD];omega
  ·dsimp only;omega
 have hset:(W.set x).2.T.length≤W.T.length+1:=by
  unfold Wd.set;split
  ·show (W.dw _ _).T.length≤_;rw [yU];omega
  ·dsimp only;omega
 have hlen:(W.len x).2.T.length≤W.T.length+1:=by
  unfold Wd.len;split
  ·dsimp only;omega
  ·show (W.cB _ _).T.length≤_;rw [pD];omega
 have hR:∀ (r:Int) (v:Vl),((0,W.cB r v):Int × Wd).2.T.length≤W.T.length+1:=fun r v=>by show (W.cB _ _).T.length≤_;rw [pD];omega
 unfold Wd.do
 by_cases hc:aX x=0
 ·rw [if_pos hc];unfold Wd.step
  by_cases h1:x.k=1;· rw [if_pos h1];exact hR _ _
  rw [if_neg h1];by_cases h2:x.k=2;· rw [if_pos h2];exact hR _ _
  rw [if_neg h2];by_cases h3:x.k=3;· rw [if_pos h3];exact hR _ _
  rw [if_neg h3];by_cases h4:x.k=4;· rw [if_pos h4];exact hnew _ _ _
  rw [if_neg h4];by_cases h5:x.k=5;· rw [if_pos h5];exact hnew _ _ _
  rw [if_neg h5];by_cases h6:x.k=6;· rw [if_pos h6];exact hnew _ _ _
  rw [if_neg h6];by_cases h7:x.k=7;· rw [if_pos h7];exact hnew _ _ _
  rw [if_neg h7];by_cases h8:x.k=8;· rw [if_pos h8];exact hnew _ _ _
  rw [if_neg h8];by_cases h9:x.k=9;· rw [if_pos h9];exact hreg
  rw [if_neg h9];by_cases h10:x.k=10;· rw [if_pos h10];exact hpop
  rw [if_neg h10];by_cases h11:x.k=11;· rw [if_pos h11];exact hget
  rw [if_neg h11];by_cases h12:x.k=12;· rw [if_pos h12];exact hset
  rw [if_neg h12];by_cases h13:x.k=13;· rw [if_pos h13];exact hlen
  rw [if_neg h13];by_cases h14:x.k=14;· rw [if_pos h14];exact hR _ _
  rw [if_neg h14];by_cases h15:x.k=15;· rw [if_pos h15];exact hcut _
  rw [if_neg h15];exact hcut _
 ·rw [if_neg hc];dsimp only;omega
end
end
section
open Go.ChangeShapes Go.WideShapes Go.ChangeAt Go.RowKit Go.Joins
section
variable {H:Type} {enc:TypeId × Value→H} {w:World} {base:Nat} {spare:Nat→Bool} {held:Bool}
theorem ze {P:Program} {r:Reach} {b0:Nat} {t:TypeId} {fs:Array Field} {v:Value} {d:DataW H} {p:List MemPlace} (hs:P.underlying t=some (.struct fs)) (hfl:Flat enc P w base spare held t)
  (hv:Value.okWide P w r b0 t v) (h:DataW.Trod enc P w base spare held t v d p) :
  ∃ l:List Int,v=.agg (l.map (Value.int .i64)).toArray∧l.length=P.cellsOf t∧∀ x ∈ l,br x:=by
 obtain ⟨cs,rfl,hsz⟩:=okWide_struct hs hv;obtain ⟨fuel,hf⟩:=h;obtain ⟨h1,h2⟩:=hfl fuel _ _ hf;obtain ⟨l,hl,hb⟩:=lR h2;refine ⟨l,?_,?_,hb⟩
 ·rw [←hl];simp [Value.cells]
 ·have:=congrArg List.length hl;rw [h1] at this;simpa using this.symm
theorem xM:Flat enc Tryz.prog w base spare held 69:=by
 refine oh Tryz.underlying69 (by kernel_rfl) ?_;intro i f hf
 match i with
 | 0=>simp at hf;subst hf;exact (dQ Tryz.underlying3 (by kernel_rfl))
 | 1=>simp at hf;subst hf;exact (dQ Tryz.underlying3 (by kernel_rfl))
 | 2=>simp at hf;subst hf;exact (dQ Tryz.underlying3 (by kernel_rfl))
 | 3=>simp at hf;subst hf;exact (dQ Tryz.underlying3 (by kernel_rfl))
 | 4=>simp at hf;subst hf;exact (dQ Tryz.underlying3 (by kernel_rfl))
 | 5=>simp at hf;subst hf;exact (dQ Tryz.underlying2 (by kernel_rfl))
 | i+6=>simp at hf
theorem CF {r:Reach} {b0:Nat} {v:Value} {d:DataW H} {p:List MemPlace} (hv:Value.okWide Tryz.prog w r b0 69 v) (h:DataW.Trod enc Tryz.prog w base spare held 69 v d p) :
  ∃ x:St,v=.agg #[.int .i64 x.k, .int .i64 x.r, .int .i64 x.a, .int .i64 x.b, .int .i64 x.i, .int .i64 x.n]∧br x.n:=by
 obtain ⟨l,e,hl,hb⟩:=ze Tryz.underlying69 xM hv h;have hc:Tryz.prog.cellsOf 69=6:=by kernel_rfl
 rw [hc] at hl
 match l,hl with
 | [k,r,a,b,i,n],_=>exact ⟨⟨k,r,a,b,i,n⟩,e,hb n (by simp)⟩
end
end
section
open Go.RowKit
def pH:Wo:=((Wo.new 16 8).do ⟨1,0,0,0,0,7⟩).2
def rZ:Wo:=(pH.do ⟨4,1,0,0,0,0⟩).2
def xE:Wo:=(rZ.do ⟨11,2,1,0,2,0⟩).2
theorem aw:((Wo.new 16 8).do ⟨1,0,0,0,0,7⟩).1=0:=by decide +kernel
theorem da:(pH.do ⟨4,1,0,0,0,0⟩).1=0:=by decide +kernel
theorem c9:(rZ.do ⟨11,2,1,0,2,0⟩).1=1:=by decide +kernel
theorem CM:3≤(pH.ar.nur:Int)-pH.ar.yng:=by decide +kernel
theorem CN:xE.view.2=[(1,[(1,7),(1,7)])]:=by decide +kernel
theorem CO:aR 9=6:=by decide
section
variable {w w':World}
structure HM (w0 w:World) (p:Nat) (h:HH) (O:Wo):Prop where
 B:bj w h O
 e:h.p=p
 K:ab (fun _=>False) w0 w
 own:∀ k,h.Own k→w0.heap.size≤k
theorem HM.to {w0:World} {p:Nat} {h:HH} {O O':Wo} (M:HM w0 w p h O) (t:a6 w h w' O'):∃ h',HM w0 w' p h' O':=by
 obtain ⟨h',H',e',k',o'⟩:=t;refine ⟨h',H',e'.trans M.e,M.K.then k' (fun b hb=>.inr (M.own b hb)),fun b hb=>?_⟩;rcases o' b hb with h1 | h1
 ·exact M.own b h1
 ·have:=M.K.size;omega
theorem HM.same {w0:World} {p:Nat} {h:HH} {O:Wo} (M:HM w0 w p h O) (k:ab (fun _=>False) w w'):HM w0 w' p h O:=⟨M.B.same k,M.e,M.K.trans k,M.own⟩
theorem HM.pc {w0:World} {p:Nat} {h:HH} {O:Wo} (M:HM w0 w p h O):w.cell? ⟨p,0,none⟩=some (.pointer (some ⟨h.a.p,0,none⟩))∧p<w.heap.size:=by
 have:=M.B.pc;rw [M.e] at this;exact this
theorem ug (w:World):Calls Tryz.prog 29 #[] w fun e w'=>e=.returned (.bool true)∧ab (fun _=>False) w w':=by
 have hfit:Ar.fits 16 8=true:=by decide
 go_enter Tryz.func29,Tryz.ntmps29;go_wp2_with fail;refine (sW 16 8 w hfit).mono ?_;rintro e w1 ⟨h,rfl,B1,k1,o1⟩;have ka:=(Kz w1).alloc (.cells #[.int .i64 0, .int .i64 0] 28);have M1:=Hz (show HM w (w1.alloc (.cells #[.int .i64 0, .int .i64 0] 28)) h.p h _ from ⟨B1.same ka,rfl,k1.trans ka,o1⟩);have d0:(w1.alloc (.cells #[.int .i64 0, .int .i64 0] 28)).cell? ⟨w1.heap.size,0,none⟩=some (.int .i64 0):=(ah.new w1 [.int .i64 0, .int .i64 0] 28).cell 0;have dl:w1.heap.size<(w1.alloc (.cells #[.int .i64 0, .int .i64 0] 28)).heap.size:=by simp
 clear B1 k1 o1 hfit ka;go_upto_region 2 with (fail)
 generalize w1.alloc (.cells #[.int .i64 0, .int .i64 0] 28)=w2 at *;generalize w1.heap.size=fb at *;have c1:=sX 0 0 0 0 7 M1.out.B;rw [M1.out.e] at c1;unfold bO at c1;rw [aw] at c1;have C1:=Hz c1;clear c1;generalize h.p=p at *;go_wp2_with fail;refine C1.out.mono ?_;rintro e w3 ⟨rfl,ht⟩;obtain ⟨h2,hM2⟩:=M1.out.to ht;have M2:=Hz (show HM w w3 p h2 pH from hM2);clear ht hM2 M1 C1 d0 dl;have c2:=rE 1 0 0 0 0 M2.out.B (eN.yes CM);rw [M2.out.e] at c2;unfold bO at c2;rw [da] at c2;have C2:=Hz c2;clear c2;go_wp2_with fail;refine C2.out.mono ?_;rintro e w4 ⟨rfl,ht⟩;obtain ⟨h3,hM3⟩:=M2.out.to ht;have M3:=Hz (show HM w w4 p h3 rZ from hM3);clear ht hM3 M2 C2;have c3:=sY 2 1 0 2 0 M3.out.B;rw [M3.out.e] at c3;unfold bO at c3;rw [c9] at c3;have C3:=Hz c3;clear c3;go_wp2_with fail;refine C3.out.mono ?_;rintro e w5 ⟨rfl,ht⟩;obtain ⟨h4,hM4⟩:=M3.out.to ht;have M4:=Hz (show HM w w5 p h4 xE from hM4);clear ht hM4 M3 C3;obtain ⟨c0,pl⟩:=M4.out.pc;go_wp2_with fail;refine (wK _ M4.out.B.H).mono ?_;rintro e w6 ⟨v,rfl,⟨ro,rc,no,nc,F,rfl,-,hn,-⟩,hk⟩;have K6:=Hz (M4.out.K.trans hk);rw [CN] at hn ⊢;obtain ⟨_,_,e',N⟩:=hn.nth;cases e';obtain ⟨g,o,ao,ac,rfl,gl,x0,x1,rd,-⟩:=N 0 (by decide);obtain ⟨g2,o2,rfl,gl2,y0,y1⟩:=rd.val 0 (by decide);generalize xE.view.1.length=vl at *;simp only [List.getD_cons_zero,Nat.zero_mul,Nat.add_zero] at x0 x1 y0 y1;have l1:([(1,[(1,7),(1,7)])]:List Nd).length=1:=rfl;have l2:([(1,7),(1,7)]:List Vl).length=2:=rfl;rw [l1];rw [l2] at x1;have hfd:∀ w:World,(Instr.field 41 (.agg #[.slice ro vl rc, .slice (some ⟨g,o,none⟩) 1 nc]) 1).run Tryz.prog w=.ok (.slice (some ⟨g,o,none⟩) 1 nc) w:=fun _=>by kernel_rfl
 have U:=Hz (xm 9 w6);clear c0 pl hk M4 hn N rd l1 l2 x0 y0;go_wp2_with fail;refine U.out.mono ?_;rintro e w7 ⟨rfl,rfl⟩;rw [CO];go_wp2_with fail;go_ret;exact ⟨rfl,K6.out⟩
end
end
section
open Go.RowKit
section
variable {p g:Nat} {A:Ar}
end
def iy (n o:Int):Int × Int:=if Ar.fits n o=true then (0,0) else (1,-1)
theorem zB (a b:Int) (w:World) :
  Calls Tryz.prog 45 #[.int .i64 a, .int .i64 b] w fun e w'=>e=.returned (.agg #[.int .i64 a, .int .i64 b])∧ab (fun _=>False) w w':=by
 go_enter Tryz.func45,Tryz.ntmps45;go_wp2_with fail;exact bodyPost_ret (v:=.agg #[.int .i64 a, .int .i64 b]) (by simp [results,Tryz.results45,go_sem]) rfl ⟨rfl,(ab.refl _ _).alloc _⟩
theorem oP (n o:Int) (w:World) :
  Calls Tryz.prog 14 #[.int .i64 n, .int .i64 o] w fun e w'=>e=.returned (.agg #[.int .i64 (iy n o).1, .int .i64 (iy n o).2])∧ab (fun _=>False) w w':=by
 cases hf:Ar.fits n o
 ·have HE:=Hz (show iy n o=(1,-1) by unfold iy;rw [hf];rfl);have hc:n<16∨256<n∨o<0∨1024<o:=by
   by_cases h1:16≤n
   ·by_cases h2:n≤256
    ·by_cases h3:0≤o
     ·by_cases h4:o≤1024
      ·simp [Ar.fits,h1,h2,h3,h4] at hf
      ·omega
     ·omega
    ·omega
   ·omega
  clear hf;by_cases c1:n<16
  ·have d1:decide (n<16)=true:=by simpa using c1
   clear hc;go_enter Tryz.func14,Tryz.ntmps14;go_wp2_with fail;refine (zB 1 (-1) _).mono ?_;rintro e w1 ⟨rfl,hk⟩;have hka:=(Kz w).alloc (.cells #[.int .i64 0, .int .i64 0] 28);have hb:=hk.ak (show ah (w.alloc (.cells #[.int .i64 0, .int .i64 0] 28)) w.heap.size [.int .i64 0, .int .i64 0] 28 from ah.newAt _ rfl rfl) (fun h=>h);have HKA:=Hz (hka.trans hk);have HB:=Hz hb;have l0:=hb.cell 0;have l1:=hb.cell 1;have ll:=hb.lt;have f0:=hb.free 0;have f1:=hb.free 1;simp only [Lz,Ls] at l0 l1;clear hk hka hb;go_wp2_with fail;have c9:=(HB.out.aO 0 (.int .i64 1)).aO 1 (.int .i64 (-1));have x0:=c9.cell 0;have x1:=c9.cell 1;simp only [List.set_cons_zero,List.set_cons_succ,Lz,Ls] at x0 x1;refine bodyPost_ret (v:=.agg #[.int .i64 1, .int .i64 (-1)]) (by simp [results,Tryz.results14,go_sem,x0,x1]) rfl ⟨by rw [HE.out],?_⟩;exact (HKA.out.setCell (p:=⟨w.heap.size,0,none⟩) (.inr (Nat.le_refl _)) _).setCell (p:=⟨w.heap.size,1,none⟩) (.inr (Nat.le_refl _)) _
  have d1:decide (n<16)=false:=by simpa using c1
  by_cases c2:256<n
  ·have d2:decide (256<n)=true:=by simpa using c2
   clear hc;go_enter Tryz.func14,Tryz.ntmps14;go_wp2_with fail;refine (zB 1 (-1) _).mono ?_;rintro e w1 ⟨rfl,hk⟩;have hka:=(Kz w).alloc (.cells #[.int .i64 0, .int .i64 0] 28);have hb:=hk.ak (show ah (w.alloc (.cells #[.int .i64 0, .int .i64 0] 28)) w.heap.size [.int .i64 0, .int .i64 0] 28 from ah.newAt _ rfl rfl) (fun h=>h);have HKA:=Hz (hka.trans hk);have HB:=Hz hb;have l0:=hb.cell 0;have l1:=hb.cell 1;have ll:=hb.lt;have f0:=hb.free 0;have f1:=hb.free 1;simp only [Lz,Ls] at l0 l1;clear hk hka hb;go_wp2_with fail;have c9:=(HB.out.aO 0 (.int .i64 1)).aO 1 (.int .i64 (-1));have x0:=c9.cell 0;have x1:=c9.cell 1;simp only [List.set_cons_zero,List.set_cons_succ,Lz,Ls] at x0 x1;refine bodyPost_ret (v:=.agg #[.int .i64 1, .int .i64 (-1)]) (by simp [results,Tryz.results14,go_sem,x0,x1]) rfl ⟨by rw [HE.out],?_⟩;exact (HKA.out.setCell (p:=⟨w.heap.size,0,none⟩) (.inr (Nat.le_refl _)) _).setCell (p:=⟨w.heap.size,1,none⟩) (.inr (Nat.le_refl _)) _
  have d2:decide (256<n)=false:=by simpa using c2
  by_cases c3:o<0
  ·have d3:decide (o<0)=true:=by simpa using c3
   clear hc;go_enter Tryz.func14,Tryz.ntmps14;go_wp2_with fail;refine (zB 1 (-1) _).mono ?_;rintro e w1 ⟨rfl,hk⟩;have hka:=(Kz w).alloc (.cells #[.int .i64 0, .int .i64 0] 28);have hb:=hk.ak (show ah (w.alloc (.cells #[.int .i64 0, .int .i64 0] 28)) w.heap.size [.int .i64 0, .int .i64 0] 28 from ah.newAt _ rfl rfl) (fun h=>h);have HKA:=Hz (hka.trans hk);have HB:=Hz hb;have l0:=hb.cell 0;have l1:=hb.cell 1;have ll:=hb.lt;have f0:=hb.free 0;have f1:=hb.free 1;simp only [Lz,Ls] at l0 l1;clear hk hka hb;go_wp2_with fail;have c9:=(HB.out.aO 0 (.int .i64 1)).aO 1 (.int .i64 (-1));have x0:=c9.cell 0;have x1:=c9.cell 1;simp only [List.set_cons_zero,List.set_cons_succ,Lz,Ls] at x0 x1;refine bodyPost_ret (v:=.agg #[.int .i64 1, .int .i64 (-1)]) (by simp [results,Tryz.results14,go_sem,x0,x1]) rfl ⟨by rw [HE.out],?_⟩;exact (HKA.out.setCell (p:=⟨w.heap.size,0,none⟩) (.inr (Nat.le_refl _)) _).setCell (p:=⟨w.heap.size,1,none⟩) (.inr (Nat.le_refl _)) _
  have d3:decide (o<0)=false:=by simpa using c3
  have d4:decide (1024<o)=true:=by simp;omega
  clear hc;go_enter Tryz.func14,Tryz.ntmps14;go_wp2_with fail;refine (zB 1 (-1) _).mono ?_;rintro e w1 ⟨rfl,hk⟩;have hka:=(Kz w).alloc (.cells #[.int .i64 0, .int .i64 0] 28);have hb:=hk.ak (show ah (w.alloc (.cells #[.int .i64 0, .int .i64 0] 28)) w.heap.size [.int .i64 0, .int .i64 0] 28 from ah.newAt _ rfl rfl) (fun h=>h);have HKA:=Hz (hka.trans hk);have HB:=Hz hb;have l0:=hb.cell 0;have l1:=hb.cell 1;have ll:=hb.lt;have f0:=hb.free 0;have f1:=hb.free 1;simp only [Lz,Ls] at l0 l1;clear hk hka hb;go_wp2_with fail;have c9:=(HB.out.aO 0 (.int .i64 1)).aO 1 (.int .i64 (-1));have x0:=c9.cell 0;have x1:=c9.cell 1;simp only [List.set_cons_zero,List.set_cons_succ,Lz,Ls] at x0 x1;refine bodyPost_ret (v:=.agg #[.int .i64 1, .int .i64 (-1)]) (by simp [results,Tryz.results14,go_sem,x0,x1]) rfl ⟨by rw [HE.out],?_⟩;exact (HKA.out.setCell (p:=⟨w.heap.size,0,none⟩) (.inr (Nat.le_refl _)) _).setCell (p:=⟨w.heap.size,1,none⟩) (.inr (Nat.le_refl _)) _
 ·have HE:=Hz (show iy n o=(0,0) by unfold iy;rw [hf];rfl);simp [Ar.fits] at hf;have d1:decide (n<16)=false:=by simp;omega
  have d2:decide (256<n)=false:=by simp;omega
  have d3:decide (o<0)=false:=by simp;omega
  have d4:decide (1024<o)=false:=by simp;omega
  clear hf;go_enter Tryz.func14,Tryz.ntmps14;go_wp2_with fail;refine bodyPost_ret (v:=.agg #[.int .i64 0, .int .i64 0]) (by simp [results,Tryz.results14,go_sem]) rfl ⟨?_,(ab.refl _ _).alloc _⟩;rw [HE.out]
end
section
open Go.RowKit
theorem Rd.nth {w:World} {ao:Option Addr} {l:List Int} (h:Rd w ao (l.map (Value.int .i64))) (i:Nat) (hi:i<l.length) :
  ∃ g o,ao=some ⟨g,o,none⟩∧g<w.heap.size∧w.cell? ⟨g,o+i,none⟩=some (.int .i64 (l.getD i 0)):=by
 obtain ⟨g,o,rfl,hg,hc⟩:=h (by intro e;simp at e;subst e;simp at hi);refine ⟨g,o,rfl,hg,?_⟩;rw [hc i (by simpa using hi)];simp [List.getD,hi]
def Cq:Ar:=((Ar.new 16 8).make 1 2).2
def Cr:Ar:=(Cq.make 2 12).2
def Cs:Ar:=(Cr.make 5 0).2
def BC:Ar:=(Cs.copy 0).2
theorem b1:((Ar.new 16 8).make 1 2).1=0:=by decide +kernel
theorem b2:(Cq.make 2 12).1=3:=by decide +kernel
theorem b3:(Cr.make 5 0).1=-1:=by decide +kernel
theorem b4:(Cs.copy 0).1=16:=by decide +kernel
theorem b5:BC.aj 16=(1,2,0):=by decide +kernel
theorem b6:BC.aT=([0,3],[16]):=by decide +kernel
theorem b7:BC.load 1=2:=by decide +kernel
end
section
open Go.RowKit
theorem aL.lens {O:Wo} {W:Wd} {φ:Int→Int} (R:aL O W φ):O.view.1.length=12∧O.view.2.length≤1300∧∀ n ∈ O.view.2,n.2.length≤100:=by
 rw [R.view];exact (Wd.seen R.hw).lens R.hw
theorem kV.rep {w:World} {lo:Nat} {v:Value} {O:Wo} {W:Wd} {φ:Int→Int} (H:kV w lo v O.view) (R:aL O W φ):rP w v O.view:=by
 obtain ⟨h1,h2,h3⟩:=R.lens;exact H.r (by omega) (by omega) (fun n hn=>Nat.le_trans (h3 n hn) (by decide))
section
variable {w w':World}
end
end
section
open Go.RowKit
structure iz where
 mb:Nat
 wb:Nat
 vb:Nat
 fb:Nat
def iz.fn (g:iz):Value:=.func (.func 104) #[] #[.pointer (some ⟨g.mb,0,none⟩), .pointer (some ⟨g.wb,0,none⟩), .pointer (some ⟨g.vb,0,none⟩), .pointer (some ⟨g.fb,0,none⟩)]
structure dO (w:World) (g:iz) (h:RW) (W:Wd) (rv mv nv:Value) (F:Nat→Prop) (s:VS):Prop where
 H:aZ w h W
 hm:ah w g.mb [mv] 83
 hw:ah w g.wb [.pointer (some ⟨h.p,0,none⟩)] 35
 hv:ah w g.vb [rv,nv] 41
 hf:ah w g.fb [g.fn] 155
 M:Sl w 3 1 mv s.1.length (s.1.map (Value.int .i64))
 N:dR w nv F s.2
 hF:∀ k,F k→k<w.heap.size∧∃ c,ah w k c 96
 bd:∀ i ∈ s.1,0≤i∧i≤1000000
def gE (g:iz) (mv nv:Value) (k:Nat):Prop:=k=g.mb∨k=g.vb∨ai mv k∨ai nv k
section
variable {w w':World} {g:iz} {h:RW} {W:Wd} {rv mv nv:Value} {F:Nat→Prop} {s:VS}
theorem dO.ei (V:dO w g h W rv mv nv F s) {k:Nat} {c:List Value} {T:TypeId} (hc:ah w k c T) (h1:T≠83) (h2:T≠41) (h3:T≠3) (h4:T≠139):¬ gE g mv nv k:=by
 rintro (rfl | rfl | hk | hk)
 ·exact hc.ne V.hm h1 rfl
 ·exact hc.ne V.hv h2 rfl
 ·obtain ⟨_,c',hc'⟩:=V.M.own hk;exact hc.ne hc' h3 rfl
 ·obtain ⟨_,c',hc'⟩:=V.N.own hk;exact hc.ne hc' h4 rfl
theorem dO.fH (V:dO w g h W rv mv nv F s) {k:Nat} (hk:h.Own k):¬ gE g mv nv k:=by
 obtain ⟨_,c,T,hc,hT⟩:=V.H.bB hk;rcases hT with rfl | rfl | rfl | rfl <;> exact V.ei hc (by decide) (by decide) (by decide) (by decide)
theorem dO.ae {S:Nat→Prop} (V:dO w g h W rv mv nv F s) (k:ab S w w') (h1:∀ j,gE g mv nv j→¬ S j) (h2:∀ j,h.Own j→¬ S j) (h3:∀ j,F j→¬ S j) (h4:¬ S g.wb) (h5:¬ S g.fb):dO w' g h W rv mv nv F s:=
 ⟨V.H.ae k h2,k.ak V.hm (h1 _ (.inl rfl)),k.ak V.hw h4,k.ak V.hv (h1 _ (.inr (.inl rfl))),k.ak V.hf h5,V.M.ae k (fun j hj=>h1 j (.inr (.inr (.inl hj)))),V.N.ae k (fun j hj _=>h3 j hj) (fun j hj=>h1 j (.inr (.inr (.inr hj)))),
  fun j hj=>by obtain ⟨a,c,hc⟩:=V.hF j hj;exact ⟨Nat.lt_of_lt_of_le a k.size,c,k.ak hc (h3 j hj)⟩,V.bd⟩
theorem dO.same (V:dO w g h W rv mv nv F s) (k:ab (fun _=>False) w w'):dO w' g h W rv mv nv F s:=V.ae k (fun _ _ h=>h) (fun _ _ h=>h) (fun _ _ h=>h) (fun h=>h) (fun h=>h)
theorem dO.other {b:Nat} (V:dO w g h W rv mv nv F s) (k:ab (·=b) w w') (hb:¬ gE g mv nv b) (h2:¬ h.Own b) (h3:¬ F b) (h4:b≠g.wb) (h5:b≠g.fb):dO w' g h W rv mv nv F s:=
 V.ae k (fun j hj e=>hb (e ▸ hj)) (fun j hj e=>h2 (e ▸ hj)) (fun j hj e=>h3 (e ▸ hj)) (fun e=>h4 e.symm) (fun e=>h5 e.symm)
def iO (w:World) (g:iz) (h:RW) (W:Wd) (rv mv nv:Value) (F:Nat→Prop) (s':VS) (w':World):Prop:=
 ∃ mv' nv' F',dO w' g h W rv mv' nv' F' s'∧ab (gE g mv nv) w w'∧(∀ k,ai mv' k→ai mv k∨w.heap.size≤k)∧(∀ k,ai nv' k→ai nv k∨w.heap.size≤k)∧∀ k,F' k→F k∨w.heap.size≤k
theorem iO.refl (V:dO w g h W rv mv nv F s) (k:ab (fun _=>False) w w'):iO w g h W rv mv nv F s w':=
 ⟨mv,nv,F,V.same k,k.mono (fun _ _ h=>h.elim),fun _ h=>.inl h,fun _ h=>.inl h,fun _ h=>.inl h⟩
theorem gE.step {mv' nv':Value} (o0:∀ k,ai mv' k→ai mv k∨w.heap.size≤k) (o1:∀ k,ai nv' k→ai nv k∨w.heap.size≤k) {k:Nat} (hk:gE g mv' nv' k):gE g mv nv k∨w.heap.size≤k:=by
 rcases hk with rfl | rfl | hk | hk
 ·exact .inl (.inl rfl)
 ·exact .inl (.inr (.inl rfl))
 ·exact (o0 k hk).imp (fun h=>.inr (.inr (.inl h))) id
 ·exact (o1 k hk).imp (fun h=>.inr (.inr (.inr h))) id
theorem iO.done {w1 w2 w3:World} {s':VS} {b:Nat} (k1:ab (fun _=>False) w w1) (t:iO w1 g h W rv mv nv F s' w2) (hb0:w.heap.size≤b) (aw:b<w1.heap.size) (hF:¬ F b) (hO:¬ h.Own b) (hbt:∃ c,ah w2 b c 96) (k:ab (·=b) w2 w3) :
  iO w g h W rv mv nv F s' w3:=by
 obtain ⟨mv',nv',F',V,k2,o0,o1,o2⟩:=t;obtain ⟨c,hc⟩:=hbt;refine ⟨mv',nv',F',V.other k (V.ei hc (by decide) (by decide) (by decide) (by decide)) hO (fun hf=>?_) (hc.ne V.hw (by decide)) (hc.ne V.hf (by decide)),((k1.mono (fun _ _ h=>h.elim)).trans k2).then k (fun j hj=>.inr (by rw [hj];exact hb0)),
  fun j hj=>(o0 j hj).imp id (fun h=>Nat.le_trans k1.size h),fun j hj=>(o1 j hj).imp id (fun h=>Nat.le_trans k1.size h),fun j hj=>(o2 j hj).imp id (fun h=>Nat.le_trans k1.size h)⟩
 rcases o2 b hf with h1 | h1
 ·exact hF h1
 ·omega
def lq (w:World) (g:iz) (h:RW) (W:Wd) (rv mv nv:Value) (F:Nat→Prop) (r:Vl × VS) (e:Ending) (w':World):Prop:=
 e=.returned (.agg #[.int .i64 r.1.1, .int .i64 r.1.2])∧iO w g h W rv mv nv F r.2 w'
theorem nR (v:Vl) (n:Nat) (V:dO w g h W rv mv nv F s) (h3:v.1≠3) :
  Calls Tryz.prog 104 #[.agg #[.int .i64 v.1, .int .i64 v.2], .pointer (some ⟨g.mb,0,none⟩), .pointer (some ⟨g.wb,0,none⟩), .pointer (some ⟨g.vb,0,none⟩), .pointer (some ⟨g.fb,0,none⟩)] w (lq w g h W rv mv nv F (valM W.gr n v s)):=by
 have HE:=Hz (dx W.gr n s h3);have HV:=Hz V;obtain ⟨v1,v2⟩:=v;dsimp only at h3 ⊢;have hd:(v1 != 3)=true:=by simpa using h3
 clear h3 V;go_enter Tryz.func104,Tryz.ntmps104;go_upto_region 1 with (fail)
 have ka:=(Kz w).alloc (.cells #[.int .i64 (v1), .int .i64 v2] 96);have xb1:ah (w.alloc (.cells #[.int .i64 (v1), .int .i64 v2] 96)) w.heap.size [.int .i64 (v1), .int .i64 v2] 96:=ah.newAt _ rfl rfl;have sz1:(w.alloc (.cells #[.int .i64 (v1), .int .i64 v2] 96)).heap.size=w.heap.size+1:=by simp
 have K1:=Hz (ka.alloc (.cells #[.int .i64 0, .int .i64 0] 96));have XB:=Hz (xb1.alloc (.cells #[.int .i64 0, .int .i64 0] 96));have RB:=Hz (show ah ((w.alloc (.cells #[.int .i64 (v1), .int .i64 v2] 96)).alloc (.cells #[.int .i64 0, .int .i64 0] 96)) (w.heap.size+1) [.int .i64 0, .int .i64 0] 96 from ah.newAt _ sz1.symm rfl);have V1:=Hz (HV.out.same K1.out);have RNF:Hid (¬ F (w.heap.size+1)):=fun hf=>by have:=(HV.out.hF _ hf).1;omega
 have RNO:Hid (¬ h.Own (w.heap.size+1)):=fun hf=>by have:=(HV.out.H.bB hf).1;omega
 have XNO:Hid (¬ h.Own w.heap.size):=fun hf=>by have:=(HV.out.H.bB hf).1;omega
 have XNF:Hid (¬ F w.heap.size):=fun hf=>by have:=(HV.out.hF _ hf).1;omega
 clear ka xb1 sz1;generalize (w.alloc (.cells #[.int .i64 (v1), .int .i64 v2] 96)).alloc (.cells #[.int .i64 0, .int .i64 0] 96)=w1 at *;generalize hxb:w.heap.size=xb at XB RB RNF RNO XNO XNF ⊢;have HXB:=Hz hxb;clear hxb;generalize hrb:xb+1=rb at RB RNF RNO ⊢;have HRX:=Hz hrb;clear hrb;have HRB:=Hz (show w.heap.size≤rb by have:=HXB.out;have:=HRX.out;omega);have b0:=XB.out.cell 0;have b1:=XB.out.cell 1;have bl:=XB.out.lt;have r0:=RB.out.cell 0;have r1:=RB.out.cell 1;have rl:=RB.out.lt;have f0:=RB.out.free 0;have f1:=RB.out.free 1;simp only [Lz,Ls] at b0 b1 r0 r1;go_wp2_with (refine cF rfl 96 (.tmp 5) rfl (by kernel_rfl) xb 0 rfl _ _ b0 b1 ?_);have c9:=(RB.out.aO 0 (.int .i64 v1)).aO 1 (.int .i64 v2);have x0':=c9.cell 0;have x1':=c9.cell 1;simp only [List.set_cons_zero,List.set_cons_succ,Lz,Ls] at x0' x1';refine bodyPost_ret (v:=.agg #[.int .i64 v1, .int .i64 v2]) (by simp [results,Tryz.results104,go_sem,x0',x1']) rfl ?_;unfold lq;rw [HE.out];refine ⟨rfl,?_⟩;have set:=((ab.refl (·=rb) w1).setCell (p:=⟨rb,0,none⟩) (.inl rfl) (.int .i64 v1)).setCell (p:=⟨rb,1,none⟩) (.inl rfl) (.int .i64 v2);exact iO.done K1.out (iO.refl V1.out (ab.refl _ _)) HRB.out rl RNF.out RNO.out ⟨_,RB.out⟩ set
theorem uh {l:List Int} {x:Int} {k:Nat} (hk:k<l.length) (hx:l.getD k 0=x) (h:∀ j,j<k→l.getD j 0≠x):l.idxOf x=k:=by
 induction l generalizing k with
 | nil=>simp at hk
 | cons a l ih=>
  rw [List.idxOf_cons];cases k with
  | zero=>
   have:a=x:=by simpa using hx
   subst this;simp
  | succ k=>
   have h0:=h 0 (by omega);have h0:a≠x:=by simpa using h0
   have:(a == x)=false:=by simpa using h0
   rw [this];have:=ih (k:=k) (by simpa using hk) (by simpa using hx) (fun j hj=>by have:=h (j+1) (by omega);simpa using this);simp [this]
theorem qE (v2:Int) (n:Nat) (V:dO w g h W rv mv nv F s) (hm:v2 ∈ s.1) (hsl:s.1.length≤5000) :
  Calls Tryz.prog 104 #[.agg #[.int .i64 3, .int .i64 v2], .pointer (some ⟨g.mb,0,none⟩), .pointer (some ⟨g.wb,0,none⟩), .pointer (some ⟨g.vb,0,none⟩), .pointer (some ⟨g.fb,0,none⟩)] w (lq w g h W rv mv nv F (valM W.gr n (3,v2) s)):=by
 have HE:=Hz (fC W.gr n (v:=(3,v2)) (s:=s) rfl hm);have HV:=Hz V;have HM:=Hz hm;have HSL:=Hz hsl;clear V hm hsl;go_enter Tryz.func104,Tryz.ntmps104;go_upto_region 1 with (fail)
 have ka:=(Kz w).alloc (.cells #[.int .i64 (3), .int .i64 v2] 96);have xb1:ah (w.alloc (.cells #[.int .i64 (3), .int .i64 v2] 96)) w.heap.size [.int .i64 (3), .int .i64 v2] 96:=ah.newAt _ rfl rfl;have sz1:(w.alloc (.cells #[.int .i64 (3), .int .i64 v2] 96)).heap.size=w.heap.size+1:=by simp
 have K1:=Hz (ka.alloc (.cells #[.int .i64 0, .int .i64 0] 96));have XB:=Hz (xb1.alloc (.cells #[.int .i64 0, .int .i64 0] 96));have RB:=Hz (show ah ((w.alloc (.cells #[.int .i64 (3), .int .i64 v2] 96)).alloc (.cells #[.int .i64 0, .int .i64 0] 96)) (w.heap.size+1) [.int .i64 0, .int .i64 0] 96 from ah.newAt _ sz1.symm rfl);have V1:=Hz (HV.out.same K1.out);have RNF:Hid (¬ F (w.heap.size+1)):=fun hf=>by have:=(HV.out.hF _ hf).1;omega
 have RNO:Hid (¬ h.Own (w.heap.size+1)):=fun hf=>by have:=(HV.out.H.bB hf).1;omega
 have XNO:Hid (¬ h.Own w.heap.size):=fun hf=>by have:=(HV.out.H.bB hf).1;omega
 have XNF:Hid (¬ F w.heap.size):=fun hf=>by have:=(HV.out.hF _ hf).1;omega
 clear ka xb1 sz1;generalize (w.alloc (.cells #[.int .i64 (3), .int .i64 v2] 96)).alloc (.cells #[.int .i64 0, .int .i64 0] 96)=w1 at *;generalize hxb:w.heap.size=xb at XB RB RNF RNO XNO XNF ⊢;have HXB:=Hz hxb;clear hxb;generalize hrb:xb+1=rb at RB RNF RNO ⊢;have HRX:=Hz hrb;clear hrb;have HRB:=Hz (show w.heap.size≤rb by have:=HXB.out;have:=HRX.out;omega);have b0:=XB.out.cell 0;have b1:=XB.out.cell 1;have bl:=XB.out.lt;simp only [Lz,Ls] at b0 b1;have c0:=V1.out.hm.cell 0;have cl:=V1.out.hm.lt;simp only [Lz] at c0;obtain ⟨mo,mc,emv,-,hml,-⟩:=V1.out.M.rd;have EMV:=Hz emv;rw [emv] at c0;have hsl:=HSL.out;clear emv hml;go_wp2_with fail;go_loopw [7] (fun i wr=>∃ k:Nat,k≤s.1.length∧i=.int .i64 k∧ab (fun _=>False) w1 wr∧∀ j,j<k→s.1.getD j 0≠v2) (fun i _=>s.1.length-(intOf i).toNat)
 case atStart=>exact ⟨0,Nat.zero_le _,rfl,ab.refl _ _,fun j hj=>by omega⟩
 case round=>
  clear c0 cl b0 b1 bl;obtain ⟨k,hk,rfl,hK,hN⟩:=hrel;have KR:=Hz hK;have HN:=Hz hN;clear hK hN;have VR:=Hz (V1.out.same KR.out);have XR:=Hz (KR.out.ak XB.out (fun h=>h));have RR:=Hz (KR.out.ak RB.out (fun h=>h));have b0:=XR.out.cell 0;have b1:=XR.out.cell 1;have bl:=XR.out.lt;have c0:=VR.out.hm.cell 0;have cl:=VR.out.hm.lt;simp only [Lz,Ls] at b0 b1 c0;rw [EMV.out] at c0;by_cases hlt:k<s.1.length
  ·obtain ⟨_,_,e',rd,-,-⟩:=VR.out.M.rd;rw [EMV.out] at e';cases e';obtain ⟨gm,om,rfl,d0⟩:=rd.int k hlt;have hgm:=((VR.out.M).own (k:=gm) (by rw [EMV.out];rfl)).1;generalize hy:s.1.getD k 0=y at *;have HY:=Hz hy;clear rd hy;go_wp2_with fail;refine ay (.free 1 (.free 4 (.pure 0 (.free 2 (.pure 3 (.pure 5 (.free 6 (.fin)))))))) [] (fun w'=>w'.cell? ⟨g.mb,0,none⟩=some (.slice (some ⟨gm,om,none⟩) s.1.length mc)∧w'.cell? ⟨gm,om+k,none⟩=some (.int .i64 y)∧w'.cell? ⟨xb,1,none⟩=some (.int .i64 v2)) (by kernel_rfl) (by kernel_rfl) ⟨c0,d0,b1⟩ ?_
   iterate 7 ((first | refine au rfl rfl fun K hK=>?_ | refine aq rfl rfl fun K hK=>?_ | refine aF rfl rfl fun K hK=>?_ | refine az rfl rfl fun K hK=>?_ | refine aE rfl rfl fun K hK=>?_);go_simp;refine hK _ ?_;clear hK K)
   refine aB ?_;clear b0 b1 bl c0 cl d0 hgm;by_cases he:y=v2
   ·subst he;have HIX:=Hz (uh hlt HY.out HN.out);have RD:=Hz (show ah wr.drew rb [.int .i64 0, .int .i64 0] 96 from RR.out.drew);have KD:=Hz (KR.out.drew);clear RR XR VR;generalize wr.drew=wd at *;have r0:=RD.out.cell 0;have r1:=RD.out.cell 1;have rl:=RD.out.lt;have f0:=RD.out.free 0;have f1:=RD.out.free 1;simp only [Lz,Ls] at r0 r1;go_wp2_with fail;have c9:=(RD.out.aO 0 (.int .i64 3)).aO 1 (.int .i64 k);have x0':=c9.cell 0;have x1':=c9.cell 1;simp only [List.set_cons_zero,List.set_cons_succ,Lz,Ls] at x0' x1';refine bodyPost_ret (v:=.agg #[.int .i64 3, .int .i64 k]) (by simp [results,Tryz.results104,go_sem,x0',x1']) rfl ?_;unfold lq;rw [HE.out];dsimp only;rw [HIX.out];refine ⟨rfl,?_⟩;have set:=((ab.refl (·=rb) wd).setCell (p:=⟨rb,0,none⟩) (.inl rfl) (.int .i64 3)).setCell (p:=⟨rb,1,none⟩) (.inl rfl) (.int .i64 k);exact iO.done K1.out (iO.refl V1.out KD.out) HRB.out RB.out.lt RNF.out RNO.out ⟨_,RD.out⟩ set
   ·have hd:(y == v2)=false:=by simpa using he
    have HN2:=Hz (show ∀ j,j<k+1→s.1.getD j 0≠v2 from fun j hj=>by
     rcases Nat.lt_or_eq_of_le (Nat.le_of_lt_succ hj) with h1 | rfl
     ·exact HN.out j h1
     ·rw [HY.out];exact he)
    clear he;go_wp2_with fail;go_roundw
    case rel=>exact ⟨k+1,hlt,by go_num,KR.out.drew,HN2.out⟩
    case measure=>simp [intOf];omega
  ·exfalso;obtain ⟨j,hj,he⟩:=List.mem_iff_getElem.1 HM.out;refine HN.out j (by omega) ?_;rw [Ld,Le hj];exact he
end
end
end Go.Proofs.YtjifdalflepcoacGreat
