/-
  Parts of the proof, merged: what the functions do, and plain laws.
-/
import Derived.Test.YtjifdalflepcoabGDesP0
import Derived.Maps.Own
import Derived.Maps.OwnSet
import Derived.Deep.CutBlock
import Derived.Deep.DeepCutAuto
import Derived.Laws.Tables
import Derived.Deep.LoopGhost
import Derived.Laws.EntriesVeiled
set_option maxHeartbeats 16000000
set_option maxRecDepth 100000
set_option linter.unusedVariables false
set_option linter.unusedSimpArgs false
namespace Go.Proofs.Ytjifdalflepcoab
section
open Go.RowKit
structure WH where
 p:Nat
 pa:Nat
 g:Nat
 pc:Nat
 cb:Nat
 ps:Nat
 rv:Value
 wv:Value
 ro:Value
def WH.Own (h:WH) (k:Nat):Prop:=k=h.p∨(k=h.pa∨k=h.g)∨(k=h.pc∨k=h.cb)∨aU h.ps h.rv h.wv k∨ag h.ro k
structure bP (w:World) (h:WH) (O:Wo):Prop where
 hp:ah w h.p [.pointer (some ⟨h.pa,0,none⟩), .pointer (some ⟨h.pc,0,none⟩), .pointer (some ⟨h.ps,0,none⟩),h.ro] 65
 ha:bR w h.pa h.g O.ar
 hc:cD w h.pc h.cb O.ar.nur O.cd
 hs:ct w h.ps h.rv h.wv O.rg O.wt
 hr:Sl w 2 1 h.ro O.rt.length (O.rt.map (Value.int .i64))
 ap:¬ ag h.ro h.g
 ok:O.ok
section
variable {w w':World} {h:WH} {O:Wo}
theorem bP.ae {S:Nat→Prop} (H:bP w h O) (k:aa S w w') (hn:∀ b,h.Own b→¬ S b):bP w' h O:=
 ⟨k.ai H.hp (hn _ (.inl rfl)),H.ha.ae k (hn _ (.inr (.inl (.inl rfl)))) (hn _ (.inr (.inl (.inr rfl)))),H.hc.ae k (hn _ (.inr (.inr (.inl (.inl rfl))))) (hn _ (.inr (.inr (.inl (.inr rfl))))),
  H.hs.ae k (fun b hb=>hn b (.inr (.inr (.inr (.inl hb))))),H.hr.ae k (fun b hb=>hn b (.inr (.inr (.inr (.inr hb))))),H.ap,H.ok⟩
theorem ct.kD {w:World} {p b:Nat} {rv wv:Value} {regs wait:List (Int × Int)} (h:ct w p rv wv regs wait) (hb:aU p rv wv b):∃ c T,ah w b c T∧(T=129∨T=170):=by
 rcases hb with rfl | hb | hb
 ·exact ⟨_,_,h.hp, .inl rfl⟩
 ·obtain ⟨_,c,hc⟩:=h.hr.own hb;exact ⟨_,_,hc, .inr rfl⟩
 ·obtain ⟨_,c,hc⟩:=h.hw.own hb;exact ⟨_,_,hc, .inr rfl⟩
theorem bP.rm (H:bP w h O) {b:Nat} {c:List Value} {T:TypeId} (hb:ah w b c T) (h1:T≠129) (h2:T≠170):¬ aU h.ps h.rv h.wv b:=fun hf=>by
 obtain ⟨c',T',hc,hT⟩:=H.hs.kD hf;rcases hT with rfl | rfl
 ·exact hb.ne hc h1 rfl
 ·exact hb.ne hc h2 rfl
theorem bP.nM (H:bP w h O) {b:Nat} {c:List Value} {T:TypeId} (hb:ah w b c T) (h1:T≠2):¬ ag h.ro b:=fun hf=>by
 obtain ⟨_,c',hc⟩:=H.hr.own hf;exact hb.ne hc h1 rfl
theorem bP.qT (H:bP w h O) {A:Ar} (t:jj w h.pa h.g w' A) (hn:A.nur=O.ar.nur):bP w' h { O with ar:=A }:=by
 have k:=t.k;have n1:∀ {b:Nat} {c:List Value} {T:TypeId},ah w b c T→T≠120→T≠2→¬ (b=h.pa∨b=h.g):=fun hb h1 h2 e=>by
  rcases e with e | e
  ·exact hb.ne H.ha.hp h1 e
  ·exact hb.ne H.ha.hg h2 e
 refine ⟨k.ai H.hp (n1 H.hp (by decide) (by decide)),t.at_,?_,H.hs.ae k (fun b hb=>?_),H.hr.ae k (fun b hb=>?_),H.ap, { H.ok with ha:=t.at_.ok }⟩
 ·show cD w' h.pc h.cb A.nur O.cd
  rw [hn];exact H.hc.ae k (n1 H.hc.hp (by decide) (by decide)) (n1 H.hc.hq (by decide) (by decide))
 ·obtain ⟨c,T,hc,hT⟩:=H.hs.kD hb;rcases hT with rfl | rfl
  ·exact n1 hc (by decide) (by decide)
  ·exact n1 hc (by decide) (by decide)
 ·rintro (rfl | rfl)
  ·exact H.nM H.ha.hp (by decide) hb
  ·exact H.ap hb
theorem bP.cards (H:bP w h O) {l:List Bool} (t:cD w' h.pc h.cb O.ar.nur l) (hl:l.length≤1000) (k:aa (·=h.cb) w w'):bP w' h { O with cd:=l }:=by
 have n1:∀ {b:Nat} {c:List Value} {T:TypeId},ah w b c T→T≠4→¬ (b=h.cb):=fun hb h1 e=>hb.ne H.hc.hq h1 e;refine ⟨k.ai H.hp (n1 H.hp (by decide)),H.ha.ae k (n1 H.ha.hp (by decide)) (n1 H.ha.hg (by decide)),t,H.hs.ae k (fun b hb=>?_),H.hr.ae k (fun b hb=>?_),H.ap, { H.ok with hc:=hl }⟩
 ·obtain ⟨c,T,hc,hT⟩:=H.hs.kD hb;rcases hT with rfl | rfl
  ·exact n1 hc (by decide)
  ·exact n1 hc (by decide)
 ·rintro rfl;exact H.nM H.hc.hq (by decide) hb
theorem bP.nN (H:bP w h O):w.cell? ⟨h.p,0,none⟩=some (.pointer (some ⟨h.pa,0,none⟩))∧w.cell? ⟨h.p,1,none⟩=some (.pointer (some ⟨h.pc,0,none⟩))∧w.cell? ⟨h.p,2,none⟩=some (.pointer (some ⟨h.ps,0,none⟩))∧w.cell? ⟨h.p,3,none⟩=some h.ro:=
 ⟨H.hp.cell 0,H.hp.cell 1,H.hp.cell 2,H.hp.cell 3⟩
def gU (w:World) (h:WH) (w':World) (O:Wo):Prop:=
 ∃ h',bP w' h' O∧h'.p=h.p∧aa h.Own w w'∧∀ k,h'.Own k→h.Own k∨w.heap.size≤k
theorem bP.rn (H:bP w h O) {A:Ar} (t:jj w h.pa h.g w' A) (hn:A.nur=O.ar.nur):gU w h w' { O with ar:=A }:=
 ⟨h,H.qT t hn,rfl,t.k.mono (fun k _ hk=>.inr (.inl hk)),fun k hk=>.inl hk⟩
theorem gU.same (H:bP w h O) (k:aa (fun _=>False) w w'):gU w h w' O:=
 ⟨h,H.ae k (fun _ _ h=>h),rfl,k.mono (fun _ _ h=>h.elim),fun k hk=>.inl hk⟩
theorem ik {A:Ar} {x:Int} (h:¬ (x%4=1∧(A.aw (x/4)).2.2=0)):A.bG x=(0,0,0,2):=if_neg h
theorem gP {A:Ar} {x:Int} (h:x%4=1∧(A.aw (x/4)).2.2=0):A.bG x=(x/4,(A.aw (x/4)).1,(A.aw (x/4)).2.1,0):=if_pos h
theorem fZ {fn:Func} {t u v x:Tmp} (h:fn.results=#[.tmp t, .tmp u, .tmp v, .tmp x]) (tmps:Array Value) (P:Program) (w:World) :
  (results fn tmps).run P w=.ok (.tuple #[tmps.getD t undef,tmps.getD u undef,tmps.getD v undef,tmps.getD x undef]) w:=by
 simp [results,h]
theorem jL {a b c d:Int} {y:Int × Int × Int × Int} (h:y=(a,b,c,d)) :
  Ending.returned (.tuple #[.int .i64 a, .int .i64 b, .int .i64 c, .int .i64 d])=Ending.returned (.tuple #[.int .i64 y.1, .int .i64 y.2.1, .int .i64 y.2.2.1, .int .i64 y.2.2.2]):=by subst h;rfl
theorem rp (x:Int) (H:bP w h O) :
  Calls Try.prog 91 #[.pointer (some ⟨h.p,0,none⟩), .int .i64 x] w fun e w'=>
   e=.returned (.tuple #[.int .i64 (O.ar.bG x).1, .int .i64 (O.ar.bG x).2.1, .int .i64 (O.ar.bG x).2.2.1, .int .i64 (O.ar.bG x).2.2.2])∧w=w':=by
 have HH:=Hz H;obtain ⟨c0,-,-,-⟩:=H.nN;have pl:=H.hp.lt;have HA:=Hz H.ha;clear H;by_cases hx:x%4=1
 ·by_cases hc:(O.ar.aw (x/4)).2.2=0
  ·have HE:=Hz (gP ⟨hx,hc⟩);obtain ⟨⟨k,n,c⟩,hT⟩:∃ t,O.ar.aw (x/4)=t:=⟨_,rfl⟩;rw [hT] at hc HE;dsimp only at hc HE;subst hc;have HT:=Hz hT;have HX:=Hz hx;clear hT hx;go_enter Try.func91,Try.ntmps91;go_wp2_with fail;refine (gT x _ HX.out).mono ?_;rintro e w1 ⟨rfl,rfl⟩;go_wp2_with fail;refine (m4 (x/4) _ HA.out).mono ?_;rintro e w1 ⟨rfl,rfl⟩;rw [HT.out];dsimp only;go_wp2_with fail
   ((try simp only [Exit.inBlock,Exit.then]);refine bodyPost_ret (fZ rfl _ _ _) rfl ?_)
   exact ⟨jL HE.out,rfl⟩
  ·have HE:=Hz (ik (A:=O.ar) (x:=x) (fun h=>hc h.2));obtain ⟨⟨k,n,c⟩,hT⟩:∃ t,O.ar.aw (x/4)=t:=⟨_,rfl⟩;rw [hT] at hc;dsimp only at hc;have hcb:(c != 0)=true:=by simpa using hc
   have HT:=Hz hT;have HX:=Hz hx;clear hT hx hc;go_enter Try.func91,Try.ntmps91;go_wp2_with fail;refine (gT x _ HX.out).mono ?_;rintro e w1 ⟨rfl,rfl⟩;go_wp2_with fail;refine (m4 (x/4) _ HA.out).mono ?_;rintro e w1 ⟨rfl,rfl⟩;rw [HT.out];dsimp only;go_wp2_with fail
   ((try simp only [Exit.inBlock,Exit.then]);refine bodyPost_ret (fZ rfl _ _ _) rfl ?_)
   exact ⟨jL HE.out,rfl⟩
 ·have HE:=Hz (ik (A:=O.ar) (x:=x) (fun h=>hx h.1));have HX:=Hz hx;clear hx;go_enter Try.func91,Try.ntmps91;go_wp2_with fail;refine (qS x _ HX.out).mono ?_;rintro e w1 ⟨rfl,rfl⟩;go_wp2_with fail
  ((try simp only [Exit.inBlock,Exit.then]);refine bodyPost_ret (fZ rfl _ _ _) rfl ?_)
  exact ⟨jL HE.out,rfl⟩
theorem pX {A:Ar} {x i:Int} (h:(A.bG x).2.2.2≠0∨(A.bG x).2.1=5):A.get x i=(0,2):=if_pos h
theorem oY {A:Ar} {x i:Int} (h:¬ ((A.bG x).2.2.2≠0∨(A.bG x).2.1=5)) (h2:i<0∨(A.bG x).2.2.1≤i):A.get x i=(0,1):=by unfold Ar.get;rw [if_neg h,if_pos h2]
theorem sf {A:Ar} {x i:Int} (h:¬ ((A.bG x).2.2.2≠0∨(A.bG x).2.1=5)) (h2:¬ (i<0∨(A.bG x).2.2.1≤i)):A.get x i=(A.load (x/4+1+i),0):=by unfold Ar.get;rw [if_neg h,if_neg h2]
theorem kE (A:Ar) (x:Int):0≤(A.bG x).2.2.1∧(A.bG x).2.2.1≤12:=by
 unfold Ar.bG;split
 ·exact A.iM _
 ·decide
theorem iG {A:Ar} (hk:A.ok) {x:Int} (h:(A.bG x).2.2.2=0):x%4=1∧(A.aw (x/4)).2.2=0∧0≤x/4∧x/4<A.ws.length∧(A.bG x).1=x/4:=by
 by_cases hc:x%4=1∧(A.aw (x/4)).2.2=0
 ·have:=hk.lU (A.oU hc.2);refine ⟨hc.1,hc.2,this.1,this.2,?_⟩;rw [gP hc]
 ·rw [ik hc] at h;simp at h
theorem qU (x i:Int) (H:bP w h O) :
  Calls Try.prog 45 #[.pointer (some ⟨h.p,0,none⟩), .int .i64 x, .int .i64 i] w fun e w'=>
   e=.returned (.tuple #[.int .i64 (O.ar.get x i).1, .int .i64 (O.ar.get x i).2])∧w=w':=by
 have HH:=Hz H;obtain ⟨c0,-,-,-⟩:=H.nN;have pl:=H.hp.lt;have HA:=Hz H.ha;have hb:=kE O.ar x;have hpl:=fun e=>iG H.ok.ha (x:=x) e;have h4:=H.ok.ha.h4;have gk:=fun e=>pX (A:=O.ar) (x:=x) (i:=i) e;have gr:=fun e1 e2=>oY (A:=O.ar) (x:=x) (i:=i) e1 e2;have go:=fun e1 e2=>sf (A:=O.ar) (x:=x) (i:=i) e1 e2;have HTc:=Hz (rp x H);obtain ⟨⟨p,k,n,c⟩,hT⟩:∃ t,O.ar.bG x=t:=⟨_,rfl⟩;rw [hT] at hb hpl gk gr go HTc;dsimp only at hb hpl gk gr go HTc;clear H hT;by_cases hc:c=0
 ·obtain ⟨-,-,p0,p1,rfl⟩:=hpl hc;subst hc;by_cases hk:k=5
  ·have HG:=Hz (gk (.inr hk));subst hk;clear gk gr go hpl;go_enter Try.func45,Try.ntmps45;go_wp2_with fail;refine HTc.out.mono ?_;rintro e w1 ⟨rfl,rfl⟩;go_wp2_with fail;go_ret2;exact ⟨by rw [HG.out];rfl,rfl⟩
  ·have h1:¬ ((0:Int)≠0∨k=5):=fun h=>by rcases h with h | h;exact h rfl;exact hk h
   have hkb:(k == 5)=false:=by simpa using hk
   by_cases hi:i<0∨n≤i
   ·have HG:=Hz (gr h1 hi);clear gk gr go hpl h1 hk;by_cases hi0:i<0
    ·have hd:decide (i<0)=true:=by simpa using hi0
     clear hi;go_enter Try.func45,Try.ntmps45;go_wp2_with fail;refine HTc.out.mono ?_;rintro e w1 ⟨rfl,rfl⟩;go_wp2_with fail;go_ret2;exact ⟨by rw [HG.out];rfl,rfl⟩
    ·have hd:decide (i<0)=false:=by simpa using hi0
     have hd2:decide (n≤i)=true:=by simp;omega
     clear hi;go_enter Try.func45,Try.ntmps45;go_wp2_with fail;refine HTc.out.mono ?_;rintro e w1 ⟨rfl,rfl⟩;go_wp2_with fail;go_ret2;exact ⟨by rw [HG.out];rfl,rfl⟩
   ·have HG:=Hz (go h1 hi);have hd:decide (i<0)=false:=by simp;omega
    have hd2:decide (n≤i)=false:=by simp;omega
    have hi0:0≤i:=by omega
    have hi1:i<n:=by omega
    clear gk gr go hpl h1 hk hi;go_enter Try.func45,Try.ntmps45;go_wp2_with fail;refine HTc.out.mono ?_;rintro e w1 ⟨rfl,rfl⟩;go_wp2_with fail;refine (oV (x/4+1+i) _ HA.out).mono ?_;rintro e w1 ⟨rfl,rfl⟩;go_wp2_with fail;go_ret2;exact ⟨by rw [HG.out];rfl,rfl⟩
 ·have HG:=Hz (gk (.inl hc));have hcb:(c != 0)=true:=by simpa using hc
  clear gk gr go hpl hc;go_enter Try.func45,Try.ntmps45;go_wp2_with fail;refine HTc.out.mono ?_;rintro e w1 ⟨rfl,rfl⟩;go_wp2_with fail;go_ret2;exact ⟨by rw [HG.out];rfl,rfl⟩
end
end
section
open Go.RowKit
section
variable {w w':World} {h:WH} {O:Wo}
theorem Wo.sg {x i y:Int} (hc:(O.ar.get x i).2≠0):O.set x i y=((O.ar.get x i).2,O):=if_pos hc
theorem Wo.rq {x i y:Int} (hc:(O.ar.get x i).2=0):O.set x i y=(0, { O with ar:=O.ar.store (x/4+1+i) y,cd:=if y%4=1∧(O.ar.store (x/4+1+i) y).aI (y/4)=true∧(O.ar.store (x/4+1+i) y).aR (x/4)=true then gB O.ar.nur O.cd (x/4) else O.cd }):=
 if_neg (fun h=>h hc)
theorem oZ {A:Ar} (hk:A.ok) {x i:Int} (h:(A.get x i).2=0):x%4=1∧(A.aw (x/4)).2.2=0∧0≤x/4∧x/4<A.ws.length∧0≤i∧i<(A.aw (x/4)).2.1∧(A.aw (x/4)).1≠5:=by
 unfold Ar.get at h;split at h
 ·simp at h
 ·rename_i h1;split at h
  ·simp at h
  ·rename_i h2;have hc:(A.bG x).2.2.2=0:=Classical.not_not.1 fun e=>h1 (.inl e);obtain ⟨p1,p2,p3,p4,p5⟩:=iG hk hc;rw [gP ⟨p1,p2⟩] at h1 h2;exact ⟨p1,p2,p3,p4,by omega,by dsimp only at h2;omega,fun e=>h1 (.inr e)⟩
theorem tE (x i y:Int) (H:bP w h O) (hy:eQ y) :
  Calls Try.prog 44 #[.pointer (some ⟨h.p,0,none⟩), .int .i64 x, .int .i64 i, .int .i64 y] w fun e w'=>
   e=.returned (.int .i64 (O.set x i y).1)∧gU w h w' (O.set x i y).2:=by
 have HH:=Hz H;have HY:=Hz hy;have pl:=H.hp.lt;have h4:=H.ok.ha.h4;have HN:=Hz (show 0≤(O.ar.nur:Int)∧(O.ar.nur:Int)≤1000000 by have:=H.ok.ha.h1;have:=H.ok.ha.h2;have:=H.ok.ha.h3;omega);by_cases hc:(O.ar.get x i).2=0
 ·have HE:=Hz (Wo.rq (y:=y) hc);obtain ⟨p1,-,p2,p3,p4,p5,-⟩:=oZ H.ok.ha hc;have p6:=(O.ar.iM (x/4)).2;have p7:i<12:=by omega
  have P1:=Hz p1;have HC:=Hz hc;clear H hy hc p1 p5 p6;go_enter Try.func44,Try.ntmps44;go_wp2_with fail;refine (qU x i HH.out).mono ?_;rintro e w1 ⟨rfl,rfl⟩;rw [HC.out];go_wp2_with fail;refine (gT x _ P1.out).mono ?_;rintro e w1 ⟨rfl,rfl⟩;obtain ⟨c0,-,-,-⟩:=HH.out.nN;go_wp2_with fail;refine (rj (x/4+1+i) y _ HH.out.ha HY.out).mono ?_;rintro e w1 ⟨rfl,ht⟩;have HT:=Hz ht.k;have HW:=Hz (HH.out.qT ht (O.ar.iO _ _));have HTO:=Hz (HH.out.rn ht (O.ar.iO _ _));clear c0 pl ht;generalize hA:O.ar.store (x/4+1+i) y=A at *;have HA:=Hz hA;clear hA;obtain ⟨c0,c1,-,-⟩:=HW.out.nN;have pl:=HW.out.hp.lt;by_cases hy4:y%4=1
  ·have HY4:=Hz hy4;cases hyo:A.aI (y/4)
   ·have HF:=Hz (show ¬ (y%4=1∧A.aI (y/4)=true∧A.aR (x/4)=true) by rw [hyo];exact fun h=>by cases h.2.1);clear hy4;go_wp2_with fail;refine (gT y _ HY4.out).mono ?_;rintro e w2 ⟨rfl,rfl⟩;go_wp2_with fail;refine (dV (y/4) _ HW.out.ha).mono ?_;rintro e w2 ⟨rfl,rfl⟩;rw [hyo];go_wp2_with fail;go_ret;refine ⟨by rw [HE.out];rfl,?_⟩;rw [HE.out,if_neg HF.out];exact HTO.out
   ·cases hol:A.aR (x/4)
    ·have HF:=Hz (show ¬ (y%4=1∧A.aI (y/4)=true∧A.aR (x/4)=true) by rw [hol];exact fun h=>by cases h.2.2);clear hy4;go_wp2_with fail;refine (gT y _ HY4.out).mono ?_;rintro e w2 ⟨rfl,rfl⟩;go_wp2_with fail;refine (dV (y/4) _ HW.out.ha).mono ?_;rintro e w2 ⟨rfl,rfl⟩;rw [hyo];go_wp2_with fail;refine (jk (x/4) _ HW.out.ha).mono ?_;rintro e w2 ⟨rfl,rfl⟩;rw [hol];go_wp2_with fail;go_ret;refine ⟨by rw [HE.out];rfl,?_⟩;rw [HE.out,if_neg HF.out];exact HTO.out
    ·have HF:=Hz (show (y%4=1∧A.aI (y/4)=true∧A.aR (x/4)=true) from ⟨hy4,hyo,hol⟩);clear hy4;go_wp2_with fail;refine (gT y _ HY4.out).mono ?_;rintro e w2 ⟨rfl,rfl⟩;go_wp2_with fail;refine (dV (y/4) _ HW.out.ha).mono ?_;rintro e w2 ⟨rfl,rfl⟩;rw [hyo];go_wp2_with fail;refine (jk (x/4) _ HW.out.ha).mono ?_;rintro e w2 ⟨rfl,rfl⟩;rw [hol];go_wp2_with fail;have hcc:=HW.out.hc;have hcl:=HW.out.ok.hc;have hnn:A.nur=O.ar.nur:=by rw [←HA.out];exact O.ar.iO _ _
     refine (r9 h.pc h.cb A.nur (x/4) O.cd _ hcc (by rw [hnn];exact HN.out.1) (by rw [hnn];exact HN.out.2) (by omega) (by omega) (by simpa using Nat.le_trans hcl (by decide))).mono ?_;rintro e w2 ⟨rfl,hc2,hk2⟩;have HTO2:=Hz (show gU w h w2 { O with ar:=A,cd:=gB O.ar.nur O.cd (x/4) } by
      have:=HW.out.cards hc2 (by rw [lJ];exact hcl) hk2;refine ⟨h,?_,rfl,(HT.out.mono (fun k _ hk=>.inr (.inl hk))).then hk2 (fun k hk=>.inl (by subst hk;exact .inr (.inr (.inl (.inr rfl))))),fun k hk=>.inl hk⟩;rw [hnn] at this
      exact this)
     clear hcc hcl hnn hc2 hk2;go_wp2_with fail;go_ret;refine ⟨by rw [HE.out];rfl,?_⟩;rw [HE.out,if_pos HF.out];exact HTO2.out
  ·have HY4:=Hz hy4;have HF:=Hz (show ¬ (y%4=1∧A.aI (y/4)=true∧A.aR (x/4)=true) from fun h=>hy4 h.1);clear hy4;go_wp2_with fail;refine (qS y _ HY4.out).mono ?_;rintro e w2 ⟨rfl,rfl⟩;go_wp2_with fail;go_ret;refine ⟨by rw [HE.out];rfl,?_⟩;rw [HE.out,if_neg HF.out];exact HTO.out
 ·have HE:=Hz (Wo.sg (y:=y) hc);have HTC:=Hz (qU x i H);obtain ⟨⟨a,c⟩,hT⟩:∃ t,O.ar.get x i=t:=⟨_,rfl⟩;rw [hT] at hc HE HTC;dsimp only at hc HE HTC;have hcb:(c != 0)=true:=by simpa using hc
  clear H hc hT;go_enter Try.func44,Try.ntmps44;go_wp2_with fail;refine HTC.out.mono ?_;rintro e w1 ⟨rfl,rfl⟩;go_wp2_with fail;go_ret;refine ⟨by rw [HE.out];rfl,?_⟩;rw [HE.out];exact gU.same HH.out (aa.refl _ _)
end
def rr (w:World) (n o:Int) (e:Ending) (w':World):Prop:=
 ∃ h,e=.returned (.tuple #[.pointer (some ⟨h.p,0,none⟩), .agg #[.int .i64 0, .int .i64 0]])∧bP w' h (Wo.new n o)∧aa (fun _=>False) w w'∧∀ k,h.Own k→w.heap.size≤k
theorem Wo.fW {n o:Int} (h:Ar.fits n o=true):(Wo.new n o).ok:=by
 have h':=h;simp [Ar.fits] at h';refine ⟨Ar.fW h,by simp [Wo.new],fun x hx=>?_,fun e he=>by simp [Wo.new] at he,fun e he=>by simp [Wo.new] at he,by simp [Wo.new],?_⟩
 ·simp [Wo.new] at hx;subst hx;unfold eQ;omega
 ·simp [Wo.new,eN];omega
structure il (w:World) (h:WH) (n o:Int) (wr:World) (k:Nat) (v:Value):Prop where
 hp:ah wr h.p [.pointer (some ⟨h.pa,0,none⟩), .pointer (some ⟨h.pc,0,none⟩), .pointer (some ⟨h.ps,0,none⟩),v] 65
 ha:bR wr h.pa h.g (Ar.new n o)
 hc:cD wr h.pc h.cb n (List.replicate (eN o) false)
 hs:ct wr h.ps (.slice none 0 0) (.slice none 0 0) [] []
 hr:Sl wr 2 1 v k (List.replicate k (.int .i64 2))
 hk:aa (fun _=>False) w wr
 o1:w.heap.size≤h.p
 o2:w.heap.size≤h.pa
 o3:w.heap.size≤h.g
 o4:w.heap.size≤h.pc
 o5:w.heap.size≤h.cb
 o6:w.heap.size≤h.ps
 o7:∀ b,ag v b→w.heap.size≤b
 ap:¬ ag v h.g
 hz:ah wr w.heap.size [.int .i64 0, .int .i64 0] 26
theorem il.app {w wr wa w2:World} {h:WH} {n o:Int} {k:Nat} {v v2:Value} (H:il w h n o wr k v) (ka:aa (fun _=>False) wr wa) (hs2:Sl w2 2 1 v2 (k+1) (List.replicate k (.int .i64 2) ++ [.int .i64 2])) (hk2:aa (ag v) wa w2) (ho2:∀ b,ag v2 b→ag v b∨wa.heap.size≤b) :
  il w h n o (w2.setCell ⟨h.p,3,none⟩ v2) (k+1) v2:=by
 have own:=fun b (hb:ag v b)=>(H.hr.ae ka (fun _ _ h=>h)).own hb;have ne1:∀ {b:Nat} {c:List Value} {T:TypeId},ah wr b c T→T≠2→¬ ag v b:=fun hb hT hv=>by
  obtain ⟨_,c',hc⟩:=own _ hv;exact (ka.ai hb (fun h=>h)).ne hc hT rfl
 have lt1:∀ {b:Nat} {c:List Value} {T:TypeId},ah wr b c T→b<wa.heap.size:=fun hb=>(ka.ai hb (fun h=>h)).lt;have k2:=(ka.mono (T:=ag v) (fun _ _ h=>h.elim)).trans hk2;have hsz:=H.hk.size;have hpl:=H.hp.lt;have kc:=fun {S:Nat→Prop} (k:aa S wr w2)=>k;have hp2:=k2.ai H.hp (ne1 H.hp (by decide));have set:=(aa.refl (·=h.p) w2).setCell (p:=⟨h.p,3,none⟩) (.inl rfl) v2;have nep:∀ {b:Nat} {c:List Value} {T:TypeId},ah w2 b c T→T≠65→¬ b=h.p:=fun hb hT=>hb.ne hp2 hT;have ha2:=H.ha.ae k2 (ne1 H.ha.hp (by decide)) H.ap;have hc2:=H.hc.ae k2 (ne1 H.hc.hp (by decide)) (ne1 H.hc.hq (by decide));have fsd:∀ b,aU h.ps (.slice none 0 0) (.slice none 0 0) b→b=h.ps:=fun b hb=>by
  rcases hb with h | h | h
  ·exact h
  ·exact (bJ h).elim
  ·exact (bJ h).elim
 have hs3:=H.hs.ae k2 (fun b hb=>by rw [fsd b hb];exact ne1 H.hs.hp (by decide));refine ⟨by simpa using hp2.aF 3 v2,ha2.ae set (nep ha2.hp (by decide)) (nep ha2.hg (by decide)),hc2.ae set (nep hc2.hp (by decide)) (nep hc2.hq (by decide)),hs3.ae set (fun b hb=>by rw [fsd b hb];exact nep hs3.hp (by decide)),?_,?_,H.o1,H.o2,H.o3,H.o4,H.o5,H.o6,?_,?_,?_⟩
 ·rw [←List.replicate_succ'] at hs2;exact hs2.ae set (fun b hb e=>by
   obtain ⟨_,c',hc⟩:=hs2.own hb
   exact nep hc (by decide) e)
 ·exact (H.hk.then k2 (fun b hb=>.inr (H.o7 b hb))).setCell (.inr H.o1) _
 ·intro b hb;rcases ho2 b hb with h1 | h1
  ·exact H.o7 b h1
  ·have:=ka.size;omega
 ·intro hb;rcases ho2 _ hb with h1 | h1
  ·exact H.ap h1
  ·have:=lt1 H.ha.hg;omega
 ·have hz2:=k2.ai H.hz (ne1 H.hz (by decide));exact set.ai hz2 (nep hz2 (by decide))
theorem il.done {w wr:World} {h:WH} {n o:Int} {v:Value} (H:il w h n o wr 12 v) (hf:Ar.fits n o=true):bP wr { h with ro:=v,rv:=.slice none 0 0,wv:=.slice none 0 0 } (Wo.new n o) ∧
  ∀ k,({ h with ro:=v,rv:=.slice none 0 0,wv:=.slice none 0 0 }:WH).Own k→w.heap.size≤k:=by
 have hn:((Ar.new n o).nur:Int)=n:=by simp [Ar.fits] at hf;simp [Ar.new];omega
 refine ⟨⟨H.hp,H.ha,?_,H.hs,?_,H.ap,Wo.fW hf⟩,?_⟩
 ·show cD wr h.pc h.cb ((Ar.new n o).nur:Int) _
  rw [hn];exact H.hc
 ·have e:(Wo.new n o).rt=List.replicate 12 2:=rfl;rw [e];simpa using H.hr
 ·rintro k (rfl | (rfl | rfl) | (rfl | rfl) | (rfl | h1 | h1) | h1)
  ·exact H.o1
  ·exact H.o2
  ·exact H.o3
  ·exact H.o4
  ·exact H.o5
  ·exact H.o6
  ·exact (bJ h1).elim
  ·exact (bJ h1).elim
  ·exact H.o7 k h1
theorem ru (n o:Int) (w:World) (h:Ar.fits n o=false) :
  Calls Try.prog 42 #[.int .i64 n, .int .i64 o] w fun e w'=>e=.returned (.tuple #[.pointer none, .agg #[.int .i64 1, .int .i64 (-1)]])∧aa (fun _=>False) w w':=by
 go_enter Try.func42,Try.ntmps42;go_wp2_with fail;refine (rk n o _ h).mono ?_;rintro e w1 ⟨rfl,hk⟩;have HK:=Hz (((Kz w).alloc (.cells #[.int .i64 0, .int .i64 0] 26)).trans hk);go_wp2_with fail;have HB:=Hz (ah.newAt (w:=w1) (b:=w1.heap.size) (T:=26) #[.int .i64 1, .int .i64 (-1)] rfl rfl);have h0:=HB.out.cell 0;have h1:=HB.out.cell 1;have hl:=HB.out.lt;have k0:ah (w.alloc (.cells #[.int .i64 0, .int .i64 0] 26)) w.heap.size [.int .i64 0, .int .i64 0] 26:=ah.newAt _ rfl rfl;have k1:=(hk.ai k0 (fun h=>h)).alloc (.cells #[.int .i64 1, .int .i64 (-1)] 26);have l0:=k1.cell 0;have l1:=k1.cell 1;have ll:=k1.lt;have f0:=k1.free 0;have f1:=k1.free 1;simp only [Lz,Ls] at h0 h1 l0 l1;have HKA:=Hz (HK.out.alloc (.cells #[.int .i64 1, .int .i64 (-1)] 26));clear hk k0 k1;generalize w1.alloc (.cells #[.int .i64 1, .int .i64 (-1)] 26)=wa at *;refine aq (.free 1 (.pure 0 (.run 2 (.swi [] (.fin))))) [2] (fun w'=>w'.cell? ⟨w1.heap.size,0,none⟩=some (.int .i64 1)∧w'.cell? ⟨w1.heap.size,1,none⟩=some (.int .i64 (-1))) (by kernel_rfl) (by kernel_rfl) ⟨h0,h1⟩ ?_
 iterate 2 ((first | refine ak rfl rfl fun K hK=>?_ | refine aj rfl rfl fun K hK=>?_ | refine ay rfl rfl fun K hK=>?_ | refine av rfl rfl fun K hK=>?_ | refine ax rfl rfl fun K hK=>?_);go_simp;refine hK _ ?_;clear hK K)
 refine aG rfl rfl rfl (fun K hK=>?_);unfold aM;go_simp;refine hK _ _ ?_;clear hK K;refine aE (fun _=>True) trivial (aA ?_);go_wp2_with fail;refine bodyPost_ret (v:=.tuple #[.pointer none, .agg #[.int .i64 1, .int .i64 (-1)]]) (by simp [results,Try.results42,go_sem,l0,l1]) rfl ⟨rfl,(HKA.out.drew.setCell (p:=⟨w.heap.size,0,none⟩) (.inr (Nat.le_refl _)) _).setCell (p:=⟨w.heap.size,1,none⟩) (.inr (Nat.le_refl _)) _⟩
theorem pY (n o:Int) (w:World) (h:Ar.fits n o=true) :
  Calls Try.prog 42 #[.int .i64 n, .int .i64 o] w fun e w'=>rr w n o e w':=by
 have HF:=Hz h;have ho:o≤1000000∧-9223372036854775808≤o:=by simp [Ar.fits] at h;omega
 obtain ⟨i0,hi,hz0,hz1,hz2⟩:=info_parts lW;have Hi:=Hz hi;have Hz0:=Hz hz0;have Hz1:=Hz hz1;have Hz2:=Hz hz2;clear hi hz0 hz1 hz2;clear h;go_enter Try.func42,Try.ntmps42;go_wp2_with fail;refine (pV n o _ HF.out).mono ?_;rintro e w1 ⟨pa,g,rfl,hA,hk,hpa,hg⟩;have HA:=Hz hA;have HK:=Hz (((Kz w).alloc (.cells #[.int .i64 0, .int .i64 0] 26)).trans hk);have HZ:=Hz (hk.ai (show ah (w.alloc (.cells #[.int .i64 0, .int .i64 0] 26)) w.heap.size [.int .i64 0, .int .i64 0] 26 from ah.newAt _ rfl rfl) (fun h=>h));have hsz:=hk.size;simp at hsz hpa hg;have HPA:=Hz hpa;have HG:=Hz hg;clear hA hk hpa hg;go_wp2_with fail;refine (sM n o _ ho.1 ho.2).mono ?_;rintro e w2 ⟨rfl,hC,hz,hk⟩;have hka:=(Kz w1).alloc (.cells #[.int .i64 0, .int .i64 0] 26);have HC:=Hz hC;have HK2:=Hz (HK.out.trans (hka.trans hk));have HA2:=Hz (HA.out.ae (hka.trans hk) (fun h=>h) (fun h=>h));have HZ2:=Hz ((hka.trans hk).ai HZ.out (fun h=>h));have hsz2:=hk.size;simp at hsz2;clear hC hk hz hka;go_wp2_with fail;have HN:=Hz (show il w ⟨w2.heap.size+1,pa,g,w1.heap.size+1+1,w1.heap.size+1,w2.heap.size, .slice none 0 0, .slice none 0 0, .slice none 0 0⟩ n o ((w2.alloc (.cells #[.slice none 0 0, .slice none 0 0] 129)).alloc (.cells #[.pointer (some ⟨pa,0,none⟩), .pointer (some ⟨w1.heap.size+1+1,0,none⟩), .pointer (some ⟨w2.heap.size,0,none⟩), .slice none 0 0] 65)) 0 (.slice none 0 0) by
  have k1:=(Kz w2).alloc (.cells #[.slice none 0 0, .slice none 0 0] 129);have k2:=(Kz (w2.alloc (.cells #[.slice none 0 0, .slice none 0 0] 129))).alloc (.cells #[.pointer (some ⟨pa,0,none⟩), .pointer (some ⟨w1.heap.size+1+1,0,none⟩), .pointer (some ⟨w2.heap.size,0,none⟩), .slice none 0 0] 65);have k12:=k1.trans k2;have hc:=HC.out;simp only [World.size_alloc] at hc;have s0:w.heap.size≤w1.heap.size:=by omega
  refine ⟨ah.newAt _ (by simp) rfl,HA2.out.ae k12 (fun h=>h) (fun h=>h),hc.ae k12 (fun h=>h) (fun h=>h),?_,Sl.nil _ _ _,HK2.out.trans k12,?_,?_,?_,?_,?_,?_,fun b hb=>(bJ hb).elim,fun hb=>bJ hb,k12.ai HZ2.out (fun h=>h)⟩
  ·refine ⟨(ah.newAt _ rfl rfl).alloc _,Sl.nil _ _ _,Sl.nil _ _ _,fun k hk=>bJ hk.1⟩
  all_goals (have h1:=HPA.out;have h2:=HG.out;dsimp only;omega))
 clear HC HK2 HA2;generalize (w2.alloc (.cells #[.slice none 0 0, .slice none 0 0] 129)).alloc (.cells #[.pointer (some ⟨pa,0,none⟩), .pointer (some ⟨w1.heap.size+1+1,0,none⟩), .pointer (some ⟨w2.heap.size,0,none⟩), .slice none 0 0] 65)=wb at *;go_loopw [27] (fun i wr=>∃ (k:Nat) (v:Value),k≤12∧i=.int .i64 k∧il w ⟨w2.heap.size+1,pa,g,w1.heap.size+1+1,w1.heap.size+1,w2.heap.size, .slice none 0 0, .slice none 0 0, .slice none 0 0⟩ n o wr k v) (fun i _=>12-(intOf i).toNat)
 case atStart=>exact ⟨0,_,Nat.zero_le _,rfl,HN.out⟩
 case round=>
  clear HN;obtain ⟨k,v,hk,rfl,hI⟩:=hrel;have HI:=Hz hI;clear hI;by_cases hlt:k<12
  ·have c3:=HI.out.hp.cell 3;have pl:=HI.out.hp.lt;have f3:=HI.out.hp.free 3;simp only [Lz,Ls] at c3;obtain ⟨ao,cap,rfl,-,-,-⟩:=HI.out.hr.rd;go_wp2_with fail;refine aq (.free 0 (.free 1 (.free 2 (.free 3 (.pure 4 (.run 5 (.run 6 (.run 7 (.swi [10] (.free 8 (.free 9 (.run 10 (.swi [] (.fin)))))))))))))) [7,8,9,10] (fun w'=>w'.cell? ⟨w2.heap.size+1,3,none⟩=some (.slice ao k cap)) (by kernel_rfl) (by kernel_rfl) c3 ?_
   iterate 5 ((first | refine ak rfl rfl fun K hK=>?_ | refine aj rfl rfl fun K hK=>?_ | refine ay rfl rfl fun K hK=>?_ | refine av rfl rfl fun K hK=>?_ | refine ax rfl rfl fun K hK=>?_);go_simp;refine hK _ ?_;clear hK K)
   refine aZ rfl rfl (fun K hK=>?_);unfold aM;go_simp;refine (sN _).mono ?_;rintro e w3 ⟨rfl,rfl⟩;refine hK _ _ (fun h=>h) ?_;clear hK K;refine aZ rfl rfl (fun K hK=>?_);unfold aM;go_simp;have hkb:aa (fun _=>False) wr ((wr.drew).alloc (.cells #[.int .i64 2] 2)):=(Kz wr).drew.alloc (.cells #[.int .i64 2] 2);refine hK _ _ (fun _=>(hkb.ai HI.out.hp (fun h=>h)).cell 3) ?_;clear hK K;refine aG rfl rfl rfl (fun K hK=>?_);refine cy (.tmp 33) (.tmp 35) 22 rfl 2 i0 (.int .i64 0) 1 8 Try.underlying22 Hi.out Hz0.out Hz1.out Hz2.out rfl (by decide) _ k (List.replicate k (.int .i64 2)) rfl (HI.out.hr.ae hkb (fun _ _ h=>h)) ⟨wr.heap.size,0,none⟩ 1 1 [.int .i64 2] rfl rfl (bq wr.drew 2 #[.int .i64 2]) (by intro u hu;simp at hu;subst hu;rfl) (by unfold maxLen;omega) (by omega) ?_;intro v3 w3 hs3 hk3 ho3;have HI3:=Hz (HI.out.app hkb hs3 hk3 ho3);have hp3:=hk3.ai (hkb.ai HI.out.hp (fun h=>h)) (fun hv=>by obtain ⟨_,c',hc⟩:=(HI.out.hr.ae hkb (fun _ _ h=>h)).own hv;exact (hkb.ai HI.out.hp (fun h=>h)).ne hc (by decide) rfl);have x0:=hp3.cell 3;have xf:=hp3.free 3;have xl:=hp3.lt;simp only [Lz,Ls] at x0;refine hK _ _ ?_;clear hK K hkb hs3 hk3 ho3 hp3 c3 pl f3;refine aE (fun _=>True) trivial ?_;obtain ⟨vo3,vc3,rfl,-,-,-⟩:=HI3.out.hr.rd
   iterate 2 ((first | refine ak rfl rfl fun K hK=>?_ | refine aj rfl rfl fun K hK=>?_);go_simp;refine hK _ ?_;clear hK K)
   refine aG rfl rfl rfl (fun K hK=>?_);unfold aM;go_simp;refine hK _ _ ?_;clear hK K;refine aE (fun _=>True) trivial (aA ?_);clear x0 xf xl;go_wp2_with fail;go_roundw
   case rel=>exact ⟨k+1,_,by omega,by go_num,HI3.out⟩
   case measure=>simp [intOf];omega
  ·obtain rfl:k=12:=by omega
   have z0:=HI.out.hz.cell 0;have z1:=HI.out.hz.cell 1;have zl:=HI.out.hz.lt;have zf:=HI.out.hz.free 0;have zg:=HI.out.hz.free 1;simp only [Lz,Ls] at z0 z1;have HD:=Hz (HI.out.done HF.out);have HKI:=Hz HI.out.hk;go_wp2_with fail;refine bodyPost_ret (v:=.tuple #[.pointer (some ⟨w2.heap.size+1,0,none⟩), .agg #[.int .i64 0, .int .i64 0]]) (by simp [results,Try.results42,go_sem,z0,z1]) rfl ⟨_,rfl,?_,(HKI.out.setCell (p:=⟨w.heap.size,0,none⟩) (.inr (Nat.le_refl _)) _).setCell (p:=⟨w.heap.size,1,none⟩) (.inr (Nat.le_refl _)) _,HD.out.2⟩;have hD:=HD.out.1;have ke:=((aa.refl (·=w.heap.size) wr).setCell (p:=⟨w.heap.size,0,none⟩) (.inl rfl) (.int .i64 0)).setCell (p:=⟨w.heap.size,1,none⟩) (.inl rfl) (.int .i64 0);exact hD.ae ke (fun b hb e=>by
    subst e;have hzz:=HI.out.hz;rcases hb with e | (e | e) | (e | e) | e | e
    ·exact hzz.ne hD.hp (by decide) e
    ·exact hzz.ne hD.ha.hp (by decide) e
    ·exact hzz.ne hD.ha.hg (by decide) e
    ·exact hzz.ne hD.hc.hp (by decide) e
    ·exact hzz.ne hD.hc.hq (by decide) e
    ·exact hD.rm hzz (by decide) (by decide) e
    ·exact hD.nM hzz (by decide) e)
end
section
open Go.RowKit
def bp {α:Type} (c:Nat) (R:α→List Value→Prop):List α→List Value→Prop
 | [],cs=>cs=[]
 | a :: l,cs=>∃ r rest,cs=r ++ rest∧r.length=c∧R a r∧bp c R l rest
section
variable {α:Type} {c:Nat} {R Q:α→List Value→Prop}
theorem bp.length:∀ {l:List α} {cs:List Value},bp c R l cs→cs.length=l.length*c
 | [],cs,h=>by cases h;simp
 | a :: l,cs,h=>by
  obtain ⟨r,rest,rfl,h1,_,h2⟩:=h;rw [List.length_append,h1,bp.length h2,List.length_cons,Nat.succ_mul];omega
theorem bp.mono {l:List α} (hq:∀ a ∈ l, ∀ r,R a r→Q a r):∀ {cs:List Value},bp c R l cs→bp c Q l cs:=by
 induction l with
 | nil=>intro cs h;exact h
 | cons a l ih=>
  intro cs h;obtain ⟨r,rest,rfl,h1,h2,h3⟩:=h;exact ⟨r,rest,rfl,h1,hq a (by simp) r h2,ih (fun b hb=>hq b (by simp [hb])) h3⟩
theorem bp.app:∀ {l:List α} {cs:List Value} {a:α} {r:List Value},bp c R l cs→r.length=c→R a r→bp c R (l ++ [a]) (cs ++ r)
 | [],cs,a,r,h,h1,h2=>by cases h;exact ⟨r,[],by simp,h1,h2,rfl⟩
 | b :: l,cs,a,r,h,h1,h2=>by
  obtain ⟨r',rest,rfl,h3,h4,h5⟩:=h;exact ⟨r',rest ++ r,by simp,h3,h4,bp.app h5 h1 h2⟩
theorem bp.get:∀ {l:List α} {cs:List Value} {i:Nat} (h:i<l.length),bp c R l cs→∃ r,(cs.drop (i*c)).take c=r∧r.length=c∧R l[i] r
 | a :: l,cs,0,_,h=>by
  obtain ⟨r,rest,rfl,h1,h2,_⟩:=h;exact ⟨r,by simp [←h1],h1,h2⟩
 | a :: l,cs,i+1,hi,h=>by
  obtain ⟨r,rest,rfl,h1,_,h2⟩:=h;obtain ⟨r',e,h3,h4⟩:=bp.get (i:=i) (by simpa using hi) h2;refine ⟨r',?_,h3,h4⟩;rw [←e,Nat.succ_mul,Nat.add_comm,←h1,←List.drop_drop,List.drop_left]
theorem bp.cell {l:List α} {cs:List Value} {i:Nat} (h:i<l.length) (hr:bp c R l cs):∃ r,r.length=c∧R l[i] r∧∀ j,j<c→cs[i*c+j]? = r[j]? := by
 obtain ⟨r,e,h1,h2⟩:=bp.get h hr;refine ⟨r,h1,h2,fun j hj=>?_⟩;rw [←e,List.getElem?_take,if_pos hj,List.getElem?_drop]
theorem bp.set:∀ {l:List α} {cs:List Value} {i:Nat} {a:α} {r:List Value} (_:i<l.length),bp c R l cs→r.length=c→R a r →
  bp c R (l.set i a) (cs.take (i*c) ++ r ++ cs.drop (i*c+c))
 | b :: l,cs,0,a,r,_,h,h1,h2=>by
  obtain ⟨r',rest,rfl,h3,_,h5⟩:=h;refine ⟨r,rest,?_,h1,h2,h5⟩;simp [←h3]
 | b :: l,cs,i+1,a,r,hi,h,h1,h2=>by
  obtain ⟨r',rest,rfl,h3,h4,h5⟩:=h;refine ⟨r',_,?_,h3,h4,bp.set (i:=i) (by simpa using hi) h5 h1 h2⟩;have e:(i+1)*c=r'.length+i*c:=by rw [Nat.succ_mul,h3];omega
  rw [e,List.take_append,List.take_of_length_le (by omega),show r'.length+i*c-r'.length=i*c by omega,show r'.length+i*c+c=r'.length+(i*c+c) by omega,←List.drop_drop,List.drop_left];simp
theorem bp.setCell {l:List α} {cs:List Value} {i j:Nat} {a:α} {u:Value} (h:i<l.length) (hj:j<c) (hr:bp c R l cs) (hR:∀ r,r.length=c→R l[i] r→R a (r.set j u)) :
  bp c R (l.set i a) (cs.set (i*c+j) u):=by
 obtain ⟨r,e,h1,h2⟩:=bp.get h hr;have hlen:=bp.length hr;have hm:i*c+c≤l.length*c:=by rw [←Nat.succ_mul];exact Nat.mul_le_mul_right _ h
 have:=bp.set (a:=a) (r:=r.set j u) h hr (by simpa using h1) (hR r h1 h2);have e2:cs.set (i*c+j) u=cs.take (i*c) ++ r.set j u ++ cs.drop (i*c+c):=by
  apply List.ext_getElem?;intro k;rw [List.getElem?_set];by_cases k1:k<i*c
  ·rw [if_neg (by omega),List.append_assoc,List.getElem?_append_left (by simp;omega),List.getElem?_take,if_pos k1]
  ·by_cases k2:k<i*c+c
   ·rw [List.append_assoc,List.getElem?_append_right (by simp;omega),List.length_take,List.getElem?_append_left (by simp;omega),List.getElem?_set,Nat.min_eq_left (by omega)];by_cases e3:i*c+j=k
    ·rw [if_pos e3,if_pos (by omega),if_pos (by omega),if_pos (by omega)]
    ·rw [if_neg e3,if_neg (by omega),←e,List.getElem?_take,if_pos (by omega),List.getElem?_drop];congr 1;omega
   ·rw [if_neg (by omega),List.getElem?_append_right (by simp;omega),List.getElem?_drop];congr 1;simp;omega
 rw [e2];exact this
end
end
section
open Go.RowKit Go.Maps
theorem Rd.int64 {w:World} {ao:Option Addr} {l:List Int} (h:Rd w ao (l.map (Value.int .i64))) (i:Nat) (hi:i<l.length) :
  ∃ g o,ao=some ⟨g,o,none⟩∧g<w.heap.size∧w.cell? ⟨g,o+i,none⟩=some (.int .i64 (l.getD i 0)):=by
 obtain ⟨g,o,rfl,hg,hc⟩:=h (by intro e;simp at e;subst e;simp at hi);refine ⟨g,o,rfl,hg,?_⟩;rw [hc i (by simpa using hi)];simp [List.getD,hi]
theorem Sl.set {w:World} {e size:Nat} {g o n cap j:Nat} {xs:List Value} {u:Value} (h:Sl w e size (.slice (some ⟨g,o,none⟩) n cap) n xs) (hj:j<n*size) :
  Sl (w.setCell ⟨g,o+j,none⟩ u) e size (.slice (some ⟨g,o,none⟩) n cap) n (xs.set j u):=by
 obtain ⟨hl,⟨h1,_⟩ | ⟨g',o',cap',cur,e1,hb,h1,h2,h3,h4⟩⟩:=h
 ·cases h1
 ·cases e1;refine ⟨by simpa using hl, .inr ⟨g,o,cap,_,rfl,hb.aF _ _,h1,h2,by simpa using h3,?_⟩⟩;rw [←h4];apply List.ext_getElem?;intro k;simp only [List.getElem?_take,List.getElem?_drop,List.getElem?_set,List.length_take,List.length_drop];by_cases hk:k<n*size
  ·rw [if_pos hk,if_pos hk];by_cases e:j=k
   ·subst e;have:n*size≤cap*size:=Nat.mul_le_mul_right _ h1;rw [if_pos rfl,if_pos rfl,if_pos (by omega),if_pos (by omega)]
   ·rw [if_neg (by omega),if_neg e]
  ·rw [if_neg hk,if_neg (by omega)];rw [if_neg hk]
def dc (w:World) (F:Nat→Prop) (nd:Nd) (r:List Value):Prop:=
 ∃ ao cap,r=[.int .i64 nd.1, .slice ao nd.2.length cap]∧Rd w ao (au nd.2)∧(∀ a,ao=some a→F a.block)∧nd.2.length≤maxLen
theorem dc.ae {w w':World} {F S:Nat→Prop} {nd:Nd} {r:List Value} (h:dc w F nd r) (k:aa S w w') (hn:∀ b,F b→b<w.heap.size→¬ S b):dc w' F nd r:=by
 obtain ⟨ao,cap,e,hr,hf,hc⟩:=h;exact ⟨ao,cap,e,hr.ae k (fun a ha hb=>hn _ (hf a ha) hb),hf,hc⟩
theorem dc.more {w:World} {F F':Nat→Prop} {nd:Nd} {r:List Value} (h:dc w F nd r) (hF:∀ b,F b→F' b):dc w F' nd r:=by
 obtain ⟨ao,cap,e,hr,hf,hc⟩:=h;exact ⟨ao,cap,e,hr,fun a ha=>hF _ (hf a ha),hc⟩
def cz (w:World) (nv:Value) (F:Nat→Prop) (l:List Nd):Prop:=∃ cs,Sl w 83 2 nv l.length cs∧bp 2 (dc w F) l cs
theorem cz.ae {w w':World} {F S:Nat→Prop} {nv:Value} {l:List Nd} (h:cz w nv F l) (k:aa S w w') (hn:∀ b,F b→b<w.heap.size→¬ S b) (hv:∀ b,ag nv b→¬ S b):cz w' nv F l:=by
 obtain ⟨cs,h1,h2⟩:=h;exact ⟨cs,h1.ae k hv,h2.mono (fun a _ r hr=>hr.ae k hn)⟩
theorem cz.nil (w:World) (F:Nat→Prop):cz w (.slice none 0 0) F []:=⟨[],Sl.nil _ _ _,rfl⟩
end
section
open Go.RowKit Go.Maps
section
variable {w w':World} {h:WH} {O:Wo}
theorem cz.own {F:Nat→Prop} {nv:Value} {l:List Nd} (h:cz w nv F l) {k:Nat} (hk:ag nv k):k<w.heap.size∧∃ c,ah w k c 83:=by
 obtain ⟨cs,hs,_⟩:=h;exact hs.own hk
variable {q b:Nat} {rv nv:Value} {F:Nat→Prop} {s:VS}
end
end
section
open Go.RowKit Go.Maps
theorem bB {T:TypeId} {z:Option Value} {s b:Nat} (h:(Try.prog.info? T).map (fun i=>(i.zero,i.size,i.bytes))=some (z,s,b)):∃ i,Try.prog.info? T=some i∧i.zero=z∧i.size=s∧i.bytes=b:=by
 cases hx:Try.prog.info? T with
 | none=>rw [hx] at h;cases h
 | some i=>rw [hx] at h;simp at h;exact ⟨i,rfl,h.1,h.2.1,h.2.2⟩
theorem kU:(Try.prog.info? 83).map (fun i=>(i.zero,i.size,i.bytes))=some (some (.agg #[.int .i64 0, .slice none 0 0]),2,32):=by kernel_rfl
theorem du:(Try.prog.info? 78).map (fun i=>(i.zero,i.size,i.bytes))=some (some (.agg #[.int .i64 0, .int .i64 0]),2,16):=by kernel_rfl
section
variable {h:WH} {O:Wo} {q b:Nat} {rv:Value}
def NS (G:Gr) (n:Nat) (x:Int) (s:VS) (j:Nat):List Vl × VS:=fldM (valM G n) ((G x).2.take j) (s.1 ++ [x],s.2 ++ [((G x).1,[])])
theorem m7 (G:Gr) (n:Nat) (x:Int) (s:VS):NS G n x s 0=([],(s.1 ++ [x],s.2 ++ [((G x).1,[])])):=rfl
theorem jl (G:Gr) (n:Nat) (x:Int) (s:VS) {j:Nat} {v:Vl} (h:(G x).2[j]? = some v):NS G n x s (j+1)=((NS G n x s j).1 ++ [(valM G n v (NS G n x s j).2).1],(valM G n v (NS G n x s j).2).2):=by
 unfold NS;rw [List.take_add_one,h,Option.toList_some,jJ]
 rfl
theorem kg (G:Gr) (n:Nat) (x:Int) (s:VS) {j:Nat} (h:j≤(G x).2.length):(NS G n x s j).1.length=j:=by
 unfold NS;rw [jK,List.length_take];omega
theorem m8 (G:Gr) (n:Nat) (x:Int) (s:VS) (j:Nat) (hl:s.2.length=s.1.length):(NS G n x s j).2.2[s.1.length]? = some ((G x).1,[]):=by
 unfold NS;rw [ij (fK G n) (ig G n) (nL G n) _ _ (by simp [hl]) s.1.length (by simp)];simp [←hl]
end
end
section
open Go.RowKit Go.Maps
section
variable {h:WH} {O:Wo} {q b:Nat} {rv:Value}
def gE (w:World) (lo:Nat) (v:Value) (V:List Vl × List Nd):Prop:=
 ∃ ro rc no nc F,v=.agg #[.slice ro V.1.length rc, .slice no V.2.length nc]∧Sl w 78 2 (.slice ro V.1.length rc) V.1.length (au V.1)∧cz w (.slice no V.2.length nc) F V.2 ∧
  ∀ k,(F k∨ag (.slice ro V.1.length rc) k∨ag (.slice no V.2.length nc) k)→lo≤k∧k<w.heap.size
theorem gE.ae {w w':World} {S:Nat→Prop} {lo:Nat} {v:Value} {V:List Vl × List Nd} (H:gE w lo v V) (k:aa S w w') (hn:∀ j,lo≤j→j<w.heap.size→¬ S j):gE w' lo v V:=by
 obtain ⟨ro,rc,no,nc,F,e,h1,h2,h3⟩:=H;refine ⟨ro,rc,no,nc,F,e,h1.ae k (fun j hj=>?_),h2.ae k (fun j hj _=>?_) (fun j hj=>?_),fun j hj=>⟨(h3 j hj).1,Nat.lt_of_lt_of_le (h3 j hj).2 k.size⟩⟩
 ·have:=h3 j (.inr (.inl hj));exact hn j this.1 this.2
 ·have:=h3 j (.inl hj);exact hn j this.1 this.2
 ·have:=h3 j (.inr (.inr hj));exact hn j this.1 this.2
def TS (O:Wo) (k:Nat):List Vl × VS:=fldM (valM O.gr 5000) ((O.rt.map pW).take k) ([],[])
def kF (w:World) (V:List Vl × List Nd) (e:Ending) (w':World):Prop:=∃ v,e=.returned v∧gE w' w.heap.size v V∧aa (fun _=>False) w w'
end
end
section
open Go.RowKit
theorem Rd.val {w:World} {ao:Option Addr} {l:List Vl} (h:Rd w ao (au l)) (i:Nat) (hi:i<l.length) :
  ∃ g o,ao=some ⟨g,o,none⟩∧g<w.heap.size∧w.cell? ⟨g,o+i*2,none⟩=some (.int .i64 (l.getD i (0,0)).1)∧w.cell? ⟨g,o+i*2+1,none⟩=some (.int .i64 (l.getD i (0,0)).2):=by
 have hlen:(au l).length=l.length*2:=a7 l;obtain ⟨g,o,rfl,hg,hc⟩:=h (by intro e;rw [e] at hlen;simp at hlen;omega);have h1:=jD l i hi;refine ⟨g,o,rfl,hg,?_,?_⟩
 ·rw [hc (i*2) (by rw [hlen];omega)];exact h1.1
 ·rw [Nat.add_assoc,hc (i*2+1) (by rw [hlen];omega)];exact h1.2
theorem iP (a b:Option Addr) (ca cb:Nat) (l:List Vl) (w:World) (h1:Rd w a (au l)) (h2:Rd w b (au l)) (hl:l.length≤1000000) :
  Calls Try.prog 93 #[.slice a l.length ca, .slice b l.length cb] w fun e w'=>e=.returned (.bool true)∧aa (fun _=>False) w w':=by
 have H1:=Hz h1;have H2:=Hz h2;clear h1 h2;go_enter Try.func93,Try.ntmps93;go_wp2_with fail;go_loopw [5] (fun i wr=>∃ k:Nat,k≤l.length∧i=.int .i64 k∧aa (fun _=>False) w wr) (fun i _=>l.length-(intOf i).toNat)
 case atStart=>exact ⟨0,Nat.zero_le _,rfl,aa.refl _ _⟩
 case round=>
  obtain ⟨k,hk,rfl,hkk⟩:=hrel;have HK:=Hz hkk;clear hkk;by_cases hlt:k<l.length
  ·obtain ⟨g,o,rfl,hgl,d0,d1⟩:=(H1.out.ae HK.out (fun _ _ _ h=>h)).val k hlt;obtain ⟨g',o',rfl,hgl',e0,e1⟩:=(H2.out.ae HK.out (fun _ _ _ h=>h)).val k hlt;generalize l.getD k (0,0)=v at *;go_wp2_with fail;refine aq (.free 0 (.free 1 (.free 2 (.free 4 (.free 5 (.free 6 (.pure 3 (.pure 7 (.free 8 (.fin)))))))))) [] (fun w'=>w'.cell? ⟨g,o+k*2,none⟩=some (.int .i64 v.1)∧w'.cell? ⟨g,o+k*2+1,none⟩=some (.int .i64 v.2)∧w'.cell? ⟨g',o' + k*2,none⟩=some (.int .i64 v.1)∧w'.cell? ⟨g',o' + k*2+1,none⟩=some (.int .i64 v.2)) (by kernel_rfl) (by kernel_rfl) ⟨d0,d1,e0,e1⟩ ?_
   iterate 9 ((first | refine ak rfl rfl fun K hK=>?_ | refine aj rfl rfl fun K hK=>?_ | refine ay rfl rfl fun K hK=>?_ | refine av rfl rfl fun K hK=>?_ | refine ax rfl rfl fun K hK=>?_);go_simp;refine hK _ ?_;clear hK K)
   refine aA ?_;go_wp2_with fail;go_roundw
   case rel=>exact ⟨k+1,by omega,by go_num,HK.out.drew⟩
   case measure=>simp [intOf];omega
  ·obtain rfl:k=l.length:=by omega
   go_wp2_with fail;go_ret;exact ⟨rfl,HK.out⟩
theorem cz.nth {w:World} {nv:Value} {F:Nat→Prop} {l:List Nd} (h:cz w nv F l):∃ no nc,nv=.slice no l.length nc∧∀ i,i<l.length→∃ g o ao cap,no=some ⟨g,o,none⟩∧g<w.heap.size∧w.cell? ⟨g,o+i*2,none⟩=some (.int .i64 (l.getD i (0,[])).1) ∧
  w.cell? ⟨g,o+i*2+1,none⟩=some (.slice ao (l.getD i (0,[])).2.length cap)∧Rd w ao (au (l.getD i (0,[])).2)∧(l.getD i (0,[])).2.length≤maxLen:=by
 obtain ⟨cs,hs,hr⟩:=h;obtain ⟨no,nc,rfl,hrd,-,-⟩:=hs.rd;refine ⟨no,nc,rfl,fun i hi=>?_⟩;obtain ⟨r,h1,⟨ao,cap,rfl,h2,-,h3⟩,h4⟩:=hr.cell hi;have hlen:=hr.length;have hne:cs≠[]:=by intro e;subst e;simp at hlen;omega
 obtain ⟨g,o,rfl,hg,hc⟩:=hrd hne;have e:l.getD i (0,[])=l[i]:=by rw [Ld,Le hi];rfl
 rw [e];refine ⟨g,o,ao,cap,rfl,hg,?_,?_,h2,h3⟩
 ·have:=h4 0 (by decide);rw [hc (i*2) (by rw [hlen];omega)];exact this
 ·have:=h4 1 (by decide);rw [Nat.add_assoc,hc (i*2+1) (by rw [hlen];omega)];exact this
def lB (w:World) (v:Value) (V:List Vl × List Nd):Prop:=
 ∃ ro rc nv F,v=.agg #[.slice ro V.1.length rc,nv]∧Rd w ro (au V.1)∧cz w nv F V.2∧V.1.length≤1000000∧V.2.length≤1000000∧∀ n ∈ V.2,n.2.length≤1000000
theorem gE.r {w:World} {lo:Nat} {v:Value} {V:List Vl × List Nd} (H:gE w lo v V) (h1:V.1.length≤1000000) (h2:V.2.length≤1000000) (h3:∀ n ∈ V.2,n.2.length≤1000000):lB w v V:=by
 obtain ⟨ro,rc,no,nc,F,e,a,b,c⟩:=H;obtain ⟨_,_,e',hr,-,-⟩:=a.rd;cases e';exact ⟨ro,rc,_,F,e,hr,b,h1,h2,h3⟩
theorem lZ (x y:Value) (V:List Vl × List Nd) (w:World) (h1:lB w x V) (h2:lB w y V) :
  Calls Try.prog 47 #[x,y] w fun e w'=>e=.returned (.bool true)∧aa (fun _=>False) w w':=by
 obtain ⟨ro,rc,nv,F,rfl,r1,n1,l1,l2,l3⟩:=h1;obtain ⟨so,sc,mv,E,rfl,r2,n2,-,-,-⟩:=h2;obtain ⟨no,nc,rfl,N1⟩:=n1.nth;obtain ⟨mo,mc,rfl,N2⟩:=n2.nth;have R1:=Hz r1;have R2:=Hz r2;have M1:=Hz n1;have M2:=Hz n2;have L3:=Hz l3;clear r1 r2 n1 n2 N1 N2 l3;go_enter Try.func47,Try.ntmps47;go_wp2_with fail;have hka:=(Kz w).alloc (.cells #[.slice ro V.1.length rc, .slice no V.2.length nc] 72);have hkb:=hka.alloc (.cells #[.slice so V.1.length sc, .slice mo V.2.length mc] 72);obtain ⟨wa,ea⟩:∃ x,x=w.alloc (.cells #[.slice ro V.1.length rc, .slice no V.2.length nc] 72):=⟨_,rfl⟩;have hba:ah wa w.heap.size [.slice ro V.1.length rc, .slice no V.2.length nc] 72:=by rw [ea];exact ah.newAt _ rfl rfl
 have hsz:wa.heap.size=w.heap.size+1:=by rw [ea];simp
 rw [←ea] at hka hkb ⊢;have hb1:=((Kz wa).alloc (.cells #[.slice so V.1.length sc, .slice mo V.2.length mc] 72)).ai hba (fun h=>h);have hb2:ah (wa.alloc (.cells #[.slice so V.1.length sc, .slice mo V.2.length mc] 72)) wa.heap.size [.slice so V.1.length sc, .slice mo V.2.length mc] 72:=ah.newAt _ rfl rfl;rw [hsz] at hb2;generalize wa.alloc (.cells #[.slice so V.1.length sc, .slice mo V.2.length mc] 72)=wb at *;obtain ⟨b,hb⟩:∃ b,w.heap.size=b:=⟨_,rfl⟩;rw [hb] at hb1 hb2 hsz ⊢;clear hba ea hka hb;refine (iP ro so rc sc V.1 _ (R1.out.ae hkb (fun _ _ _ h=>h)) (R2.out.ae hkb (fun _ _ _ h=>h)) l1).mono ?_;rintro e w1 ⟨rfl,hk1⟩;have HK1:=Hz (hkb.trans hk1);have HB1:=Hz (hk1.ai hb1 (fun h=>h));have HB2:=Hz (hk1.ai hb2 (fun h=>h));clear hk1 hb1 hb2 hkb;have c0:=HB1.out.cell 0;have c1:=HB1.out.cell 1;have cl:=HB1.out.lt;have d0:=HB2.out.cell 0;have d1:=HB2.out.cell 1;have dl:=HB2.out.lt;simp only [Lz,Ls] at c0 c1 d0 d1;go_wp2_with fail;clear c0 c1 cl d0 d1 dl;go_loopw [5] (fun i wr=>∃ k:Nat,k≤V.2.length∧i=.int .i64 k∧aa (fun _=>False) w wr∧ah wr b [.slice ro V.1.length rc, .slice no V.2.length nc] 72∧ah wr (b+1) [.slice so V.1.length sc, .slice mo V.2.length mc] 72) (fun i _=>V.2.length-(intOf i).toNat)
 case atStart=>exact ⟨0,Nat.zero_le _,rfl,HK1.out,HB1.out,HB2.out⟩
 case round=>
  obtain ⟨k,hk,rfl,hkk,hb1,hb2⟩:=hrel;have HK:=Hz hkk;have HX1:=Hz hb1;have HX2:=Hz hb2;clear HK1 HB1 HB2 hkk hb1 hb2;have c1:=HX1.out.cell 1;have cl:=HX1.out.lt;have d1:=HX2.out.cell 1;have dl:=HX2.out.lt;simp only [Lz,Ls] at c1 d1;by_cases hlt:k<V.2.length
  ·obtain ⟨no',nc',e',N1⟩:=(M1.out.ae HK.out (fun _ _ _ h=>h) (fun _ _ h=>h)).nth;cases e';obtain ⟨mo',mc',e',N2⟩:=(M2.out.ae HK.out (fun _ _ _ h=>h) (fun _ _ h=>h)).nth;cases e';obtain ⟨g,o,ao,ac,rfl,hgl,x0,x1,rd1,-⟩:=N1 k hlt;obtain ⟨g',o',ao',ac',rfl,hgl',y0,y1,rd2,-⟩:=N2 k hlt;have hnl:(V.2.getD k (0,[])).2.length≤1000000:=by
    rw [Ld,Le hlt];exact L3.out _ (List.getElem_mem _)
   generalize V.2.getD k (0,[])=nd at *;have RD1:=Hz rd1;have RD2:=Hz rd2;clear N1 N2 rd1 rd2;go_wp2_with fail;refine aq (.free 0 (.free 2 (.free 6 (.free 8 (.pure 1 (.free 3 (.free 4 (.pure 5 (.pure 7 (.free 9 (.free 10 (.pure 11 (.free 12 (.free 13 (.free 14 (.free 16 (.free 20 (.free 22 (.pure 15 (.free 17 (.free 18 (.pure 19 (.pure 21 (.free 23 (.free 24 (.pure 25 (.run 26 (.swi [] (.free 27 (.free 28 (.fin))))))))))))))))))))))))))))))) [26,27,28] (fun w'=>w'.cell? ⟨b,1,none⟩=some (.slice (some ⟨g,o,none⟩) V.2.length nc)∧w'.cell? ⟨b+1,1,none⟩=some (.slice (some ⟨g',o',none⟩) V.2.length mc)∧w'.cell? ⟨g,o+k*2,none⟩=some (.int .i64 nd.1)∧w'.cell? ⟨g,o+k*2+1,none⟩=some (.slice ao nd.2.length ac)∧w'.cell? ⟨g',o' + k*2,none⟩=some (.int .i64 nd.1)∧w'.cell? ⟨g',o' + k*2+1,none⟩=some (.slice ao' nd.2.length ac')) (by kernel_rfl) (by kernel_rfl) ⟨c1,d1,x0,x1,y0,y1⟩ ?_
   iterate 26 ((first | refine ak rfl rfl fun K hK=>?_ | refine aj rfl rfl fun K hK=>?_ | refine ay rfl rfl fun K hK=>?_ | refine av rfl rfl fun K hK=>?_ | refine ax rfl rfl fun K hK=>?_);go_simp;refine hK _ ?_;clear hK K)
   refine aG rfl rfl rfl (fun K hK=>?_);unfold aM;go_simp;refine (iP ao ao' ac ac' nd.2 _ (RD1.out.ae ((Kz wr).drew) (fun _ _ _ h=>h)) (RD2.out.ae ((Kz wr).drew) (fun _ _ _ h=>h)) hnl).mono ?_;rintro e w2 ⟨rfl,hk2⟩;refine hK _ _ ?_;clear hK K;have HK2:=Hz (HK.out.drew.trans hk2);have HY1:=Hz (hk2.ai HX1.out.drew (fun h=>h));have HY2:=Hz (hk2.ai HX2.out.drew (fun h=>h));refine aE (fun _=>True) trivial ?_
   iterate 2 ((first | refine ak rfl rfl fun K hK=>?_ | refine aj rfl rfl fun K hK=>?_);go_simp;refine hK _ ?_;clear hK K)
   refine aA ?_;go_wp2_with fail;go_roundw
   case rel=>exact ⟨k+1,by omega,by go_num,HK2.out,HY1.out,HY2.out⟩
   case measure=>simp [intOf];omega
  ·obtain rfl:k=V.2.length:=by omega
   go_wp2_with fail;go_ret;exact ⟨rfl,HK.out⟩
end
section
open Go.RowKit
def overL (p:Nat→Bool) (u:Nat→Value):Nat→List Value→List Value
 | _,[]=>[]
 | i,v :: l=>(bif p i then u i else v) :: overL p u (i+1) l
def da (a:Act) (p:Nat→Bool) (u:Nat→Value):Act:={ a with tmps:=(overL p u 0 a.tmps.toList).toArray }
def slotsOf (a:Act) (i:Nat):Value:=a.tmps.toList.getD i undef
def lC (a:Act) (p:Nat→Bool) (R:(Nat→Value)→World→Prop) (a':Act) (w':World):Prop:=a'=da a p (slotsOf a')∧R (slotsOf a') w'
def sP (a:Act) (p:Nat→Bool) (R:(Nat→Value)→World→Prop) (mu:(Nat→Value)→World→Nat) (n:Nat) (a':Act) (w':World):Prop:=lC a p R a' w'∧mu (slotsOf a') w' < n
variable {P:Program} {a:Act} {w:World} {c:Code} {Q:Exit→Act→World→Prop}
theorem kh (p:Nat→Bool) (u:Nat→Value):∀ (l:List Value) (i:Nat),(∀ j,j<l.length→u (i+j)=l.getD j undef)→overL p u i l=l
 | [],i,_=>rfl
 | v :: l,i,h=>by
  have h0:=h 0 (by simp);simp only [Nat.add_zero,List.getD_cons_zero] at h0;have ih:=kh p u l (i+1) (fun j hj=>by
   have:=h (j+1) (by simp;omega);rw [show i+(j+1)=i+1+j by omega,List.getD_cons_succ] at this
   exact this)
  simp only [overL,ih,h0];cases p i <;> rfl
theorem nO (a:Act) (p:Nat→Bool):a=da a p (slotsOf a):=by
 cases a with
 | mk t d=>
  unfold da slotsOf;dsimp only;rw [kh p _ t.toList 0 (fun j hj=>by rw [Nat.zero_add])]
theorem l4 (p:Nat→Bool) (R:(Nat→Value)→World→Prop) (mu:(Nat→Value)→World→Nat) (h0:R (slotsOf a) w)
  (round:∀ (u:Nat→Value) (w':World),R (slotsOf (da a p u)) w'→∀ K:Act→World→Prop,(∀ a'' w'',sP a p R mu (mu (slotsOf (da a p u)) w') a'' w''→K a'' w'')→c.wp P (Exit.then K Q) (da a p u) w') :
  (Code.loop c).wp P Q a w:=by
 refine wp_loop (lC a p R) (fun a' w'=>mu (slotsOf a') w') ⟨nO a p,h0⟩ ?_;rintro a' w' ⟨e,hR⟩;obtain ⟨u,hu⟩:∃ u,u=slotsOf a':=⟨_,rfl⟩;rw [←hu] at e;subst e;exact round u w' hR _ (fun a'' w'' h=>h)
theorem cY {K:Act→World→Prop} (p:Nat→Bool) (R:(Nat→Value)→World→Prop)
  (first:∀ K':Act→World→Prop,(∀ a'' w'',lC a p R a'' w''→K' a'' w'')→c.wp P (Exit.then K' Q) a w)
  (rest:∀ (u:Nat→Value) (w':World),R (slotsOf (da a p u)) w'→K (da a p u) w'):c.wp P (Exit.then K Q) a w:=by
 refine wp_mono (first (lC a p R) (fun _ _ h=>h)) ?_;intro e a' w' hq;cases e with
 | normal=>
  obtain ⟨e,hR⟩:=hq;obtain ⟨u,hu⟩:∃ u,u=slotsOf a':=⟨_,rfl⟩;rw [←hu] at e;subst e;exact rest u w' hR
 | exit id=>exact hq
 | goto l=>exact hq
 | ret=>exact hq
 | panic ch=>exact hq
 | outgrown=>exact hq
end
section
def dW (G:Gr) (wait:List (Int × Int)) (S:Int→Prop) (i j:Int):Prop:=
 (((G i).1=1∨(G i).1=2)∧((3,j):Vl) ∈ (G i).2) ∨
 ((G i).1=3∧(G i).2[1]? = some (3,j)) ∨
 ((G i).1=4∧(G i).2[1]? = some (3,j)∧∀ v,(G i).2[0]? = some v→v.1=3→S v.2) ∨
 ((G i).1=5∧(i,j) ∈ wait)
def ee (G:Gr) (wait:List (Int × Int)) (S:Int→Prop):Prop:=∀ i j,S i→dW G wait S i j→S j
def bu (G:Gr) (wait:List (Int × Int)) (X:Int→Prop) (i:Int):Prop:=∀ S:Int→Prop,(∀ j,X j→S j)→ee G wait S→S i
section
variable {G:Gr} {wait wait':List (Int × Int)} {S S' X Y:Int→Prop} {i j:Int}
theorem dW.mono (h:∀ k,S k→S' k) (hw:∀ e ∈ wait,e ∈ wait') (hl:dW G wait S i j):dW G wait' S' i j:=by
 rcases hl with h1 | h1 | ⟨h1,h2,h3⟩ | ⟨h1,h2⟩
 ·exact .inl h1
 ·exact .inr (.inl h1)
 ·exact .inr (.inr (.inl ⟨h1,h2,fun v hv h3'=>h _ (h3 v hv h3')⟩))
 ·exact .inr (.inr (.inr ⟨h1,hw _ h2⟩))
theorem bu.base (h:X i):bu G wait X i:=fun _ hX _=>hX i h
theorem bu.least (h:bu G wait X i) (hX:∀ k,X k→S k) (hS:ee G wait S):S i:=h S hX hS
theorem bu.closed (G:Gr) (wait:List (Int × Int)) (X:Int→Prop):ee G wait (bu G wait X):=fun i j hi hl S hX hS=>
 hS i j (hi S hX hS) (hl.mono (fun k hk=>hk S hX hS) (fun _ h=>h))
theorem bu.mono (h:bu G wait X i) (hX:∀ k,X k→bu G wait' Y k) (hw:∀ e ∈ wait,e ∈ wait'):bu G wait' Y i:=
 h _ hX (fun a b ha hl=>bu.closed G wait' Y a b ha (hl.mono (fun _ h=>h) hw))
theorem bu.entry {g t:Int} (ht:X t):bu G (wait ++ [(g,t)]) X i↔bu G wait X i:=by
 refine ⟨fun h=>?_,fun h=>h.mono (fun _ h=>bu.base h) (fun e he=>by simp [he])⟩;refine h.least (fun _ h=>bu.base h) (fun a b ha hl=>?_);by_cases hb:b=t
 ·subst hb;exact bu.base ht
 ·refine bu.closed G wait X a b ha ?_;rcases hl with h1 | h1 | h1 | ⟨h1,h2⟩
  ·exact .inl h1
  ·exact .inr (.inl h1)
  ·exact .inr (.inr (.inl h1))
  ·refine .inr (.inr (.inr ⟨h1,?_⟩));rcases List.mem_append.1 h2 with h3 | h3
   ·exact h3
   ·simp at h3;exact absurd h3.2 hb
end
def az (l:List Bool) (i:Int):Bool:=decide (0≤i) && l.getD i.toNat false
theorem bS (l:List Bool) (i:Nat):az l i=l.getD i false:=by simp [az]
theorem gd {l:List Bool} {i:Int} (h:az l i=true):0≤i∧i<l.length:=by
 unfold az at h;simp only [Bool.and_eq_true,decide_eq_true_eq] at h;refine ⟨h.1,?_⟩;by_cases hl:i.toNat<l.length
 ·omega
 ·have h2:=h.2;rw [Ld,List.getElem?_eq_none (by omega)] at h2;cases h2
open Classical in
noncomputable def im (G:Gr) (wait:List (Int × Int)) (is:List Bool):List Bool:=
 (List.range is.length).map fun i=>decide (bu G wait (fun k=>az is k=true) (i:Nat))
theorem cA (G:Gr) (wait:List (Int × Int)) (is:List Bool):(im G wait is).length=is.length:=by simp [im]
open Classical in
theorem b9 {G:Gr} {wait:List (Int × Int)} {is:List Bool} {i:Int}:az (im G wait is) i=true↔0≤i∧i<is.length∧bu G wait (fun k=>az is k=true) i:=by
 constructor
 ·intro h;have:=gd h;rw [cA] at this;refine ⟨this.1,this.2,?_⟩;unfold az im at h;simp only [Bool.and_eq_true,Ld,List.getElem?_map] at h;rw [List.getElem?_range (by omega)] at h;have h2:=h.2;simp only [Option.map_some,Option.getD_some,decide_eq_true_eq] at h2;rwa [show ((i.toNat:Nat):Int)=i by omega] at h2
 ·rintro ⟨h0,h1,h2⟩;unfold az im;simp only [Bool.and_eq_true,Ld,List.getElem?_map];rw [List.getElem?_range (by omega)];refine ⟨by simpa using h0,?_⟩;simp only [Option.map_some,Option.getD_some,decide_eq_true_eq];rwa [show ((i.toNat:Nat):Int)=i by omega]
theorem kG {a b:List Bool} (hl:a.length=b.length) (h:∀ i:Int,0≤i→i<a.length→(az a i=true↔az b i=true)):a=b:=by
 apply List.ext_getElem hl;intro k h1 h2;have:=h k (by omega) (by omega);simp only [bS,Ld,Le h1,Le h2,Option.getD_some] at this;rw [Bool.eq_iff_iff];exact this
theorem m9 {G:Gr} {wait:List (Int × Int)} {is out:List Bool} (hl:out.length=is.length) (h1:∀ i,az is i=true→az out i=true) (h2:∀ i,az out i=true→bu G wait (fun k=>az is k=true) i)
  (h3:ee G wait fun k=>az out k=true):out=im G wait is:=by
 refine kG (by rw [cA,hl]) fun i h0 hlt=>?_;rw [b9];exact ⟨fun h=>⟨h0,by omega,h2 i h⟩,fun h=>h.2.2.least h1 h3⟩
theorem cE {is:List Bool} {x i:Int} (h0:0≤x) (h1:x<is.length):az (is.set x.toNat true) i=true↔i=x∨az is i=true:=by
 unfold az;simp only [Bool.and_eq_true,decide_eq_true_eq,Ld,List.getElem?_set];by_cases e:x.toNat=i.toNat
 ·rw [if_pos e,if_pos (by omega)];simp only [Option.getD_some,and_true];constructor
  ·intro h;left;omega
  ·rintro (rfl | ⟨h,_⟩)
   ·exact h0
   ·exact h
 ·rw [if_neg e];constructor
  ·intro h;exact .inr h
  ·rintro (rfl | h)
   ·exact absurd rfl e
   ·exact h
theorem nP {G:Gr} {wait:List (Int × Int)} {is:List Bool} {g t:Int} (ht:az is t=true):im G (wait ++ [(g,t)]) is=im G wait is:=by
 refine kG (by rw [cA,cA]) fun i h0 hlt=>?_;rw [b9,b9,bu.entry (X:=fun k=>az is k=true) ht]
structure Th where
 k:Int
 fs:List Vl
 aR:Bool
 dead:Bool
structure Wd where
 T:List Th
 roots:List Vl
 regs:List (Int × Int)
 wait:List (Int × Int)
 most:Int
 grow:Int
def Wd.new (n o:Int):Wd:=⟨[],List.replicate 12 (0,0),[],[],n,o⟩
def Th.none:Th:=⟨0,[],false,true⟩
def Wd.th (W:Wd) (i:Int):Th:=W.T.getD i.toNat Th.none
def Wd.rt (W:Wd) (k:Int):Vl:=W.roots.getD k.toNat (0,0)
def Th.words (t:Th):Int:=1+t.fs.length
def Wd.nd (W:Wd):Gr:=fun i=>((W.th i).k,(W.th i).fs)
def bN (wait:List (Int × Int)) (g:Int):List Int:=(wait.filter fun e=>e.1 == g).map (·.2)
def Wd.gr (W:Wd):Gr:=fun i=>((W.th i).k,(W.th i).fs ++ if (W.th i).k=5 then (bN W.wait i).map fun x=>((3,x):Vl) else [])
def Wd.view (W:Wd):List Vl × List Nd:=j9 W.gr W.roots
def cf (l:List Th) (p:Th→Bool):Int:=(l.map fun t=>if p t then t.words else 0).sum
def Wd.aI (W:Wd):Int:=cf W.T fun t=>!t.dead && !t.aR
def Wd.aY (W:Wd):Int:=cf W.T fun t=>!t.dead && t.aR
def Wd.first (W:Wd) (major:Bool):List Bool:=
 (List.range W.T.length).map fun (i:Nat)=>((W.th (i:Int)).aR && !(W.th (i:Int)).dead && !major) || W.roots.any fun v=>v.1 == 3 && v.2 == (i:Int)
noncomputable def Wd.bQ (W:Wd) (wait:List (Int × Int)) (is:List Bool):List Bool:=im W.nd wait is
noncomputable def Wd.a6 (W:Wd) (is:List Bool) (q:List (Int × Int)) (x:Int):List Bool × List (Int × Int) × Int:=(W.bQ q (is.set x.toNat true),q,x)
def cH (is:List Bool) (x:Int):Int:=x
noncomputable def Wd.pass (W:Wd) (major:Bool):List Bool × List (Int × Int) × List It:=ev az W.a6 (W.bQ W.wait (W.first major)) W.regs W.wait
def a5 (is:List Bool) (v:Vl):Bool:=v.1 != 3 || az is v.2
def cj (is:List Bool) (i:Nat) (t:Th):Th:=
 if is.getD i false then
  ⟨t.k,if t.k=4∧a5 is (t.fs.getD 0 (0,0))=false then [(2,0),(2,0)]
   else if t.k=3∧a5 is (t.fs.getD 0 (0,0))=false then [(2,0),t.fs.getD 1 (0,0)] else t.fs,true,t.dead⟩
 else ⟨t.k,[],t.aR,true⟩
def fr (is:List Bool) (l:List Th):List Th:=l.mapIdx fun i t=>cj is i t
def eR (is:List Bool) (l:List Th):Int:=(l.mapIdx fun i t=>if is.getD i false then t.words else 0).sum
noncomputable def Wd.after (W:Wd) (major:Bool):Wd:=
 { W with T:=fr (W.pass major).1 W.T,regs:=bz az cH (W.pass major).1 (W.pass major).2.2,wait:=bA az cH (W.pass major).1 (W.pass major).2.1 }
noncomputable def Wd.cut (W:Wd) (major:Bool):Int × Wd:=
 if major=false∧W.aI > W.grow-W.aY then (3,W)
 else if eR (W.pass major).1 W.T > W.grow then (3,W)
 else (0,W.after major)
structure St where
 k:Int
 r:Int
 a:Int
 b:Int
 i:Int
 n:Int
def aH (k:Int):Int:=
 if k=1∨k=2∨k=8 then 1 else if k=3∨k=5∨k=10∨k=11∨k=13 then 3 else if k=4∨k=6∨k=7∨k=14 then 7 else if k=9∨k=12 then 6 else if k=15∨k=16 then 0 else -1
def bT (k:Int):Bool:=decide (0≤k) && decide (k<12)
def aP (x:St):Int:=
 if aH x.k=-1 then 2
 else if (aH x.k%2=1∧bT x.r=false)∨(aH x.k/2%2=1∧bT x.a=false)∨(aH x.k/4%2=1∧bT x.b=false) then 1
 else if x.k=1∧¬ (-cL≤x.n∧x.n<cL) then 1
 else if x.k=5∧¬ (0≤x.n∧x.n≤12) then 1
 else 0
def Wd.bj (W:Wd) (r:Int) (v:Vl):Wd:={ W with roots:=W.roots.set r.toNat v }
def Wd.put (W:Wd) (r k:Int) (from_:List Vl):Wd:={ W with T:=W.T ++ [⟨k,from_,false,false⟩],roots:=W.roots.set r.toNat (eB W.T.length) }
noncomputable def Wd.room (W:Wd) (n:Int):Int × Wd:=if n > W.most-W.aI then W.cut (decide (W.aI > W.grow-W.aY)) else (0,W)
noncomputable def Wd.bO (W:Wd) (r k:Int) (from_:List Int):Int × Wd:=
 if (W.room (1+from_.length)).1=0 then (0,(W.room (1+from_.length)).2.put r k (from_.map (W.room (1+from_.length)).2.rt)) else ((W.room (1+from_.length)).1,W)
def Wd.aw (W:Wd) (k:Int):Int:=if (W.rt k).1=3 then (W.rt k).2 else -1
def Wd.guard (W:Wd) (k:Int):Int:=if W.aw k<0∨(W.th (W.aw k)).k≠5 then -1 else W.aw k
def Wd.bU (W:Wd) (i:Int) (fs:List Vl):Wd:={ W with T:=W.T.set i.toNat { W.th i with fs:=fs } }
def popW (wait:List (Int × Int)) (g:Int):Option (Int × List (Int × Int)):=
 match wait with
 | []=>none
 | e :: l=>if e.1=g then some (e.2,l) else (popW l g).map fun r=>(r.1,e :: r.2)
def Wd.fC (W:Wd) (x:St):Int × Wd:=
 if W.aw x.a<0∨W.guard x.b<0 then (2,W)
 else if 24≤W.regs.length+W.wait.length then (3,W)
 else (0, { W with regs:=W.regs ++ [(W.guard x.b,W.aw x.a)] })
def Wd.pop (W:Wd) (x:St):Int × Wd:=
 if W.guard x.a<0 then (2,W)
 else match popW W.wait (W.guard x.a) with
  | none=>(4,W)
  | some r=>(0, { W with wait:=r.2,roots:=W.roots.set x.r.toNat (3,r.1) })
def Wd.aV (W:Wd) (x:St):Int:=
 if W.aw x.a<0∨(W.th (W.aw x.a)).k=5 then 2 else if x.i<0∨((W.th (W.aw x.a)).fs.length:Int)≤x.i then 1 else 0
def Wd.get (W:Wd) (x:St):Int × Wd:=if W.aV x=0 then (0,W.bj x.r ((W.th (W.aw x.a)).fs.getD x.i.toNat (0,0))) else (W.aV x,W)
def Wd.set (W:Wd) (x:St):Int × Wd:=if W.aV x=0 then (0,W.bU (W.aw x.a) ((W.th (W.aw x.a)).fs.set x.i.toNat (W.rt x.b))) else (W.aV x,W)
def Wd.len (W:Wd) (x:St):Int × Wd:=if W.aw x.a<0∨(W.th (W.aw x.a)).k=5 then (2,W) else (0,W.bj x.r (1,(W.th (W.aw x.a)).fs.length))
def Wd.same (W:Wd) (x:St):Int × Wd:=(0,W.bj x.r (1,if W.rt x.a=W.rt x.b then 1 else 0))
noncomputable def Wd.step (W:Wd) (x:St):Int × Wd:=
 if x.k=1 then (0,W.bj x.r (1,x.n))
 else if x.k=2 then (0,W.bj x.r (0,0))
 else if x.k=3 then (0,W.bj x.r (W.rt x.a))
 else if x.k=4 then W.bO x.r 1 [x.a,x.b]
 else if x.k=5 then W.bO x.r 2 (List.replicate x.n.toNat x.a)
 else if x.k=6 then W.bO x.r 3 [x.a,x.b]
 else if x.k=7 then W.bO x.r 4 [x.a,x.b]
 else if x.k=8 then W.bO x.r 5 []
 else if x.k=9 then W.fC x
 else if x.k=10 then W.pop x
 else if x.k=11 then W.get x
 else if x.k=12 then W.set x
 else if x.k=13 then W.len x
 else if x.k=14 then W.same x
 else if x.k=15 then W.cut false
 else W.cut true
noncomputable def Wd.do (W:Wd) (x:St):Int × Wd:=if aP x=0 then W.step x else (aP x,W)
end
section
def Wd.live (W:Wd) (i:Int):Prop:=0≤i∧i<W.T.length∧(W.th i).dead=false
def Wd.cO (W:Wd) (v:Vl):Prop:=(v.1=0∧v.2=0)∨(v.1=1∧-cL≤v.2∧v.2<cL)∨(v.1=2∧v.2=0)∨(v.1=3∧W.live v.2)
def Wd.dx (W:Wd) (e:Int × Int):Prop:=W.live e.1∧(W.th e.1).k=5∧W.live e.2
structure Wd.ok (W:Wd):Prop where
 hr:W.roots.length=12
 rv:∀ v ∈ W.roots,W.cO v
 tk:∀ i,W.live i→aW (W.th i).k (W.th i).fs.length=true
 tv:∀ i,W.live i→∀ v ∈ (W.th i).fs,W.cO v
 gv:∀ e ∈ W.regs,W.dx e
 wv:∀ e ∈ W.wait,W.dx e
 hq:W.regs.length+W.wait.length≤24
 m1:16≤W.most
 m2:W.most≤256
 g1:0≤W.grow
 g2:W.grow≤1024
 uy:W.aI≤W.most
 uo:W.aY≤W.grow
theorem Wd.kH {W:Wd} {i:Int} (h:W.live i):∃ (h':i.toNat<W.T.length),W.th i=W.T[i.toNat]:=by
 have h1:=h.1;have h2:=h.2.1;have h':i.toNat<W.T.length:=by omega
 exact ⟨h',by unfold Wd.th;rw [Ld,Le h'];rfl⟩
theorem Wd.bg {W:Wd} {v:Vl} (h:W.cO v) (h3:v.1=3):W.live v.2:=by
 rcases h with h | h | h | h
 ·have:=h.1;omega
 ·have:=h.1;omega
 ·have:=h.1;omega
 ·exact h.2
theorem Wd.l5 {W W':Wd} (h:∀ i,W.live i→W'.live i) {v:Vl} (hv:W.cO v):W'.cO v:=by
 rcases hv with h1 | h1 | h1 | h1
 ·exact .inl h1
 ·exact .inr (.inl h1)
 ·exact .inr (.inr (.inl h1))
 ·exact .inr (.inr (.inr ⟨h1.1,h _ h1.2⟩))
theorem bV (l:List Th) (p:Th→Bool):0≤cf l p:=by
 unfold cf
 induction l with
 | nil=>simp
 | cons t l ih=>
  simp only [List.map_cons,List.sum_cons];have:0≤(if p t then t.words else 0):=by split <;> simp [Th.words];omega
  omega
theorem gh (a b:List Th) (p:Th→Bool):cf (a ++ b) p=cf a p+cf b p:=by simp [cf]
theorem l6 (l:List Th) (p:Th→Bool) (i:Nat) (t:Th) (h:i<l.length) (hp:p t=p l[i]) (hw:t.words=l[i].words):cf (l.set i t) p=cf l p:=by
 unfold cf;have:(l.set i t).map (fun t=>if p t then t.words else 0)=l.map (fun t=>if p t then t.words else 0):=by
  apply List.ext_getElem (by simp);intro j h1 h2;simp only [List.getElem_map,List.getElem_set];split
  ·rename_i e;subst e;rw [hp,hw]
  ·rfl
 rw [this]
theorem Wd.eS {W:Wd} (h:W.ok) (k:Int):W.cO (W.rt k):=by
 unfold Wd.rt;rw [Ld];cases hx:W.roots[k.toNat]? with
 | none=>exact .inl ⟨rfl,rfl⟩
 | some v=>exact h.rv _ (List.mem_of_getElem? hx)
theorem Wd.ok.bj {W:Wd} (h:W.ok) {v:Vl} (hv:W.cO v) (r:Int):(W.bj r v).ok:=by
 refine ⟨by simpa [Wd.bj] using h.hr,fun u hu=>?_,h.tk,h.tv,h.gv,h.wv,h.hq,h.m1,h.m2,h.g1,h.g2,h.uy,h.uo⟩;rcases List.mem_or_eq_of_mem_set hu with h1 | rfl
 ·exact h.rv u h1
 ·exact hv
theorem Wd.iQ {W:Wd} {r k:Int} {l:List Vl} {i:Int} (h0:0≤i) (h:i<W.T.length):(W.put r k l).th i=W.th i:=by
 unfold Wd.th Wd.put;simp only [Ld];rw [List.getElem?_append_left (by omega)]
theorem Wd.fM {W:Wd} {r k:Int} {l:List Vl}:(W.put r k l).th W.T.length=⟨k,l,false,false⟩:=by
 unfold Wd.th Wd.put;simp only [Ld,Int.toNat_natCast];rw [List.getElem?_append_right (Nat.le_refl _)];simp
theorem Wd.iq {W:Wd} {r k:Int} {l:List Vl} {i:Int} (h:W.live i):(W.put r k l).live i:=by
 refine ⟨h.1,?_,?_⟩
 ·have:=h.2.1;simp [Wd.put];omega
 ·rw [Wd.iQ h.1 h.2.1];exact h.2.2
theorem Wd.l7 {W:Wd} {r k:Int} {l:List Vl} {i:Int} (h:(W.put r k l).live i):W.live i∨i=W.T.length:=by
 have h1:=h.2.1;simp [Wd.put] at h1;by_cases e:i=W.T.length
 ·exact .inr e
 ·refine .inl ⟨h.1,by omega,?_⟩;have:=h.2.2;rwa [Wd.iQ h.1 (by omega)] at this
theorem Wd.iR {W:Wd} {r k:Int} {l:List Vl}:(W.put r k l).aI=W.aI+(1+l.length):=by
 unfold Wd.aI Wd.put;rw [gh];simp [cf,Th.words]
theorem Wd.l8 {W:Wd} {r k:Int} {l:List Vl}:(W.put r k l).aY=W.aY:=by
 unfold Wd.aY Wd.put;rw [gh];simp [cf]
theorem Wd.ok.put {W:Wd} (h:W.ok) {r k:Int} {l:List Vl} (hf:aW k l.length=true) (hl:∀ v ∈ l,W.cO v) (hroom:1+(l.length:Int)≤W.most-W.aI):(W.put r k l).ok:=by
 have hm:∀ {v},W.cO v→(W.put r k l).cO v:=fun hv=>Wd.l5 (fun i hi=>Wd.iq hi) hv;have he:∀ e,W.dx e→(W.put r k l).dx e:=fun e he=>⟨Wd.iq he.1,by rw [Wd.iQ he.1.1 he.1.2.1];exact he.2.1,Wd.iq he.2.2⟩;refine ⟨by simpa [Wd.put] using h.hr,fun u hu=>?_,fun i hi=>?_,fun i hi v hv=>?_,fun e h1=>he e (h.gv e h1),fun e h1=>he e (h.wv e h1),h.hq,h.m1,h.m2,h.g1,h.g2,?_,?_⟩
 ·rcases List.mem_or_eq_of_mem_set hu with h1 | rfl
  ·exact hm (h.rv u h1)
  ·refine .inr (.inr (.inr ⟨rfl,?_,?_,?_⟩))
   ·simp [eB]
   ·simp [Wd.put,eB];omega
   ·show ((W.put r k l).th (W.T.length:Int)).dead=false
    rw [Wd.fM]
 ·rcases Wd.l7 hi with h1 | rfl
  ·rw [Wd.iQ h1.1 h1.2.1];exact h.tk i h1
  ·rw [Wd.fM];exact hf
 ·rcases Wd.l7 hi with h1 | rfl
  ·rw [Wd.iQ h1.1 h1.2.1] at hv;exact hm (h.tv i h1 v hv)
  ·rw [Wd.fM] at hv;exact hm (hl v hv)
 ·show (W.put r k l).aI≤W.most
  rw [Wd.iR];omega
 ·show (W.put r k l).aY≤W.grow
  rw [Wd.l8];exact h.uo
theorem Wd.fS {W:Wd} {j:Int} {fs:List Vl} {i:Int} (h0:0≤i) (hj:W.live j):(W.bU j fs).th i=if i=j then { W.th j with fs:=fs } else W.th i:=by
 obtain ⟨h',e⟩:=Wd.kH hj;unfold Wd.bU;simp only [Wd.th,Ld,List.getElem?_set];by_cases e2:i=j
 ·subst e2;rw [if_pos rfl,if_pos h',if_pos rfl];rfl
 ·have:=hj.1;rw [if_neg (by omega),if_neg e2]
theorem Wd.eG {W:Wd} {j:Int} {fs:List Vl} (hj:W.live j) (i:Int):(W.bU j fs).live i↔W.live i:=by
 unfold Wd.live;constructor
 ·rintro ⟨h0,h1,h2⟩;rw [Wd.fS h0 hj] at h2;refine ⟨h0,by simpa [Wd.bU] using h1,?_⟩;by_cases e:i=j
  ·subst e;exact hj.2.2
  ·rwa [if_neg e] at h2
 ·rintro ⟨h0,h1,h2⟩;refine ⟨h0,by simpa [Wd.bU] using h1,?_⟩;rw [Wd.fS h0 hj];split
  ·exact hj.2.2
  ·exact h2
theorem Wd.pb {W:Wd} {j:Int} {fs:List Vl} (hj:W.live j) {i:Int} (h0:0≤i):((W.bU j fs).th i).k=(W.th i).k:=by
 rw [Wd.fS h0 hj];split
 ·rename_i e;subst e;rfl
 ·rfl
theorem Wd.l9 {W:Wd} {j:Int} {fs:List Vl} (hj:W.live j) (hl:fs.length=(W.th j).fs.length):(W.bU j fs).aI=W.aI∧(W.bU j fs).aY=W.aY:=by
 obtain ⟨h',e⟩:=Wd.kH hj;constructor
 ·exact l6 _ _ _ _ h' (by simp [e]) (by simp [Th.words,hl,e])
 ·exact l6 _ _ _ _ h' (by simp [e]) (by simp [Th.words,hl,e])
theorem Wd.ok.bU {W:Wd} (h:W.ok) {j:Int} {fs:List Vl} (hj:W.live j) (hl:fs.length=(W.th j).fs.length) (hv:∀ v ∈ fs,W.cO v):(W.bU j fs).ok:=by
 have hm:∀ {v},W.cO v→(W.bU j fs).cO v:=fun hv=>Wd.l5 (fun i hi=>(Wd.eG hj i).2 hi) hv;have he:∀ e,W.dx e→(W.bU j fs).dx e:=fun e he=>⟨(Wd.eG hj _).2 he.1,by rw [Wd.pb hj he.1.1];exact he.2.1,(Wd.eG hj _).2 he.2.2⟩;have hs:=Wd.l9 hj hl;refine ⟨h.hr,fun u hu=>hm (h.rv u hu),fun i hi=>?_,fun i hi v hv'=>?_,fun e h1=>he e (h.gv e h1),fun e h1=>he e (h.wv e h1),h.hq,h.m1,h.m2,h.g1,h.g2,?_,?_⟩
 ·have h1:=(Wd.eG hj i).1 hi;rw [Wd.fS hi.1 hj];split
  ·rename_i e;subst e;show aW (W.th i).k (fs.length:Nat)=true;rw [hl];exact h.tk i h1
  ·exact h.tk i h1
 ·have h1:=(Wd.eG hj i).1 hi;rw [Wd.fS hi.1 hj] at hv';split at hv'
  ·exact hm (hv v hv')
  ·exact hm (h.tv i h1 v hv')
 ·show (W.bU j fs).aI≤W.most;rw [hs.1];exact h.uy
 ·show (W.bU j fs).aY≤W.grow;rw [hs.2];exact h.uo
theorem Wd.de (W:Wd) (major:Bool):(W.first major).length=W.T.length:=by simp [Wd.first]
theorem Wd.jN {W:Wd} {major:Bool} {i:Int}:az (W.first major) i=true↔0≤i∧i<W.T.length∧(((W.th i).aR=true∧(W.th i).dead=false∧major=false)∨((3,i):Vl) ∈ W.roots):=by
 constructor
 ·intro h;have hb:=gd h;rw [Wd.de] at hb;refine ⟨hb.1,hb.2,?_⟩;unfold az Wd.first at h
  simp only [Bool.and_eq_true,Ld,List.getElem?_map] at h;rw [List.getElem?_range (by omega)] at h;have h2:=h.2;simp only [Option.map_some,Option.getD_some,show ((i.toNat:Nat):Int)=i by omega,Bool.or_eq_true,Bool.and_eq_true,Bool.not_eq_true',List.any_eq_true,beq_iff_eq] at h2;rcases h2 with h2 | ⟨v,h3,h4,h5⟩
  ·exact .inl ⟨h2.1.1,h2.1.2,h2.2⟩
  ·right;have:v=(3,i):=by cases v;simp_all
   rwa [this] at h3
 ·rintro ⟨h0,h1,h2⟩;unfold az Wd.first
  simp only [Bool.and_eq_true,Ld,List.getElem?_map];rw [List.getElem?_range (by omega)];refine ⟨by simpa using h0,?_⟩;simp only [Option.map_some,Option.getD_some,show ((i.toNat:Nat):Int)=i by omega,Bool.or_eq_true,Bool.and_eq_true,Bool.not_eq_true',List.any_eq_true,beq_iff_eq];rcases h2 with h2 | h2
  ·exact .inl ⟨⟨h2.1,h2.2.1⟩,h2.2.2⟩
  ·exact .inr ⟨_,h2,rfl,rfl⟩
structure Wd.dO (W:Wd) (major:Bool) (is:List Bool) (q:List (Int × Int)):Prop where
 len:is.length=W.T.length
 live:∀ i,az is i=true→W.live i
 first:∀ i,az (W.first major) i=true→az is i=true
 shut:ee W.nd q fun i=>az is i=true
 wv:∀ e ∈ q,W.dx e
theorem Wd.dn {W:Wd} (h:W.ok) {q:List (Int × Int)} (hq:∀ e ∈ q,W.dx e):ee W.nd q W.live:=by
 intro i j hi hl;rcases hl with h1 | h1 | h1 | h1
 ·exact Wd.bg (h.tv i hi _ h1.2) rfl
 ·exact Wd.bg (h.tv i hi _ (List.mem_of_getElem? h1.2)) rfl
 ·exact Wd.bg (h.tv i hi _ (List.mem_of_getElem? h1.2.1)) rfl
 ·exact (hq _ h1.2).2.2
theorem Wd.ki {W:Wd} (h:W.ok) {major:Bool} {i:Int} (hi:az (W.first major) i=true):W.live i:=by
 obtain ⟨h0,h1,h2 | h2⟩:=Wd.jN.1 hi
 ·exact ⟨h0,h1,h2.2.1⟩
 ·exact Wd.bg (h.rv _ h2) rfl
theorem Wd.dO.start {W:Wd} (h:W.ok) (major:Bool):W.dO major (W.bQ W.wait (W.first major)) W.wait:=by
 have hlen:(W.bQ W.wait (W.first major)).length=W.T.length:=by unfold Wd.bQ;rw [cA,Wd.de]
 have hl:∀ i,az (W.bQ W.wait (W.first major)) i=true→W.live i:=fun i hi=>
  (b9.1 hi).2.2.least (fun k hk=>Wd.ki h hk) (Wd.dn h h.wv)
 refine ⟨hlen,hl,fun i hi=>b9.2 ⟨(gd hi).1,(gd hi).2,bu.base hi⟩,?_,h.wv⟩;intro i j hi hj;have hlv:=Wd.dn h h.wv i j (hl i hi) (hj.mono (fun k hk=>hl k hk) (fun _ h=>h));refine b9.2 ⟨hlv.1,by rw [Wd.de];exact hlv.2.1,?_⟩;exact bu.closed _ _ _ i j (b9.1 hi).2.2 (hj.mono (fun k hk=>(b9.1 hk).2.2) (fun _ h=>h))
theorem Wd.dO.ae {W:Wd} (h:W.ok) {major:Bool} {is:List Bool} {q:List (Int × Int)} (m:W.dO major is q) {g x:Int} (hx:W.live x) (hg:W.live g) (hk:(W.th g).k=5) :
  W.dO major (W.bQ q (is.set x.toNat true)) (q ++ [(g,x)])∧(∀ i,az is i=true→az (W.bQ q (is.set x.toNat true)) i=true)∧az (W.bQ q (is.set x.toNat true)) x=true:=by
 have hset:∀ i,az (is.set x.toNat true) i=true↔i=x∨az is i=true:=fun i=>cE hx.1 (by rw [m.len];exact hx.2.1);have hsl:(is.set x.toNat true).length=W.T.length:=by rw [List.length_set,m.len]
 have hq':∀ e ∈ q ++ [(g,x)],W.dx e:=by
  intro e he;rcases List.mem_append.1 he with h1 | h1
  ·exact m.wv e h1
  ·rw [List.mem_singleton.1 h1];exact ⟨hg,hk,hx⟩
 have hsv:∀ k,az (is.set x.toNat true) k=true→W.live k:=by
  intro k hk;rcases (hset k).1 hk with rfl | h1
  ·exact hx
  ·exact m.live k h1
 have hl:∀ i,az (W.bQ q (is.set x.toNat true)) i=true→W.live i:=fun i hi=>(b9.1 hi).2.2.least hsv (Wd.dn h m.wv);have up:∀ i,az (is.set x.toNat true) i=true→az (W.bQ q (is.set x.toNat true)) i=true:=fun i hi=>b9.2 ⟨(gd hi).1,(gd hi).2,bu.base hi⟩;have hxx:=up x ((hset x).2 (.inl rfl));refine ⟨⟨by unfold Wd.bQ;rw [cA,hsl],hl,fun i hi=>up i ((hset i).2 (.inr (m.first i hi))),?_,hq'⟩,fun i hi=>up i ((hset i).2 (.inr hi)),hxx⟩;intro i j hi hj;by_cases e:j=x
 ·subst e;exact hxx
 ·have hj':dW W.nd q (fun k=>az (W.bQ q (is.set x.toNat true)) k=true) i j:=by
   rcases hj with h1 | h1 | h1 | ⟨h1,h2⟩
   ·exact .inl h1
   ·exact .inr (.inl h1)
   ·exact .inr (.inr (.inl h1))
   ·refine .inr (.inr (.inr ⟨h1,?_⟩));rcases List.mem_append.1 h2 with h3 | h3
    ·exact h3
    ·simp at h3;exact absurd h3.2 e
  have hlv:=Wd.dn h m.wv i j (hl i hi) (hj'.mono (fun k hk=>hl k hk) (fun _ h=>h));refine b9.2 ⟨hlv.1,by rw [hsl];exact hlv.2.1,?_⟩;exact bu.closed _ _ _ i j (b9.1 hi).2.2 (hj'.mono (fun k hk=>(b9.1 hk).2.2) (fun _ h=>h))
theorem iS (a:Int × Int) (b:Bool) (l:List It):bM ((a,b,true) :: l)=bM l:=by rw [eX];simp
theorem jm {i:It} (h:i.2.2=false) (l:List It):bM (i :: l)=1+bM l:=by rw [eX,h];simp
theorem jO (l:List (Int × Int)) (f:Int × Int→Bool):bM (l.map fun e=>(e,f e,false))=l.length:=by
 induction l with
 | nil=>rfl
 | cons a l ih=>rw [List.map_cons,jm rfl,ih];simp;omega
theorem Wd.dO.scan {W:Wd} (h:W.ok) {major:Bool}:∀ (l:List It) (is:List Bool) (q:List (Int × Int)),W.dO major is q→(∀ i ∈ l,W.dx i.1) →
  W.dO major (scanM az W.a6 is q l).1 (scanM az W.a6 is q l).2.1∧(∀ i,az is i=true→az (scanM az W.a6 is q l).1 i=true) ∧
  (scanM az W.a6 is q l).2.1.length+bM (scanM az W.a6 is q l).2.2.1=q.length+bM l
 | [],is,q,m,_=>⟨m,fun _ h=>h,rfl⟩
 | i :: l,is,q,m,hl=>by
  have hi:=hl i (by simp);simp only [scanM];split
  ·rename_i hc;simp only [Bool.and_eq_true,Bool.not_eq_true'] at hc;obtain ⟨m',hm1,_⟩:=m.ae h (g:=i.1.1) (x:=i.1.2) hi.2.2 hi.1 hi.2.1;have ih:=Wd.dO.scan h l _ _ m' (fun j hj=>hl j (by simp [hj]));simp only [Wd.a6];refine ⟨ih.1,fun k hk=>ih.2.1 k (hm1 k hk),?_⟩;have h3:=ih.2.2;simp only [Wd.a6,List.length_append,List.length_cons,List.length_nil] at h3;rw [iS,jm hc.1.2];omega
  ·have ih:=Wd.dO.scan h l is q m (fun j hj=>hl j (by simp [hj]));refine ⟨ih.1,ih.2.1,?_⟩;have h3:=ih.2.2;simp only [eX] at h3 ⊢;omega
theorem nQ {W:Wd} {l:List It} (is:List Bool) (q:List (Int × Int)) (hl:∀ i ∈ l,W.dx i.1):∀ i ∈ (scanM az W.a6 is q l).2.2.1,W.dx i.1:=by
 intro i hi;have h1:(i.1,i.2.1) ∈ (scanM az W.a6 is q l).2.2.1.map (fun i=>(i.1,i.2.1)):=List.mem_map.2 ⟨i,hi,rfl⟩;rw [fy] at h1;obtain ⟨j,hj,e⟩:=List.mem_map.1 h1;have:=hl j hj;have e1:j.1=i.1:=congrArg (fun p:(Int × Int) × Bool=>p.1) e;rwa [e1] at this
theorem Wd.dO.rounds {W:Wd} (h:W.ok) {major:Bool}:∀ (n:Nat) (l:List It) (is:List Bool) (q:List (Int × Int)),W.dO major is q→(∀ i ∈ l,W.dx i.1) →
  W.dO major (roundsM az W.a6 n is q l).1 (roundsM az W.a6 n is q l).2.1∧(∀ i,az is i=true→az (roundsM az W.a6 n is q l).1 i=true) ∧
  (roundsM az W.a6 n is q l).2.1.length+bM (roundsM az W.a6 n is q l).2.2=q.length+bM l ∧
  (roundsM az W.a6 n is q l).2.2.map (fun i=>(i.1,i.2.1))=l.map (fun i=>(i.1,i.2.1))
 | 0,l,is,q,m,_=>⟨m,fun _ h=>h,rfl,rfl⟩
 | n+1,l,is,q,m,hl=>by
  have hs:=Wd.dO.scan h l is q m hl;have hf:=fy az W.a6 l is q;simp only [roundsM];split
  ·have ih:=Wd.dO.rounds h n (scanM az W.a6 is q l).2.2.1 _ _ hs.1 (nQ is q hl);refine ⟨ih.1,fun k hk=>ih.2.1 k (hs.2.1 k hk),by rw [ih.2.2.1,hs.2.2],by rw [ih.2.2.2,hf]⟩
  ·exact ⟨hs.1,hs.2.1,hs.2.2,hf⟩
theorem Wd.gj {W:Wd} (h:W.ok) (major:Bool):W.dO major (W.pass major).1 (W.pass major).2.1∧(∀ i,az (W.bQ W.wait (W.first major)) i=true→az (W.pass major).1 i=true) ∧
  (W.pass major).2.1.length+bM (W.pass major).2.2=W.wait.length+W.regs.length ∧
  (W.pass major).2.2.map (fun i=>(i.1,i.2.1))=W.regs.map fun e=>(e,!az (W.bQ W.wait (W.first major)) e.2):=by
 have:=Wd.dO.rounds h (W.regs.length+1) (bC az (W.bQ W.wait (W.first major)) W.regs) _ _ (Wd.dO.start h major) (by
  intro i hi;simp only [bC,List.mem_map] at hi;obtain ⟨e,he,rfl⟩:=hi
  exact h.gv e he)
 refine ⟨this.1,this.2.1,?_,?_⟩
 ·have h3:=this.2.2.1;have:bM (bC az (W.bQ W.wait (W.first major)) W.regs)=W.regs.length:=jO _ _;rw [this] at h3;exact h3
 ·have h3:=this.2.2.2;rw [Wd.pass,ev,h3];simp [bC]
end
section
theorem dR {is:List Bool} {i:Int} (h0:0≤i):is.getD i.toNat false=az is i:=by unfold az;simp [h0]
theorem kV (is:List Bool) (i:Nat) (t:Th):(cj is i t).k=t.k:=by unfold cj;split <;> rfl
theorem kW {is:List Bool} {i:Nat} {t:Th} (h:is.getD i false=true):(cj is i t).dead=t.dead∧(cj is i t).aR=true:=by unfold cj;rw [if_pos h];exact ⟨rfl,rfl⟩
theorem kX {is:List Bool} {i:Nat} {t:Th} (h:is.getD i false=false):(cj is i t).dead=true:=by unfold cj;rw [if_neg (by rw [h];decide)]
theorem ma {is:List Bool} {i:Nat} {t:Th} (h:is.getD i false=true) (hf:aW t.k t.fs.length=true):(cj is i t).fs.length=t.fs.length:=by
 unfold cj;rw [if_pos h]
 show List.length (if _ then _ else _)=_
 split
 ·rename_i hc;rw [hc.1] at hf;simp [aW] at hf;simp;omega
 ·split
  ·rename_i hc;rw [hc.1] at hf;simp [aW] at hf;simp;omega
  ·rfl
theorem pZ {W:Wd} {is:List Bool} {i:Int} (h0:0≤i) (h1:i<W.T.length):(fr is W.T).getD i.toNat Th.none=cj is i.toNat (W.th i):=by
 unfold fr Wd.th;simp only [Ld,List.getElem?_mapIdx];rw [Le (by omega)]
 rfl
theorem Wd.gq {W:Wd} {major:Bool} {i:Int} (h0:0≤i) (h1:i<W.T.length):(W.after major).th i=cj (W.pass major).1 i.toNat (W.th i):=pZ h0 h1
theorem Wd.gF {W:Wd} {major:Bool}:(W.after major).T.length=W.T.length:=by simp [Wd.after,fr]
theorem Wd.fN {W:Wd} (h:W.ok) {major:Bool} {i:Int}:(W.after major).live i↔az (W.pass major).1 i=true:=by
 obtain ⟨m,_⟩:=Wd.gj h major;constructor
 ·rintro ⟨h0,h1,h2⟩;rw [Wd.gF] at h1;rw [Wd.gq h0 h1] at h2;cases hb:az (W.pass major).1 i
  ·rw [kX (by rw [dR h0,hb])] at h2;cases h2
  ·rfl
 ·intro hb;have hl:=m.live i hb;refine ⟨hl.1,by rw [Wd.gF];exact hl.2.1,?_⟩;rw [Wd.gq hl.1 hl.2.1,(kW (by rw [dR hl.1];exact hb)).1];exact hl.2.2
theorem jw {W:Wd} (h:W.ok) {q:List (Int × Int)} {is:List Bool} (hs:ee W.nd q fun k=>az is k=true) {i:Int} (hi:W.live i) (hb:az is i=true) :
  ∀ v ∈ (cj is i.toNat (W.th i)).fs,(v=(2,0))∨(v ∈ (W.th i).fs∧a5 is v=true):=by
 intro v hv;have hf:=h.tk i hi;unfold cj at hv;rw [if_pos (by rw [dR hi.1];exact hb)] at hv;have shut:∀ j,dW W.nd q (fun k=>az is k=true) i j→az is j=true:=fun j hj=>hs i j hb hj;have inS_of:∀ v:Vl,(v.1=3→az is v.2=true)→a5 is v=true:=fun v hv=>by
  unfold a5;by_cases e:v.1=3
  ·simp [e,hv e]
  ·simp [e]
 have two:(W.th i).fs.length=2→∃ a b,(W.th i).fs=[a,b]:=fun hl=>by
  match hx:(W.th i).fs,hl with
  | [a,b],_=>exact ⟨a,b,rfl⟩
 change v ∈ (if _ then _ else _) at hv;split at hv
 ·left;simp at hv;exact hv
 ·rename_i hc4;split at hv
  ·rename_i hc3;rw [hc3.1] at hf;simp [aW] at hf;obtain ⟨a,b,e⟩:=two (by omega);rw [e] at hv;simp at hv;rcases hv with rfl | rfl
   ·exact .inl rfl
   ·refine .inr ⟨by rw [e];simp,inS_of _ fun e3=>shut _ (.inr (.inl ⟨hc3.1,?_⟩))⟩
    show (W.th i).fs[1]? = _
    rw [e];cases v;simp_all
  ·rename_i hc3;right;refine ⟨hv,inS_of v fun e3=>?_⟩;have e4:v=(3,v.2):=by cases v;simp_all
   have hk:=bs hf;by_cases k12:(W.th i).k=1∨(W.th i).k=2
   ·exact shut _ (.inl ⟨k12,by rw [←e4];exact hv⟩)
   by_cases k3:(W.th i).k=3
   ·have h0:a5 is ((W.th i).fs.getD 0 (0,0))=true:=by
     cases hx:a5 is ((W.th i).fs.getD 0 (0,0))
     ·exact absurd ⟨k3,hx⟩ hc3
     ·rfl
    rw [k3] at hf;simp [aW] at hf;obtain ⟨a,b,e⟩:=two (by omega);rw [e] at hv h0;simp at hv h0;rcases hv with rfl | rfl
    ·simp [a5,e3] at h0;exact h0
    ·exact shut _ (.inr (.inl ⟨k3,by show (W.th i).fs[1]? = _;rw [e,←e4];rfl⟩))
   by_cases k4:(W.th i).k=4
   ·have h0:a5 is ((W.th i).fs.getD 0 (0,0))=true:=by
     cases hx:a5 is ((W.th i).fs.getD 0 (0,0))
     ·exact absurd ⟨k4,hx⟩ hc4
     ·rfl
    rw [k4] at hf;simp [aW] at hf;obtain ⟨a,b,e⟩:=two (by omega);rw [e] at hv h0;simp at hv h0;rcases hv with rfl | rfl
    ·simp [a5,e3] at h0;exact h0
    ·refine shut _ (.inr (.inr (.inl ⟨k4,by show (W.th i).fs[1]? = _;rw [e,←e4];rfl,fun u hu hu3=>?_⟩)));have hu':(W.th i).fs[0]? = some u:=hu;rw [e] at hu';simp at hu';subst hu';simp [a5,hu3] at h0;exact h0
   ·have k5:(W.th i).k=5:=by
     have h1:(W.th i).k≠1:=fun e=>k12 (.inl e);have h2:(W.th i).k≠2:=fun e=>k12 (.inr e);omega
    rw [k5] at hf;simp [aW] at hf;have:(W.th i).fs=[]:=by
     cases hx:(W.th i).fs with
     | nil=>rfl
     | cons a l=>rw [hx] at hf;simp at hf
    rw [this] at hv;cases hv
theorem kY (is:List Bool):∀ (l:List Th) (n:Nat) (hl:∀ j (h:j<l.length),is.getD (n+j) false=true→l[j].dead=false∧aW l[j].k l[j].fs.length=true),
  cf (l.mapIdx fun i t=>cj is (n+i) t) (fun t=>!t.dead && !t.aR)=0 ∧
  cf (l.mapIdx fun i t=>cj is (n+i) t) (fun t=>!t.dead && t.aR)=(l.mapIdx fun i t=>if is.getD (n+i) false then t.words else 0).sum
 | [],_,_=>⟨rfl,rfl⟩
 | t :: l,n,hl=>by
  have ih:=kY is l (n+1) (fun j h=>by
   have:=hl (j+1) (by simp;omega);simp only [List.getElem_cons_succ] at this
   rw [show n+1+j=n+(j+1) by omega];exact this)
  have e:∀ (f:Nat→Th→Th),(fun i t=>f (n+1+i) t)=fun i t=>f (n+(i+1)) t:=fun f=>by funext i t;rw [show n+1+i=n+(i+1) by omega]
  have e2:∀ (f:Nat→Th→Int),(fun i t=>f (n+1+i) t)=fun i t=>f (n+(i+1)) t:=fun f=>by funext i t;rw [show n+1+i=n+(i+1) by omega]
  rw [e (cj is),e2 (fun i t=>if is.getD i false then t.words else 0)] at ih;have h0:=hl 0 (by simp);simp only [List.getElem_cons_zero,Nat.add_zero] at h0;simp only [cf] at ih ⊢;simp only [List.mapIdx_cons,List.map_cons,List.sum_cons,Nat.add_zero];rw [ih.1,ih.2];cases hb:is.getD n false
  ·have hd:=kX (t:=t) hb;simp [hd]
  ·obtain ⟨h1,h2⟩:=h0 hb;have hl2:=kW (t:=t) hb;have hl3:=ma hb h2;simp only [hl2.1,hl2.2,h1,Th.words,hl3];simp
theorem Wd.fO {W:Wd} (h:W.ok) (major:Bool):(W.after major).aI=0∧(W.after major).aY=eR (W.pass major).1 W.T:=by
 obtain ⟨m,_⟩:=Wd.gj h major;have:=kY (W.pass major).1 W.T 0 (fun j hj hb=>by
  rw [Nat.zero_add,←bS] at hb;have hl:=m.live _ hb;obtain ⟨h',e⟩:=Wd.kH hl;simp only [Int.toNat_natCast] at e;rw [←e]
  exact ⟨hl.2.2,h.tk _ hl⟩)
 simp only [Nat.zero_add] at this;exact this
theorem Wd.gV {W:Wd} (h:W.ok) {major:Bool} {i:Int} (hb:az (W.pass major).1 i=true):((W.after major).th i).k=(W.th i).k:=by
 obtain ⟨m,_⟩:=Wd.gj h major;have hl:=m.live i hb;rw [Wd.gq hl.1 hl.2.1,kV]
theorem mL {is:List Bool} {l:List It} {e:Int × Int} (h:e ∈ bz az cH is l):∃ i ∈ l,i.1=e∧i.2.1=false∧az is e.1=true:=by
 unfold bz at h;simp only [List.mem_map,List.mem_filter,Bool.and_eq_true,Bool.not_eq_true'] at h;obtain ⟨i,⟨hi,h1,h2⟩,rfl⟩:=h;exact ⟨i,hi,rfl,h1,h2⟩
theorem mM {is:List Bool} {l:List (Int × Int)} {e:Int × Int} (h:e ∈ bA az cH is l):e ∈ l∧az is e.1=true:=by
 unfold bA at h;simp only [List.mem_map,List.mem_filter] at h;obtain ⟨i,⟨hi,h1⟩,rfl⟩:=h;exact ⟨hi,h1⟩
theorem Wd.ok.after {W:Wd} (h:W.ok) {major:Bool} (hroom:eR (W.pass major).1 W.T≤W.grow):(W.after major).ok:=by
 obtain ⟨m,hfst,hcnt,hits⟩:=Wd.gj h major;have hs:=Wd.fO h major;have lv:∀ i,az (W.pass major).1 i=true→(W.after major).live i:=fun i hi=>(Wd.fN h).2 hi;have clo1:∀ i,az (W.first major) i=true→az (W.pass major).1 i=true:=m.first
 have root:∀ v ∈ W.roots,v.1=3→az (W.pass major).1 v.2=true:=fun v hv e=>by
  have hl:=Wd.bg (h.rv v hv) e;have e2:v=(3,v.2):=by cases v;simp_all
  exact m.first _ (Wd.jN.2 ⟨hl.1,hl.2.1, .inr (by rw [←e2];exact hv)⟩)
 refine ⟨h.hr,fun v hv=>?_,fun i hi=>?_,fun i hi v hv=>?_,fun e he=>?_,fun e he=>?_,?_,h.m1,h.m2,h.g1,h.g2,?_,?_⟩
 ·rcases h.rv v hv with h1 | h1 | h1 | h1
  ·exact .inl h1
  ·exact .inr (.inl h1)
  ·exact .inr (.inr (.inl h1))
  ·exact .inr (.inr (.inr ⟨h1.1,lv _ (root v hv h1.1)⟩))
 ·have hb:=(Wd.fN h).1 hi;have hl:=m.live i hb;rw [Wd.gq hl.1 hl.2.1,kV,ma (by rw [dR hl.1];exact hb) (h.tk i hl)];exact h.tk i hl
 ·have hb:=(Wd.fN h).1 hi;have hl:=m.live i hb;rw [Wd.gq hl.1 hl.2.1] at hv;rcases jw h m.shut hl hb v hv with rfl | ⟨hv1,hv2⟩
  ·exact .inr (.inr (.inl ⟨rfl,rfl⟩))
  ·rcases h.tv i hl v hv1 with h1 | h1 | h1 | h1
   ·exact .inl h1
   ·exact .inr (.inl h1)
   ·exact .inr (.inr (.inl h1))
   ·refine .inr (.inr (.inr ⟨h1.1,lv _ ?_⟩));simp [a5,h1.1] at hv2;exact hv2
 ·obtain ⟨i,hi,rfl,hd,hg⟩:=mL he;have h1:(i.1,i.2.1) ∈ (W.pass major).2.2.map (fun i=>(i.1,i.2.1)):=List.mem_map.2 ⟨i,hi,rfl⟩;rw [hits] at h1;obtain ⟨e,he',e2⟩:=List.mem_map.1 h1;have e3:e=i.1:=congrArg (fun p:(Int × Int) × Bool=>p.1) e2;have e4:(!az (W.bQ W.wait (W.first major)) e.2)=i.2.1:=congrArg (fun p:(Int × Int) × Bool=>p.2) e2;have hgv:=h.gv e he';rw [e3] at hgv e4;rw [hd] at e4;refine ⟨lv _ hg,?_,lv _ (hfst _ (by simpa using e4))⟩;rw [Wd.gV h hg];exact hgv.2.1
 ·obtain ⟨h1,h2⟩:=mM he;have hwv:=m.wv e h1;refine ⟨lv _ h2,by rw [Wd.gV h h2];exact hwv.2.1,lv _ (m.shut _ _ h2 (.inr (.inr (.inr ⟨hwv.2.1,h1⟩))))⟩
 ·have hq:=h.hq;have h1:(W.after major).wait.length≤(W.pass major).2.1.length:=by
   simp only [Wd.after,bA,List.length_map];exact List.length_filter_le _ _
  have h2:(W.after major).regs.length≤bM (W.pass major).2.2:=by
   simp only [Wd.after,bz,List.length_map];have hmv:∀ i ∈ (W.pass major).2.2,i.2.1=false→i.2.2=false:=by
    have key:∀ (l:List It) (is:List Bool) (q:List (Int × Int)),(∀ i ∈ l,i.2.1=false→i.2.2=false)→∀ i ∈ (scanM az W.a6 is q l).2.2.1,i.2.1=false→i.2.2=false:=by
     intro l
     induction l with
     | nil=>intro is q _ i hi;simp [scanM] at hi
     | cons a l ih=>
      intro is q hl i hi;simp only [scanM] at hi;split at hi
      ·rename_i hc;simp only [Bool.and_eq_true] at hc;rcases List.mem_cons.1 hi with rfl | hi
       ·intro e;rw [hc.1.1] at e;cases e
       ·exact ih _ _ (fun j hj=>hl j (by simp [hj])) i hi
      ·rcases List.mem_cons.1 hi with rfl | hi
       ·exact hl _ (by simp)
       ·exact ih _ _ (fun j hj=>hl j (by simp [hj])) i hi
    have key2:∀ (n:Nat) (l:List It) (is:List Bool) (q:List (Int × Int)),(∀ i ∈ l,i.2.1=false→i.2.2=false)→∀ i ∈ (roundsM az W.a6 n is q l).2.2,i.2.1=false→i.2.2=false:=by
     intro n
     induction n with
     | zero=>intro l is q hl;exact hl
     | succ n ih=>
      intro l is q hl;simp only [roundsM];split
      ·exact ih _ _ _ (key l is q hl)
      ·exact key l is q hl
    exact key2 _ _ _ _ (fun i hi=>by simp only [bC,List.mem_map] at hi;obtain ⟨e,_,rfl⟩:=hi;intro _;rfl)
   unfold bM;rw [←List.countP_eq_length_filter,←List.countP_eq_length_filter];exact List.countP_mono_left fun i hi h=>by
    simp only [Bool.and_eq_true,Bool.not_eq_true'] at h;simp [hmv i hi h.1]
  show (W.after major).regs.length+(W.after major).wait.length≤24
  omega
 ·show (W.after major).aI≤W.most;rw [hs.1];have:=h.m1;omega
 ·show (W.after major).aY≤W.grow;rw [hs.2];exact hroom
theorem Wd.ok.cut {W:Wd} (h:W.ok) (major:Bool):(W.cut major).2.ok:=by
 unfold Wd.cut;split
 ·exact h
 ·split
  ·exact h
  ·exact h.after (by omega)
theorem Wd.ok.room {W:Wd} (h:W.ok) (n:Int) (hn:n≤13):(W.room n).2.ok∧((W.room n).1=0→n≤(W.room n).2.most-(W.room n).2.aI):=by
 unfold Wd.room;split
 ·refine ⟨h.cut _,fun h0=>?_⟩;unfold Wd.cut at h0 ⊢;split
  ·rename_i hc;rw [if_pos hc] at h0;simp at h0
  ·rename_i hc;rw [if_neg hc] at h0;split
   ·rename_i hd;rw [if_pos hd] at h0;simp at h0
   ·show n≤W.most-(W.after _).aI
    rw [(Wd.fO h _).1];have:=h.m1;omega
 ·exact ⟨h,fun _=>by show n≤W.most-W.aI;omega⟩
theorem Wd.ok.bO {W:Wd} (h:W.ok) {r k:Int} {l:List Int} (hf:aW k l.length=true):(W.bO r k l).2.ok:=by
 unfold Wd.bO;have hl:=(bs hf).2.2.2;have hr:=h.room (1+l.length) (by omega);split
 ·rename_i h0;refine hr.1.put (by simpa using hf) (fun v hv=>?_) (by simpa using hr.2 h0);obtain ⟨a,_,rfl⟩:=List.mem_map.1 hv;exact Wd.eS hr.1 a
 ·exact h
theorem Wd.bI {W:Wd} (h:W.ok) {k:Int} (hk:¬ W.aw k<0):W.live (W.aw k):=by
 unfold Wd.aw at hk ⊢;split
 ·rename_i h3;exact Wd.bg (Wd.eS h k) h3
 ·rename_i h3;rw [if_neg h3] at hk;simp at hk
theorem Wd.nR {W:Wd} (h:W.ok) {k:Int} (hk:¬ W.guard k<0):W.live (W.guard k)∧(W.th (W.guard k)).k=5∧W.guard k=W.aw k:=by
 unfold Wd.guard at hk ⊢;split
 ·rename_i h3;rw [if_pos h3] at hk;simp at hk
 ·rename_i h3;have h5:(W.th (W.aw k)).k=5:=by
   by_cases e:(W.th (W.aw k)).k=5
   ·exact e
   ·exact absurd (Or.inr e) h3
  exact ⟨Wd.bI h (fun e=>h3 (.inl e)),h5,rfl⟩
theorem iu:∀ {l:List (Int × Int)} {g:Int} {r:Int × List (Int × Int)},popW l g=some r→(g,r.1) ∈ l∧(∀ e ∈ r.2,e ∈ l)∧r.2.length+1=l.length
 | [],g,r,h=>by simp [popW] at h
 | e :: l,g,r,h=>by
  unfold popW at h;split at h
  ·rename_i hg;simp at h;subst h;refine ⟨?_,fun e he=>by simp [he],rfl⟩;rw [←hg];simp
  ·simp only [Option.map_eq_some_iff] at h;obtain ⟨r',h1,rfl⟩:=h;have ih:=iu h1;refine ⟨by simp [ih.1],fun x hx=>?_,by simp;omega⟩;rcases List.mem_cons.1 hx with rfl | hx
   ·simp
   ·simp [ih.2.1 x hx]
theorem Wd.iw {W:Wd} {x:St} (h:W.aV x=0):¬ W.aw x.a<0∧(W.th (W.aw x.a)).k≠5∧0≤x.i∧x.i<(W.th (W.aw x.a)).fs.length:=by
 unfold Wd.aV at h;split at h
 ·simp at h
 ·rename_i hc;split at h
  ·simp at h
  ·rename_i hd;exact ⟨fun e=>hc (.inl e),fun e=>hc (.inr e),by omega,by omega⟩
theorem Wd.gW {W:Wd} {n:Int} (h1:-cL≤n) (h2:n<cL):W.cO (1,n):=.inr (.inl ⟨rfl,h1,h2⟩)
theorem aB {x:St} (h:aP x=0):¬ aH x.k=-1∧(aH x.k%2=1→bT x.r=true)∧(aH x.k/2%2=1→bT x.a=true)∧(aH x.k/4%2=1→bT x.b=true) ∧
  (x.k=1→-cL≤x.n∧x.n<cL)∧(x.k=5→0≤x.n∧x.n≤12):=by
 unfold aP at h;split at h
 ·simp at h
 ·rename_i h1;split at h
  ·simp at h
  ·rename_i h2;split at h
   ·simp at h
   ·rename_i h3;split at h
    ·simp at h
    ·rename_i h4;have nb:∀ b:Bool,¬ b=false→b=true:=fun b=>by cases b <;> simp
     exact ⟨h1,fun h=>nb _ fun e=>h2 (.inl ⟨h,e⟩),fun h=>nb _ fun e=>h2 (.inr (.inl ⟨h,e⟩)),fun h=>nb _ fun e=>h2 (.inr (.inr ⟨h,e⟩)),
      fun h=>Classical.not_not.1 fun e=>h3 ⟨h,e⟩,fun h=>Classical.not_not.1 fun e=>h4 ⟨h,e⟩⟩
theorem Wd.ok.do {W:Wd} (h:W.ok) (x:St):(W.do x).2.ok:=by
 unfold Wd.do
 split
 ·rename_i hc;have hu:=aB hc;unfold Wd.step;by_cases k1:x.k=1
  ·rw [if_pos k1];exact h.bj (Wd.gW (hu.2.2.2.2.1 k1).1 (hu.2.2.2.2.1 k1).2) _
  rw [if_neg k1];by_cases k2:x.k=2
  ·rw [if_pos k2];exact h.bj (.inl ⟨rfl,rfl⟩) _
  rw [if_neg k2];by_cases k3:x.k=3
  ·rw [if_pos k3];exact h.bj (Wd.eS h _) _
  rw [if_neg k3];by_cases k4:x.k=4
  ·rw [if_pos k4];exact h.bO rfl
  rw [if_neg k4];by_cases k5:x.k=5
  ·rw [if_pos k5];refine h.bO ?_;have:=hu.2.2.2.2.2 k5;simp [aW];omega
  rw [if_neg k5];by_cases k6:x.k=6
  ·rw [if_pos k6];exact h.bO rfl
  rw [if_neg k6];by_cases k7:x.k=7
  ·rw [if_pos k7];exact h.bO rfl
  rw [if_neg k7];by_cases k8:x.k=8
  ·rw [if_pos k8];exact h.bO rfl
  rw [if_neg k8];by_cases k9:x.k=9
  ·rw [if_pos k9];unfold Wd.fC;split
   ·exact h
   ·rename_i h1;split
    ·exact h
    ·rename_i h2;have ha:=Wd.bI h (fun e=>h1 (.inl e));have hb:=Wd.nR h (fun e=>h1 (.inr e));refine ⟨h.hr,h.rv,h.tk,h.tv,fun e he=>?_,h.wv,?_,h.m1,h.m2,h.g1,h.g2,h.uy,h.uo⟩
     ·rcases List.mem_append.1 he with he | he
      ·exact h.gv e he
      ·rw [List.mem_singleton.1 he];exact ⟨hb.1,hb.2.1,ha⟩
     ·show (W.regs ++ _).length+W.wait.length≤24
      simp;omega
  rw [if_neg k9];by_cases k10:x.k=10
  ·rw [if_pos k10];unfold Wd.pop;split
   ·exact h
   ·rename_i h1;split
    ·exact h
    ·rename_i r hr;have hp:=iu hr;have hw:=h.wv _ hp.1;refine ⟨by simpa using h.hr,fun v hv=>?_,h.tk,h.tv,h.gv,fun e he=>h.wv e (hp.2.1 e he),?_,h.m1,h.m2,h.g1,h.g2,h.uy,h.uo⟩
     ·rcases List.mem_or_eq_of_mem_set hv with h2 | rfl
      ·exact h.rv v h2
      ·exact .inr (.inr (.inr ⟨rfl,hw.2.2⟩))
     ·have:=h.hq
      show W.regs.length+r.2.length≤24
      omega
  rw [if_neg k10];by_cases k11:x.k=11
  ·rw [if_pos k11];unfold Wd.get;split
   ·rename_i h0;have hf:=Wd.iw h0;refine h.bj ?_ _;rw [Ld,Le (by omega)];exact h.tv _ (Wd.bI h hf.1) _ (List.getElem_mem _)
   ·exact h
  rw [if_neg k11];by_cases k12:x.k=12
  ·rw [if_pos k12];unfold Wd.set;split
   ·rename_i h0;have hf:=Wd.iw h0;have hl:=Wd.bI h hf.1;refine h.bU hl (by simp) fun v hv=>?_;rcases List.mem_or_eq_of_mem_set hv with h2 | rfl
    ·exact h.tv _ hl v h2
    ·exact Wd.eS h _
   ·exact h
  rw [if_neg k12];by_cases k13:x.k=13
  ·rw [if_pos k13];unfold Wd.len;split
   ·exact h
   ·rename_i h1;have hl:=Wd.bI h (fun e=>h1 (.inl e));have:=bs (h.tk _ hl);exact h.bj (Wd.gW (by unfold cL;omega) (by unfold cL;omega)) _
  rw [if_neg k13];by_cases k14:x.k=14
  ·rw [if_pos k14];unfold Wd.same;exact h.bj (Wd.gW (by unfold cL;split <;> omega) (by unfold cL;split <;> omega)) _
  rw [if_neg k14];by_cases k15:x.k=15
  ·rw [if_pos k15];exact h.cut _
  rw [if_neg k15];exact h.cut _
 ·exact h
theorem Wd.fW {n o:Int} (h1:16≤n) (h2:n≤256) (h3:0≤o) (h4:o≤1024):(Wd.new n o).ok:=by
 have nl:∀ i,¬ (Wd.new n o).live i:=fun i h=>by have h1:=h.1;have h2:=h.2.1;simp [Wd.new] at h2;omega
 refine ⟨by simp [Wd.new],fun v hv=>?_,fun i hi=>(nl i hi).elim,fun i hi=>(nl i hi).elim,fun e he=>by simp [Wd.new] at he,fun e he=>by simp [Wd.new] at he,by simp [Wd.new],h1,h2,h3,h4,?_,?_⟩
 ·simp [Wd.new] at hv;subst hv;exact .inl ⟨rfl,rfl⟩
 ·show cf [] _≤n;simp [cf];omega
 ·show cf [] _≤o;simp [cf];omega
end
section
open Go.RowKit
structure RW where
 p:Nat
 tv:Value
 rv:Value
 gv:Value
 wv:Value
 F:Nat→Prop
def dX (w:World) (F:Nat→Prop) (t:Th) (r:List Value):Prop:=
 ∃ ao cap,r=[.int .i64 t.k, .slice ao t.fs.length cap, .bool t.aR, .bool t.dead]∧Rd w ao (au t.fs)∧(∀ a,ao=some a→F a.block)∧t.fs.length≤maxLen
theorem dX.ae {w w':World} {F S:Nat→Prop} {t:Th} {r:List Value} (h:dX w F t r) (k:aa S w w') (hn:∀ b,F b→b<w.heap.size→¬ S b):dX w' F t r:=by
 obtain ⟨ao,cap,e,hr,hf,hc⟩:=h;exact ⟨ao,cap,e,hr.ae k (fun a ha hb=>hn _ (hf a ha) hb),hf,hc⟩
theorem dX.more {w:World} {F F':Nat→Prop} {t:Th} {r:List Value} (h:dX w F t r) (hF:∀ b,F b→F' b):dX w F' t r:=by
 obtain ⟨ao,cap,e,hr,hf,hc⟩:=h;exact ⟨ao,cap,e,hr,fun a ha=>hF _ (hf a ha),hc⟩
def ew (w:World) (v:Value) (F:Nat→Prop) (l:List Th):Prop:=∃ cs,Sl w 161 4 v l.length cs∧bp 4 (dX w F) l cs
theorem ew.ae {w w':World} {v:Value} {F S:Nat→Prop} {l:List Th} (h:ew w v F l) (k:aa S w w') (hn:∀ b,F b→b<w.heap.size→¬ S b) (hv:∀ b,ag v b→¬ S b):ew w' v F l:=by
 obtain ⟨cs,h1,h2⟩:=h;exact ⟨cs,h1.ae k hv,h2.mono (fun a _ r hr=>hr.ae k hn)⟩
theorem ew.nth {w:World} {v:Value} {F:Nat→Prop} {l:List Th} (h:ew w v F l):∃ no nc,v=.slice no l.length nc∧∀ i,i<l.length→∃ g o ao cap,no=some ⟨g,o,none⟩∧ag v g∧g<w.heap.size∧w.cell? ⟨g,o+i*4,none⟩=some (.int .i64 (l.getD i Th.none).k) ∧
  w.cell? ⟨g,o+i*4+1,none⟩=some (.slice ao (l.getD i Th.none).fs.length cap)∧w.cell? ⟨g,o+i*4+2,none⟩=some (.bool (l.getD i Th.none).aR)∧w.cell? ⟨g,o+i*4+3,none⟩=some (.bool (l.getD i Th.none).dead) ∧
  Rd w ao (au (l.getD i Th.none).fs)∧(∀ a,ao=some a→F a.block)∧(l.getD i Th.none).fs.length≤maxLen:=by
 obtain ⟨cs,hs,hr⟩:=h;obtain ⟨no,nc,rfl,hrd,-,-⟩:=hs.rd;refine ⟨no,nc,rfl,fun i hi=>?_⟩;obtain ⟨r,h1,⟨ao,cap,rfl,h2,h5,h3⟩,h4⟩:=hr.cell hi;have hlen:=hr.length;have hne:cs≠[]:=by intro e;subst e;simp at hlen;omega
 obtain ⟨g,o,rfl,hg,hc⟩:=hrd hne;have e:l.getD i Th.none=l[i]:=by rw [Ld,Le hi];rfl
 rw [e];refine ⟨g,o,ao,cap,rfl,rfl,hg,?_,?_,?_,?_,h2,h5,h3⟩
 ·have:=h4 0 (by decide);rw [hc (i*4) (by rw [hlen];omega)];exact this
 ·have:=h4 1 (by decide);rw [Nat.add_assoc,hc (i*4+1) (by rw [hlen];omega)];exact this
 ·have:=h4 2 (by decide);rw [Nat.add_assoc,hc (i*4+2) (by rw [hlen];omega)];exact this
 ·have:=h4 3 (by decide);rw [Nat.add_assoc,hc (i*4+3) (by rw [hlen];omega)];exact this
def RW.Own (h:RW) (k:Nat):Prop:=k=h.p∨ag h.tv k∨ag h.rv k∨ag h.gv k∨ag h.wv k∨h.F k
structure aK (w:World) (h:RW) (W:Wd):Prop where
 hp:ah w h.p [h.tv,h.rv,h.gv,h.wv, .int .i64 W.most, .int .i64 W.grow] 150
 ht:ew w h.tv h.F W.T
 hr:Sl w 78 2 h.rv W.roots.length (au W.roots)
 hg:Sl w 159 2 h.gv W.regs.length (au W.regs)
 hw:Sl w 159 2 h.wv W.wait.length (au W.wait)
 ap:∀ k,¬ (ag h.gv k∧ag h.wv k)
 af:∀ k,h.F k→k<w.heap.size∧(∃ c,ah w k c 78)∧¬ ag h.rv k
 ok:W.ok
def aC (w:World) (h:RW) (w':World) (W':Wd):Prop:=
 ∃ h',aK w' h' W'∧h'.p=h.p∧aa h.Own w w'∧∀ k,h'.Own k→h.Own k∨w.heap.size≤k
section
variable {w w':World} {h:RW} {W:Wd}
theorem aK.ae {S:Nat→Prop} (H:aK w h W) (k:aa S w w') (hn:∀ b,h.Own b→¬ S b):aK w' h W:=
 ⟨k.ai H.hp (hn _ (.inl rfl)),H.ht.ae k (fun b hb _=>hn b (.inr (.inr (.inr (.inr (.inr hb)))))) (fun b hb=>hn b (.inr (.inl hb))),H.hr.ae k (fun b hb=>hn b (.inr (.inr (.inl hb)))),H.hg.ae k (fun b hb=>hn b (.inr (.inr (.inr (.inl hb))))),
  H.hw.ae k (fun b hb=>hn b (.inr (.inr (.inr (.inr (.inl hb)))))),H.ap,fun b hb=>by
   obtain ⟨h1,⟨c,h2⟩,h3⟩:=H.af b hb
   exact ⟨Nat.lt_of_lt_of_le h1 k.size,⟨c,k.ai h2 (hn b (.inr (.inr (.inr (.inr (.inr hb))))))⟩,h3⟩,H.ok⟩
theorem aK.same (H:aK w h W) (k:aa (fun _=>False) w w'):aK w' h W:=H.ae k (fun _ _ h=>h)
theorem aC.same (H:aK w h W) (k:aa (fun _=>False) w w'):aC w h w' W:=⟨h,H.same k,rfl,k.mono (fun _ _ h=>h.elim),fun k hk=>.inl hk⟩
theorem aC.aN {w1:World} {W1:Wd} (k:aa (fun _=>False) w w1) (t:aC w1 h w' W1):aC w h w' W1:=by
 obtain ⟨h1,H1,e1,k1,o1⟩:=t;exact ⟨h1,H1,e1,(k.mono (fun _ _ h=>h.elim)).trans k1,fun b hb=>(o1 b hb).imp id (fun h=>Nat.le_trans k.size h)⟩
theorem aK.aX (H:aK w h W) {k:Nat} (hk:h.Own k):k<w.heap.size∧∃ c T,ah w k c T∧(T=150∨T=161∨T=78∨T=159):=by
 rcases hk with rfl | hk | hk | hk | hk | hk
 ·exact ⟨H.hp.lt,_,_,H.hp, .inl rfl⟩
 ·obtain ⟨cs,hs,_⟩:=H.ht;obtain ⟨h1,c,hc⟩:=hs.own hk;exact ⟨h1,c,_,hc, .inr (.inl rfl)⟩
 ·obtain ⟨h1,c,hc⟩:=H.hr.own hk;exact ⟨h1,c,_,hc, .inr (.inr (.inl rfl))⟩
 ·obtain ⟨h1,c,hc⟩:=H.hg.own hk;exact ⟨h1,c,_,hc, .inr (.inr (.inr rfl))⟩
 ·obtain ⟨h1,c,hc⟩:=H.hw.own hk;exact ⟨h1,c,_,hc, .inr (.inr (.inr rfl))⟩
 ·obtain ⟨h1,⟨c,hc⟩,_⟩:=H.af k hk;exact ⟨h1,c,_,hc, .inr (.inr (.inl rfl))⟩
theorem aK.cells (H:aK w h W):w.cell? ⟨h.p,0,none⟩=some h.tv∧w.cell? ⟨h.p,1,none⟩=some h.rv∧w.cell? ⟨h.p,2,none⟩=some h.gv∧w.cell? ⟨h.p,3,none⟩=some h.wv∧w.cell? ⟨h.p,4,none⟩=some (.int .i64 W.most)∧w.cell? ⟨h.p,5,none⟩=some (.int .i64 W.grow):=
 ⟨H.hp.cell 0,H.hp.cell 1,H.hp.cell 2,H.hp.cell 3,H.hp.cell 4,H.hp.cell 5⟩
theorem Wd.iy (hk:W.ok) {i:Int} (hi:W.live i):(W.th i).fs.length≤12:=by
 have:=(bs (hk.tk i hi)).2.2.2;omega
def dv (l:List Th) (n:Nat):Int × Int:=(cf (l.take n) fun t=>!t.dead && !t.aR,cf (l.take n) fun t=>!t.dead && t.aR)
theorem nS {l:List Th} {n:Nat} (h:n<l.length):dv l (n+1)=((dv l n).1+(if (!l[n].dead && !l[n].aR)=true then l[n].words else 0),(dv l n).2+(if (!l[n].dead && l[n].aR)=true then l[n].words else 0)):=by
 unfold dv;rw [←List.take_append_getElem h,gh,gh];simp [cf]
theorem me (hk:W.ok) (n:Nat):0≤(dv W.T n).1∧(dv W.T n).1≤1024∧0≤(dv W.T n).2∧(dv W.T n).2≤1024:=by
 have h1:=hk.uy;have h2:=hk.uo;have h3:=hk.m2;have h4:=hk.g2;have key:∀ p:Th→Bool,cf (W.T.take n) p≤cf W.T p:=fun p=>by
  have:=gh (W.T.take n) (W.T.drop n) p;rw [List.take_append_drop] at this;have:=bV (W.T.drop n) p;omega
 have k1:=key fun t=>!t.dead && !t.aR;have k2:=key fun t=>!t.dead && t.aR;unfold dv;refine ⟨bV _ _,?_,bV _ _,?_⟩
 ·have:cf W.T (fun t=>!t.dead && !t.aR)=W.aI:=rfl;dsimp only;omega
 ·have:cf W.T (fun t=>!t.dead && t.aR)=W.aY:=rfl;dsimp only;omega
theorem kI (H:aK w h W) (hT:W.T.length≤1000000) :
  Calls Try.prog 62 #[.pointer (some ⟨h.p,0,none⟩)] w fun e w'=>e=.returned (.tuple #[.int .i64 W.aI, .int .i64 W.aY])∧aa (fun _=>False) w w':=by
 have HH:=Hz H;obtain ⟨no,nc,hno,-⟩:=H.ht.nth;clear H;go_enter Try.func62,Try.ntmps62;go_wp2_with fail;go_loopw [4,5,6] (fun a b i wr=>∃ k:Nat,k≤W.T.length∧i=.int .i64 k∧a=.int .i64 (dv W.T k).1∧b=.int .i64 (dv W.T k).2∧aa (fun _=>False) w wr) (fun _ _ i _=>W.T.length-(intOf i).toNat)
 case atStart=>exact ⟨0,Nat.zero_le _,rfl,rfl,rfl,aa.refl _ _⟩
 case round=>
  obtain ⟨k,hk,rfl,rfl,rfl,hkk⟩:=hrel;have HK:=Hz hkk;clear hkk;have HW:=Hz (HH.out.same HK.out);obtain ⟨c0,-,-,-,-,-⟩:=HW.out.cells;have pl:=HW.out.hp.lt;rw [hno] at c0;by_cases hlt:k<W.T.length
  ·obtain ⟨_,_,e',N⟩:=HW.out.ht.nth;rw [hno] at e';cases e';obtain ⟨g,o,ao,cap,rfl,-,hgl,t0,t1,t2,t3,-,-,hml⟩:=N k hlt;have hst:=nS hlt;have hb:=me HH.out.ok k;have hb1:=me HH.out.ok (k+1);have he:W.T.getD k Th.none=W.T[k]:=by rw [Ld,Le hlt];rfl
   rw [he] at t0 t1 t2 t3 hml;have hwd:(W.T[k]).words=1+((W.T[k]).fs.length:Int):=rfl;generalize W.T[k]=t at *;clear N he;obtain ⟨a,ha⟩:∃ a,(dv W.T k).1=a:=⟨_,rfl⟩;obtain ⟨b,hbq⟩:∃ b,(dv W.T k).2=b:=⟨_,rfl⟩;rw [ha,hbq] at hb hst ⊢;go_upto_region 6 with (refine aT rfl 161 (.tmp 22) rfl [.int .i64 t.k, .slice ao t.fs.length cap, .bool t.aR, .bool t.dead] (by kernel_rfl) g (o+k*4) rfl (ab t0 (ab t1 (ab t2 (ab t3 aO)))) ?_)
   cases hd:t.dead
   ·rw [hd] at hst t3;cases ho:t.aR
    ·rw [ho] at hst t2;simp only [Bool.not_false,Bool.and_self,if_true,Bool.and_false,Bool.false_eq_true,if_false] at hst;rw [hst] at hb1;dsimp only at hb1;rw [hwd] at hst hb1;go_wp2_with fail;go_roundw
     case rel=>exact ⟨k+1,hlt,by go_num,by first | (rw [hst];done) | (rw [hst];exact int_eq (by dsimp only;rw [IntWalk.i64_in _ (by omega),IntWalk.i64_in _ (by omega)])) | (rw [hst];exact int_eq (by dsimp only;rw [IntWalk.i64_in _ (by omega)])),by first | (rw [hst];done) | (rw [hst];exact int_eq (by dsimp only;omega)),HK.out.alloc _⟩
     case measure=>simp [intOf];omega
    ·rw [ho] at hst t2;simp only [Bool.not_false,Bool.and_self,if_true,Bool.and_false,Bool.false_eq_true,if_false,Bool.not_true,Bool.true_and] at hst;rw [hst] at hb1;dsimp only at hb1;rw [hwd] at hst hb1;go_wp2_with fail;go_roundw
     case rel=>exact ⟨k+1,hlt,by go_num,by first | (rw [hst];done) | (rw [hst];exact int_eq (by dsimp only;omega)),by first | (rw [hst];done) | (rw [hst];exact int_eq (by dsimp only;rw [IntWalk.i64_in _ (by omega),IntWalk.i64_in _ (by omega)])) | (rw [hst];exact int_eq (by dsimp only;rw [IntWalk.i64_in _ (by omega)])),HK.out.alloc _⟩
     case measure=>simp [intOf];omega
   ·rw [hd] at hst t3;simp only [Bool.not_true,Bool.false_and,Bool.false_eq_true,if_false,Int.add_zero] at hst;go_wp2_with fail;go_roundw
    case rel=>exact ⟨k+1,hlt,by go_num,by rw [hst],by rw [hst],HK.out.alloc _⟩
    case measure=>simp [intOf];omega
  ·obtain rfl:k=W.T.length:=by omega
   have hall:dv W.T W.T.length=(W.aI,W.aY):=by unfold dv Wd.aI Wd.aY;rw [List.take_length]
   rw [hall];go_wp2_with fail;go_ret2;exact ⟨rfl,HK.out⟩
end
end
section
open Go.RowKit
structure bZ where
 p:Nat
 tv:Value
 rv:Value
 gv:Value
 wv:Value
 fv:Nat→Value
def bZ.Own (h:bZ) (k:Nat):Prop:=k=h.p∨ag h.tv k∨ag h.rv k∨ag h.gv k∨ag h.wv k∨∃ i,ag (h.fv i) k
structure iz (w:World) (u:Value) (t:Th) (c0 c1 c2 c3:Option Value):Prop where
 d:c3=some (.bool t.dead)
 k:t.dead=false→c0=some (.int .i64 t.k)
 f:t.dead=false→c1=some u
 o:t.dead=false→c2=some (.bool t.aR)
 s:t.dead=false→Sl w 78 2 u t.fs.length (au t.fs)
 c:∃ (a:Int) (b:Value) (c:Bool),c0=some (.int .i64 a)∧c1=some b∧c2=some (.bool c)
def cI (w:World) (v:Value) (fv:Nat→Value) (T:List Th):Prop:=
 ∃ cs,Sl w 188 4 v T.length cs∧∀ i,i<T.length→iz w (fv i) (T.getD i Th.none) cs[i*4]? cs[i*4+1]? cs[i*4+2]? cs[i*4+3]?
theorem cI.ae {w w':World} {v:Value} {fv:Nat→Value} {T:List Th} {S:Nat→Prop} (h:cI w v fv T) (k:aa S w w') (hv:∀ b,ag v b→¬ S b) (hf:∀ i b,ag (fv i) b→¬ S b):cI w' v fv T:=by
 obtain ⟨cs,hs,hr⟩:=h;exact ⟨cs,hs.ae k hv,fun i hi=>⟨(hr i hi).d,(hr i hi).k,(hr i hi).f,(hr i hi).o,fun hd=>((hr i hi).s hd).ae k (hf i),(hr i hi).c⟩⟩
structure aJ (w:World) (h:bZ) (W:Wd):Prop where
 hp:ah w h.p [h.tv,h.rv,h.gv,h.wv, .int .i64 W.aI, .int .i64 W.aY, .int .i64 W.most, .int .i64 W.grow] 146
 ht:cI w h.tv h.fv W.T
 hr:Sl w 78 2 h.rv W.roots.length (au W.roots)
 hg:Sl w 170 2 h.gv W.regs.length (au W.regs)
 hw:Sl w 170 2 h.wv W.wait.length (au W.wait)
 ap:∀ k,¬ (ag h.gv k∧ag h.wv k)
 af:∀ i k,ag (h.fv i) k→k<w.heap.size∧(∃ c,ah w k c 78)∧¬ ag h.rv k
 fi:∀ i j k,ag (h.fv i) k→ag (h.fv j) k→i=j
 fl:∀ (i:Nat) k,ag (h.fv i) k→W.live (i:Int)
 ok:W.ok
def aL (w:World) (h:bZ) (w':World) (W':Wd):Prop:=
 ∃ h',aJ w' h' W'∧h'.p=h.p∧aa h.Own w w'∧∀ k,h'.Own k→h.Own k∨w.heap.size≤k
section
variable {w w':World} {h:bZ} {W W':Wd}
theorem aJ.ae {S:Nat→Prop} (H:aJ w h W) (k:aa S w w') (hn:∀ b,h.Own b→¬ S b):aJ w' h W:=
 ⟨k.ai H.hp (hn _ (.inl rfl)),H.ht.ae k (fun b hb=>hn b (.inr (.inl hb))) (fun i b hb=>hn b (.inr (.inr (.inr (.inr (.inr ⟨i,hb⟩)))))),H.hr.ae k (fun b hb=>hn b (.inr (.inr (.inl hb)))),H.hg.ae k (fun b hb=>hn b (.inr (.inr (.inr (.inl hb))))),
  H.hw.ae k (fun b hb=>hn b (.inr (.inr (.inr (.inr (.inl hb)))))),H.ap,fun i b hb=>by
   obtain ⟨h1,⟨c,h2⟩,h3⟩:=H.af i b hb
   exact ⟨Nat.lt_of_lt_of_le h1 k.size,⟨c,k.ai h2 (hn b (.inr (.inr (.inr (.inr (.inr ⟨i,hb⟩))))))⟩,h3⟩,H.fi,H.fl,H.ok⟩
theorem aJ.same (H:aJ w h W) (k:aa (fun _=>False) w w'):aJ w' h W:=H.ae k (fun _ _ h=>h)
theorem aL.same (H:aJ w h W) (k:aa (fun _=>False) w w'):aL w h w' W:=⟨h,H.same k,rfl,k.mono (fun _ _ h=>h.elim),fun k hk=>.inl hk⟩
theorem aL.aN {w1:World} {W1:Wd} (k:aa (fun _=>False) w w1) (t:aL w1 h w' W1):aL w h w' W1:=by
 obtain ⟨h1,H1,e1,k1,o1⟩:=t;exact ⟨h1,H1,e1,(k.mono (fun _ _ h=>h.elim)).trans k1,fun b hb=>(o1 b hb).imp id (fun h=>Nat.le_trans k.size h)⟩
theorem aL.step {w1 w2:World} {h1:bZ} {W':Wd} (ep:h1.p=h.p) (k:aa h.Own w w1) (o:∀ b,h1.Own b→h.Own b∨w.heap.size≤b) (t:aL w1 h1 w2 W'):aL w h w2 W':=by
 obtain ⟨h2,H2,e2,k2,o2⟩:=t;refine ⟨h2,H2,e2.trans ep,k.then k2 o,fun b hb=>?_⟩;rcases o2 b hb with h | h
 ·exact o b h
 ·exact .inr (Nat.le_trans k.size h)
theorem aJ.aX (H:aJ w h W) {k:Nat} (hk:h.Own k):k<w.heap.size∧∃ c T,ah w k c T∧(T=146∨T=188∨T=78∨T=170):=by
 rcases hk with rfl | hk | hk | hk | hk | ⟨i,hk⟩
 ·exact ⟨H.hp.lt,_,_,H.hp, .inl rfl⟩
 ·obtain ⟨cs,hs,_⟩:=H.ht;obtain ⟨h1,c,hc⟩:=hs.own hk;exact ⟨h1,c,_,hc, .inr (.inl rfl)⟩
 ·obtain ⟨h1,c,hc⟩:=H.hr.own hk;exact ⟨h1,c,_,hc, .inr (.inr (.inl rfl))⟩
 ·obtain ⟨h1,c,hc⟩:=H.hg.own hk;exact ⟨h1,c,_,hc, .inr (.inr (.inr rfl))⟩
 ·obtain ⟨h1,c,hc⟩:=H.hw.own hk;exact ⟨h1,c,_,hc, .inr (.inr (.inr rfl))⟩
 ·obtain ⟨h1,⟨c,hc⟩,_⟩:=H.af i k hk;exact ⟨h1,c,_,hc, .inr (.inr (.inl rfl))⟩
theorem aJ.cR (H:aJ w h W) {k:Nat} (hk:h.Own k):k<w.heap.size:=(H.aX hk).1
theorem aJ.cells (H:aJ w h W):w.cell? ⟨h.p,0,none⟩=some h.tv∧w.cell? ⟨h.p,1,none⟩=some h.rv∧w.cell? ⟨h.p,2,none⟩=some h.gv∧w.cell? ⟨h.p,3,none⟩=some h.wv ∧
  w.cell? ⟨h.p,4,none⟩=some (.int .i64 W.aI)∧w.cell? ⟨h.p,5,none⟩=some (.int .i64 W.aY)∧w.cell? ⟨h.p,6,none⟩=some (.int .i64 W.most)∧w.cell? ⟨h.p,7,none⟩=some (.int .i64 W.grow):=
 ⟨H.hp.cell 0,H.hp.cell 1,H.hp.cell 2,H.hp.cell 3,H.hp.cell 4,H.hp.cell 5,H.hp.cell 6,H.hp.cell 7⟩
def bZ.gx (h:bZ) (W:Wd):GX:=⟨h.tv,h.rv, .int .i64 W.aI, .int .i64 W.aY, .int .i64 W.most, .int .i64 W.grow⟩
theorem aJ.side (H:aJ w h W):a8 (h.gx W) w h.p h.gv h.wv W.regs W.wait:=⟨H.hp,H.hg,H.hw,H.ap⟩
theorem aJ.tv (H:aJ w h W):∃ no nc,h.tv=.slice no W.T.length nc:=by
 obtain ⟨cs,hs,-⟩:=H.ht;obtain ⟨no,nc,e,-,-,-⟩:=hs.rd;exact ⟨no,nc,e⟩
theorem aJ.nth (H:aJ w h W) {i:Nat} (hi:i<W.T.length):∃ g o nc,h.tv=.slice (some ⟨g,o,none⟩) W.T.length nc∧ag h.tv g∧g<w.heap.size∧(∀ j,w.frozen? ⟨g,j,none⟩=false) ∧
  iz w (h.fv i) (W.T.getD i Th.none) (w.cell? ⟨g,o+i*4,none⟩) (w.cell? ⟨g,o+i*4+1,none⟩) (w.cell? ⟨g,o+i*4+2,none⟩) (w.cell? ⟨g,o+i*4+3,none⟩):=by
 obtain ⟨cs,hs,hr⟩:=H.ht;obtain ⟨g,o,cap,cur,e,hb,h1,h2,h3,h4⟩:=hs.laid (by omega);have hl:=hs.1;have hc:∀ j,j<W.T.length*4→w.cell? ⟨g,o+j,none⟩=cs[j]? := fun j hj=>by
  rw [hb.cell,←h4,List.getElem?_take,if_pos hj,List.getElem?_drop]
 refine ⟨g,o,cap,e,by rw [e];rfl,hb.lt,hb.free,?_⟩;have:=hr i hi;rw [hc (i*4) (by omega),Nat.add_assoc o (i*4) 1,hc (i*4+1) (by omega),Nat.add_assoc o (i*4) 2,hc (i*4+2) (by omega),Nat.add_assoc o (i*4) 3,hc (i*4+3) (by omega)];exact this
theorem Wd.dy (W:Wd) (i:Nat):W.th (i:Int)=W.T.getD i Th.none:=by unfold Wd.th;rw [Int.toNat_natCast]
theorem aJ.root (H:aJ w h W) {k:Nat} (hk:k<12):∃ g o rc,h.rv=.slice (some ⟨g,o,none⟩) W.roots.length rc∧g<w.heap.size∧w.cell? ⟨g,o+k*2,none⟩=some (.int .i64 (W.rt k).1)∧w.cell? ⟨g,o+k*2+1,none⟩=some (.int .i64 (W.rt k).2):=by
 have hl:=H.ok.hr;obtain ⟨ao,rc,e,hrd,-,-⟩:=H.hr.rd;obtain ⟨g,o,rfl,hg,h0,h1⟩:=hrd.dM k (by omega);exact ⟨g,o,rc,e,hg,by rw [h0];unfold Wd.rt;rw [Int.toNat_natCast],by rw [h1];unfold Wd.rt;rw [Int.toNat_natCast]⟩
end
end
section
def bn (t:List Bool × List Nat) (v:Vl):List Bool × List Nat:=if v.1=3∧az t.1 v.2=false then (t.1.set v.2.toNat true,t.2 ++ [v.2.toNat]) else t
def bF (l:List Bool):Nat:=(l.map fun b=>if b then 0 else 1).sum
theorem mf:∀ {l:List Bool} {i:Nat},i<l.length→l.getD i false=false→bF (l.set i true)+1=bF l
 | [],i,h,_=>by simp at h
 | b :: l,0,_,h=>by
  have hb:b=false:=by simpa using h
  subst hb;simp [bF];omega
 | b :: l,i+1,h,h2=>by
  have ih:=mf (l:=l) (i:=i) (by simpa using h) (by simpa using h2);have e1:bF ((b :: l).set (i+1) true)=(if b then 0 else 1)+bF (l.set i true):=by simp [bF]
  have e2:bF (b :: l)=(if b then 0 else 1)+bF l:=by simp [bF]
  omega
def dY (W:Wd) (is:List Bool) (i:Int):Prop:=
 (((W.th i).k=1∨(W.th i).k=2)→∀ v ∈ (W.th i).fs,v.1=3→az is v.2=true)∧((W.th i).k=3→∀ v,(W.th i).fs[1]? = some v→v.1=3→az is v.2=true)
def ft (W:Wd) (is:List Bool) (i:Int):Prop:=
 az is i=true→(W.th i).k=4→a5 is ((W.th i).fs.getD 0 (0,0))=true→∀ v,(W.th i).fs[1]? = some v→v.1=3→az is v.2=true
def kj (is:List Bool) (e:Int × Int):Prop:=az is e.1=true→az is e.2=true
structure GI (W:Wd) (q:List (Int × Int)) (s0:List Bool) (E:Int→Prop) (t:List Bool × List Nat):Prop where
 len:t.1.length=W.T.length
 up:∀ i,az s0 i=true→az t.1 i=true
 al:∀ i,az t.1 i=true→bu W.nd q (fun k=>az s0 k=true) i
 lv:∀ i,az t.1 i=true→W.live i
 nx:∀ k ∈ t.2,az t.1 ((k:Nat):Int)=true
 nd:t.2.Nodup
 lk:∀ i,az t.1 i=true→i.toNat ∉ t.2→¬ E i→dY W t.1 i
theorem dY.mono {W:Wd} {is is':List Bool} {i:Int} (h:dY W is i) (hs:∀ k,az is k=true→az is' k=true):dY W is' i:=
 ⟨fun hk v hv h3=>hs _ (h.1 hk v hv h3),fun hk v hv h3=>hs _ (h.2 hk v hv h3)⟩
section
variable {W:Wd} {q:List (Int × Int)} {s0:List Bool} {E:Int→Prop} {t:List Bool × List Nat}
theorem jP (hl:t.1.length=W.T.length) (v:Vl) (hv:v.1=3→W.live v.2):∀ i,az t.1 i=true→az (bn t v).1 i=true:=by
 intro i hi;unfold bn;split
 ·rename_i h;have hlv:=hv h.1;exact (cE hlv.1 (by rw [hl];exact hlv.2.1)).2 (.inr hi)
 ·exact hi
theorem fP {v:Vl} (h:(bn t v).2=[]):bn t v=t:=by
 unfold bn at h ⊢;split
 ·rename_i hc;rw [if_pos hc] at h;simp at h
 ·rfl
theorem gG {v:Vl} (h:(bn t v).2=[]):t.2=[]:=by rw [fP h] at h;exact h
theorem fg (hl:t.1.length=W.T.length) (v:Vl) (hv:v.1=3→W.live v.2) (h3:v.1=3):az (bn t v).1 v.2=true:=by
 have hlv:=hv h3;unfold bn;split
 ·exact (cE hlv.1 (by rw [hl];exact hlv.2.1)).2 (.inl rfl)
 ·rename_i hc;cases h:az t.1 v.2
  ·exact absurd ⟨h3,h⟩ hc
  ·rfl
theorem fQ (hl:t.1.length=W.T.length) (v:Vl) (hv:v.1=3→W.live v.2):2*bF (bn t v).1+(bn t v).2.length≤2*bF t.1+t.2.length∧bF (bn t v).1≤bF t.1∧((bn t v).2=t.2∨bF (bn t v).1<bF t.1)∧t.2.length≤(bn t v).2.length:=by
 unfold bn;split
 ·rename_i h;have hlv:=hv h.1;have hlt:v.2.toNat<t.1.length:=by rw [hl];have:=hlv.1;have:=hlv.2.1;omega
  have hf:t.1.getD v.2.toNat false=false:=by rw [dR hlv.1];exact h.2
  have:=mf hlt hf;simp only [List.length_append,List.length_singleton];exact ⟨by omega,by omega, .inr (by omega),by omega⟩
 ·exact ⟨Nat.le_refl _,Nat.le_refl _, .inl rfl,Nat.le_refl _⟩
theorem GI.mark (G:GI W q s0 E t) {v:Vl} (hv:v.1=3→W.live v.2∧bu W.nd q (fun k=>az s0 k=true) v.2):GI W q s0 E (bn t v):=by
 have hup:=jP G.len v (fun h=>(hv h).1);unfold bn at hup ⊢;split
 ·rename_i h;rw [if_pos h] at hup;obtain ⟨hlv,hal⟩:=hv h.1;have hset:=fun i=>cE (is:=t.1) (x:=v.2) (i:=i) hlv.1 (by rw [G.len];exact hlv.2.1);have hnm:v.2.toNat ∉ t.2:=fun hm=>by
   have:=G.nx _ hm;rw [show ((v.2.toNat:Nat):Int)=v.2 by have:=hlv.1;omega,h.2] at this;cases this
  refine ⟨by simp [G.len],fun i hi=>hup i (G.up i hi),fun i hi=>?_,fun i hi=>?_,fun k hk=>?_,?_,fun i hi hn he=>?_⟩
  ·rcases (hset i).1 hi with rfl | h1
   ·exact hal
   ·exact G.al i h1
  ·rcases (hset i).1 hi with rfl | h1
   ·exact hlv
   ·exact G.lv i h1
  ·rcases List.mem_append.1 hk with h1 | h1
   ·exact hup _ (G.nx k h1)
   ·simp at h1;subst h1;exact (hset _).2 (.inl (by have:=hlv.1;omega))
  ·rw [List.nodup_append];exact ⟨G.nd,by simp,fun a ha b hb=>by simp at hb;subst hb;rintro rfl;exact hnm ha⟩
  ·simp only [List.mem_append,List.mem_singleton,not_or] at hn;rcases (hset i).1 hi with rfl | h1
   ·exact absurd rfl hn.2
   ·exact (G.lk i h1 hn.1 he).mono hup
 ·exact G
theorem GI.gX (G:GI W q s0 E t):t.2.length≤W.T.length:=by
 have h:∀ k ∈ t.2,k<W.T.length:=fun k hk=>by have:=(G.lv _ (G.nx k hk)).2.1;omega
 have:=List.Nodup.length_le_of_subset (l₁:=t.2) (l₂:=List.range W.T.length) G.nd (fun k hk=>List.mem_range.2 (h k hk));simpa using this
theorem GI.pop {is:List Bool} {k:Nat} {r:List Nat} (G:GI W q s0 (fun _=>False) (is,k :: r)):GI W q s0 (fun i=>i=(k:Int)) (is,r):=
 ⟨G.len,G.up,G.al,G.lv,fun j hj=>G.nx j (by simp [hj]),(List.nodup_cons.1 G.nd).2,fun i hi hn he=>G.lk i hi (by
  simp only [List.mem_cons,not_or];refine ⟨fun e=>he ?_,hn⟩
  have:=(G.lv i hi).1;omega) (fun h=>h)⟩
theorem GI.done {k:Nat} (G:GI W q s0 (fun i=>i=(k:Int)) t) (h:dY W t.1 (k:Int)):GI W q s0 (fun _=>False) t:=
 ⟨G.len,G.up,G.al,G.lv,G.nx,G.nd,fun i hi hn _=>by
  by_cases e:i=(k:Int)
  ·subst e;exact h
  ·exact G.lk i hi hn e⟩
theorem GI.closed {is:List Bool} (hok:W.ok) (G:GI W q s0 (fun _=>False) (is,[])) (hs:s0.length=W.T.length) (he:∀ i:Nat,i<W.T.length→ft W is (i:Int)) (hw:∀ e ∈ q,kj is e):is=W.bQ q s0:=by
 refine m9 (by rw [hs];exact G.len) G.up G.al (fun a b ha hl=>?_);have hlk:=G.lk a ha (by simp) (fun h=>h);have hlv:=G.lv a ha;rcases hl with ⟨h1,h2⟩ | ⟨h1,h2⟩ | ⟨h1,h2,h3⟩ | ⟨h1,h2⟩
 ·exact hlk.1 h1 (3,b) h2 rfl
 ·exact hlk.2 h1 (3,b) h2 rfl
 ·have:=he a.toNat (by have:=hlv.1;have:=hlv.2.1;omega);rw [show ((a.toNat:Nat):Int)=a by have:=hlv.1;omega] at this;refine this ha h1 ?_ (3,b) h2 rfl;have h2':(W.th a).fs[1]? = some (3,b):=h2;have h0:1<(W.th a).fs.length:=(List.getElem?_eq_some_iff.1 h2').1;have e0:(W.th a).fs[0]? = some (W.th a).fs[0]:=Le (by omega);unfold a5;rw [Ld,e0];dsimp only [Option.getD_some];by_cases h4:((W.th a).fs[0]).1=3
  ·simp [h3 _ e0 h4]
  ·simp [h4]
 ·exact hw (a,b) h2 ha
end
end
section
def iH (n:Nat) (v:Vl):Prop:=v.1=3→0≤v.2∧v.2<n
def cZ (l:List Bool) (v:Vl):List Bool:=if a5 l v=true then l else l.set v.2.toNat true
theorem iT {l:List Bool} {v:Vl} (h:a5 l v=false):v.1=3∧az l v.2=false:=by
 unfold a5 at h;simp only [Bool.or_eq_false_iff,bne_eq_false_iff_eq] at h;exact h
theorem gY {l:List Bool} {v:Vl} (h:a5 l v=true):v.1=3→az l v.2=true:=fun h3=>by
 unfold a5 at h;simpa [h3] using h
def iU (l:List Bool):Nat:=(l.filter (! ·)).length
theorem na:∀ {l:List Bool} {i:Nat},i<l.length→l.getD i false=false→iU (l.set i true)+1=iU l
 | [],i,h,_=>by simp at h
 | b :: l,0,_,h=>by
  have:b=false:=by simpa using h
  subst this;simp [iU]
 | b :: l,i+1,h,h2=>by
  have ih:=na (l:=l) (i:=i) (by simpa using h) (by simpa using h2);unfold iU at *;cases b <;> simp at ih ⊢ <;> omega
theorem ry {l:List Bool} {v:Vl} (hv:iH l.length v) (h:a5 l v=false):iU (cZ l v)+1=iU l:=by
 obtain ⟨h3,h4⟩:=iT h;obtain ⟨h0,h1⟩:=hv h3;unfold cZ;rw [if_neg (by rw [h];decide)];exact na (by omega) (by unfold az at h4;simpa [h0] using h4)
structure dC (W:Wd) (q:List (Int × Int)) (is l:List Bool):Prop where
 len:l.length=is.length
 base:∀ i,az is i=true→az l i=true
 al:∀ i,az l i=true→bu W.nd q (fun k=>az is k=true) i
theorem dC.start (W:Wd) (q:List (Int × Int)) (is:List Bool):dC W q is is:=⟨rfl,fun _ h=>h,fun _ h=>bu.base h⟩
theorem dC.add {W:Wd} {q:List (Int × Int)} {is l:List Bool} (h:dC W q is l) {v:Vl} (hv:iH l.length v) (ha:v.1=3→bu W.nd q (fun k=>az is k=true) v.2):dC W q is (cZ l v):=by
 cases hi:a5 l v
 ·obtain ⟨h3,h4⟩:=iT hi;obtain ⟨h0,h1⟩:=hv h3;have e:cZ l v=l.set v.2.toNat true:=by unfold cZ;rw [hi];simp
  rw [e];refine ⟨by rw [List.length_set];exact h.len,fun i hb=>(cE h0 h1).2 (.inr (h.base i hb)),fun i hb=>?_⟩;rcases (cE h0 h1).1 hb with rfl | hb
  ·exact ha h3
  ·exact h.al i hb
 ·have e:cZ l v=l:=by unfold cZ;rw [hi];rfl
  rw [e];exact h
def Fl (m:Bool) (lp l:List Bool):Prop:=(m=false∧l=lp)∨(m=true∧iU l<iU lp)
theorem Fl.start (l:List Bool):Fl false l l:=.inl ⟨rfl,rfl⟩
theorem Fl.add {m:Bool} {lp l:List Bool} {v:Vl} (h:Fl m lp l) (hv:iH l.length v):Fl (!a5 l v || m) lp (cZ l v):=by
 cases hi:a5 l v
 ·have hu:=ry hv hi;right;refine ⟨rfl,?_⟩;rcases h with ⟨_,rfl⟩ | ⟨_,h⟩ <;> omega
 ·have e:cZ l v=l:=by unfold cZ;rw [hi];rfl
  rw [e];simpa using h
def bK (W:Wd) (q:List (Int × Int)) (l:List Bool) (i:Int):Prop:=az l i=true→∀ k,dW W.nd q (fun k=>az l k=true) i k→az l k=true
def gZ (m:Bool) (p:Prop):Prop:=m=false→p
theorem gZ.add {m:Bool} {lp l:List Bool} {v:Vl} {p r:Prop} (hf:Fl m lp l) (h:gZ m p) (hr:p→a5 lp v=true→r):gZ (!a5 l v || m) r:=fun hm=>by
 simp only [Bool.or_eq_false_iff,Bool.not_eq_false'] at hm;rcases hf with ⟨_,rfl⟩ | ⟨h1,_⟩
 ·exact hr (h hm.2) hm.1
 ·rw [h1] at hm;exact absurd hm.2 (by decide)
theorem dC.live {W:Wd} (h:W.ok) {q:List (Int × Int)} (hq:∀ e ∈ q,W.dx e) {is l:List Bool} (hl:∀ i,az is i=true→W.live i) (g:dC W q is l) {i:Int} (hi:az l i=true):W.live i:=
 (g.al i hi).least hl (Wd.dn h hq)
theorem dC.done {W:Wd} {q:List (Int × Int)} {is l:List Bool} (g:dC W q is l) (hc:∀ j:Nat,j<l.length→bK W q l j):l=W.bQ q is:=
 m9 g.len g.base g.al (fun i j hi hj=>by
  have:=gd hi;have hc':=hc i.toNat (by omega);rw [show ((i.toNat:Nat):Int)=i by omega] at hc'
  exact hc' hi j hj)
theorem dC.lead {W:Wd} {q:List (Int × Int)} {is l:List Bool} (g:dC W q is l) {i:Int} (hi:az l i=true) {v:Vl} (h:v.1=3→dW W.nd q (fun k=>az l k=true) i v.2):v.1=3→bu W.nd q (fun k=>az is k=true) v.2:=fun h3=>
 bu.closed W.nd q _ i v.2 (g.al i hi) ((h h3).mono (fun k hk=>g.al k hk) (fun _ h=>h))
theorem jx {W:Wd} {q:List (Int × Int)} {l:List Bool} {i:Int} (h:az l i=false):bK W q l i:=fun h'=>by rw [h] at h';cases h'
theorem dK {W:Wd} {q:List (Int × Int)} {l:List Bool} {i:Int} (hk:(W.th i).k=1∨(W.th i).k=2) (h:∀ v ∈ (W.th i).fs,a5 l v=true):bK W q l i:=fun _ k hl=>by
 rcases hl with ⟨_,h2⟩ | ⟨h1,_⟩ | ⟨h1,_⟩ | ⟨h1,_⟩
 ·exact gY (h _ h2) rfl
 all_goals (have h1:(W.th i).k=_:=h1;omega)
theorem ly {W:Wd} {q:List (Int × Int)} {l:List Bool} {i:Int} (hk:(W.th i).k=3) {u v:Vl} (hf:(W.th i).fs=[u,v]) (h:a5 l v=true):bK W q l i:=fun _ k hl=>by
 rcases hl with ⟨h1,_⟩ | ⟨_,h2⟩ | ⟨h1,_⟩ | ⟨h1,_⟩
 ·have h1:(W.th i).k=1∨(W.th i).k=2:=h1;omega
 ·have h2:(W.th i).fs[1]? = some (3,k):=h2;rw [hf] at h2;simp at h2;rw [h2] at h;exact gY h rfl
 all_goals (have h1:(W.th i).k=_:=h1;omega)
theorem gu {W:Wd} {q:List (Int × Int)} {l:List Bool} {i:Int} (hk:(W.th i).k=4) {u v:Vl} (hf:(W.th i).fs=[u,v]) (h:a5 l u=true→a5 l v=true):bK W q l i:=fun _ k hl=>by
 rcases hl with ⟨h1,_⟩ | ⟨h1,_⟩ | ⟨_,h2,h3⟩ | ⟨h1,_⟩
 ·have h1:(W.th i).k=1∨(W.th i).k=2:=h1;omega
 ·have h1:(W.th i).k=_:=h1;omega
 ·have h2:(W.th i).fs[1]? = some (3,k):=h2;have h3:∀ v,(W.th i).fs[0]? = some v→v.1=3→az l v.2=true:=h3;rw [hf] at h2 h3;simp at h2;rw [h2] at h;refine gY (h ?_) rfl;unfold a5;by_cases c:u.1=3
  ·simp [h3 u rfl c]
  ·simp [c]
 ·have h1:(W.th i).k=_:=h1;omega
theorem g3 {W:Wd} {q:List (Int × Int)} {l:List Bool} {i:Int} (hk:(W.th i).k=5) (h:∀ e ∈ q,e.1=i→a5 l (3,e.2)=true):bK W q l i:=fun _ k hl=>by
 rcases hl with ⟨h1,_⟩ | ⟨h1,_⟩ | ⟨h1,_⟩ | ⟨_,h2⟩
 ·have h1:(W.th i).k=1∨(W.th i).k=2:=h1;omega
 ·have h1:(W.th i).k=_:=h1;omega
 ·have h1:(W.th i).k=_:=h1;omega
 ·exact gY (h _ h2 rfl) rfl
theorem fw {W:Wd} {q:List (Int × Int)} {l:List Bool} {i:Int} (hk:(W.th i).k=1∨(W.th i).k=2) {v:Vl} (hv:v ∈ (W.th i).fs):v.1=3→dW W.nd q (fun k=>az l k=true) i v.2:=fun h3=>
 .inl ⟨hk,by show (3,v.2) ∈ (W.th i).fs;rw [←h3];exact hv⟩
theorem kZ {W:Wd} {q:List (Int × Int)} {l:List Bool} {i:Int} (hk:(W.th i).k=3) {u v:Vl} (hf:(W.th i).fs=[u,v]):v.1=3→dW W.nd q (fun k=>az l k=true) i v.2:=fun h3=>
 .inr (.inl ⟨hk,by show (W.th i).fs[1]? = _;rw [hf,←h3];rfl⟩)
theorem jQ {W:Wd} {q:List (Int × Int)} {l:List Bool} {i:Int} (hk:(W.th i).k=4) {u v:Vl} (hf:(W.th i).fs=[u,v]) (h:a5 l u=true):v.1=3→dW W.nd q (fun k=>az l k=true) i v.2:=fun h3=>
 .inr (.inr (.inl ⟨hk,by show (W.th i).fs[1]? = _;rw [hf,←h3];rfl,fun x hx h3'=>by
  have hx:(W.th i).fs[0]? = some x:=hx;rw [hf] at hx;simp at hx;subst hx
  exact gY h h3'⟩))
theorem kl {W:Wd} {q:List (Int × Int)} {l:List Bool} {i:Int} (hk:(W.th i).k=5) {e:Int × Int} (he:e ∈ q) (h1:e.1=i):((3,e.2):Vl).1=3→dW W.nd q (fun k=>az l k=true) i ((3,e.2):Vl).2:=fun _=>
 .inr (.inr (.inr ⟨hk,by rw [←h1];exact he⟩))
end
section
open Go.RowKit
theorem Rd.eh {w:World} {ao:Option Addr} {l:List Bool} (h:Rd w ao (l.map Value.bool)) (i:Nat) (hi:i<l.length) :
  ∃ g o,ao=some ⟨g,o,none⟩∧g<w.heap.size∧w.cell? ⟨g,o+i,none⟩=some (.bool (l.getD i false)):=by
 obtain ⟨g,o,rfl,hg,hc⟩:=h (by intro e;simp at e;subst e;simp at hi);refine ⟨g,o,rfl,hg,?_⟩;rw [hc i (by simpa using hi)];simp [List.getD,hi]
theorem jn (v:Vl) (ao:Option Addr) (cap:Nat) (l:List Bool) (w:World) (h:Rd w ao (l.map Value.bool)) (hl:l.length≤1000000) (hv:iH l.length v) :
  Calls Try.prog 127 #[.slice ao l.length cap, .agg #[.int .i64 v.1, .int .i64 v.2]] w fun e w'=>e=.returned (.bool (a5 l v))∧aa (fun _=>False) w w':=by
 have hr:=h.ae ((Kz w).alloc (.cells #[.int .i64 v.1, .int .i64 v.2] 78)) (fun _ _ _ h=>h);have HR:=Hz hr;clear h hr;obtain ⟨k,n⟩:=v;dsimp only at *;by_cases hk:k=3
 ·subst hk;obtain ⟨h0,h1⟩:=hv rfl;dsimp only at h0 h1;obtain ⟨m,rfl⟩:∃ m:Nat,n=m:=⟨n.toNat,by omega⟩;obtain ⟨g,o,rfl,hg,hc⟩:=HR.out.eh m (by omega);have HE:=Hz (show a5 l (3,(m:Int))=l.getD m false by simp [a5,az]);have hg':g<w.heap.size+1:=by simpa using hg
  clear hv hg;generalize l.getD m false=q at *;go_enter Try.func127,Try.ntmps127;go_wp2_with fail;go_ret;exact ⟨cG HE.out.symm,(aa.refl _ _).alloc _⟩
 ·have hkb:(k != 3)=true:=by simpa using hk
  have HE:=Hz (show a5 l (k,n)=true by simp [a5,hkb]);clear hv hk;go_enter Try.func127,Try.ntmps127;go_wp2_with fail;go_ret;exact ⟨cG HE.out.symm,(aa.refl _ _).alloc _⟩
structure iA (w:World) (b:Nat) (vo:Value) (l:List Bool):Prop where
 hb:ah w b [vo] 76
 hs:Sl w 4 1 vo l.length (l.map Value.bool)
theorem iA.ae {w w':World} {b:Nat} {vo:Value} {l:List Bool} {S:Nat→Prop} (h:iA w b vo l) (k:aa S w w') (h1:¬ S b) (h2:∀ j,ag vo j→¬ S j):iA w' b vo l:=⟨k.ai h.hb h1,h.hs.ae k h2⟩
def si (w:World) (b:Nat) (vo:Value) (l:List Bool) (v:Vl) (e:Ending) (w':World):Prop:=
 e=.returned (.bool (!a5 l v))∧iA w' b vo (cZ l v)∧aa (ag vo) w w'
theorem iV (v:Vl) (b:Nat) (vo:Value) (l:List Bool) (w:World) (h:iA w b vo l) (hl:l.length≤1000000) (hv:iH l.length v) :
  Calls Try.prog 154 #[.agg #[.int .i64 v.1, .int .i64 v.2], .pointer (some ⟨b,0,none⟩)] w (si w b vo l v):=by
 have ka:=(Kz w).alloc (.cells #[.int .i64 v.1, .int .i64 v.2] 78);have HO:=Hz (h.ae ka (fun h=>h) (fun _ _ h=>h));have HB:=Hz (ah.newAt (w:=w) (b:=w.heap.size) (T:=78) #[.int .i64 v.1, .int .i64 v.2] rfl rfl);have HK:=Hz ka;have hlt:=HO.out.hb.lt;obtain ⟨ao,cap,rfl,-,-,-⟩:=h.hs.rd;have b0:=HO.out.hb.cell 0;have x0:=HB.out.cell 0;have x1:=HB.out.cell 1;have xl:=HB.out.lt;simp only [Lz,Ls] at b0 x0 x1;have HH:=Hz h;have hbl:=h.hb.lt;have hb0:=h.hb.cell 0;simp only [Lz] at hb0;clear h ka;obtain ⟨k,n⟩:=v;dsimp only at *;go_enter Try.func154,Try.ntmps154;go_wp2_with fail;obtain ⟨_,_,e',rd,-,-⟩:=HO.out.hs.rd;cases e';refine (jn (k,n) ao cap l _ rd hl hv).mono ?_;rintro e w1 ⟨rfl,hk⟩;have HO1:=Hz (HO.out.ae hk (fun h=>h) (fun _ _ h=>h));have HB1:=Hz (hk.ai HB.out (fun h=>h));have HK1:=Hz (HK.out.trans hk);clear hk rd b0 x0 x1 xl hlt hb0 hbl;cases hi:a5 l (k,n)
 ·obtain ⟨h3,-⟩:=iT hi;obtain ⟨h0,h1⟩:=hv h3;dsimp only at h3 h0 h1;subst h3;obtain ⟨m,rfl⟩:∃ m:Nat,n=m:=⟨n.toNat,by omega⟩;have HE:=Hz (show cZ l (3,(m:Int))=l.set m true by unfold cZ;rw [hi];simp);have HI:=Hz hi;clear hi hv;obtain ⟨_,_,e',rd,-,-⟩:=HO1.out.hs.rd;cases e';obtain ⟨g,o,rfl,hg,hc⟩:=rd.eh m (by omega);obtain ⟨_,cur,hgb⟩:=HO1.out.hs.own (k:=g) rfl;have fz:=hgb.free (o+m);have HG:=Hz hgb;have b0:=HO1.out.hb.cell 0;have x0:=HB1.out.cell 0;have x1:=HB1.out.cell 1;have xl:=HB1.out.lt;have bl:=HO1.out.hb.lt;simp only [Lz,Ls] at b0 x0 x1;clear rd hgb;go_wp2_with fail;go_ret;refine ⟨by rw [HI.out];rfl,⟨?_,?_⟩,?_⟩
  ·exact HO1.out.hb.ez (a:=⟨g,o+m,none⟩) (HO1.out.hb.ne HG.out (by decide)) _
  ·rw [HE.out,List.length_set,List.map_set];exact HO1.out.hs.set (by omega)
  ·exact aa.setCell (S:=ag (.slice (some ⟨g,o,none⟩) l.length cap)) (HK1.out.mono (fun _ _ h=>h.elim)) (p:=⟨g,o+m,none⟩) (.inl rfl) _
 ·have HE:=Hz (show cZ l (k,n)=l by unfold cZ;rw [hi];rfl);have HI:=Hz hi;clear hi hv;go_wp2_with fail;go_ret;exact ⟨by rw [HI.out];rfl,by rw [HE.out];exact HO1.out,HK1.out.mono (fun _ _ h=>h.elim)⟩
end
section
open Go.RowKit
def fx (l:List Nat):List Value:=l.map fun (k:Nat)=>Value.int .i64 (k:Int)
structure b7 (w:World) (gp lb ib:Nat) (nv:Value) (t:List Bool × List Nat):Prop where
 hp:ah w lb [.pointer (some ⟨gp,0,none⟩), .slice (some ⟨ib,0,none⟩) t.1.length t.1.length,nv] 197
 hi:ah w ib (t.1.map Value.bool) 4
 hn:Sl w 3 1 nv t.2.length (fx t.2)
def df (lb ib:Nat) (nv:Value) (k:Nat):Prop:=k=lb∨k=ib∨ag nv k
def dD (w:World) (gp lb ib:Nat) (nv:Value) (w':World) (t:List Bool × List Nat):Prop:=
 ∃ nv',b7 w' gp lb ib nv' t∧aa (df lb ib nv) w w'∧∀ k,ag nv' k→ag nv k∨w.heap.size≤k
def gfalsW (w:World) (b:Nat):Nat:=match w.heap[b]? with
 | some (.cells a _ _)=>(a.toList.map fun v=>match v with | .bool false=>1 | _=>0).sum
 | _=>0
def lD (w:World) (b i:Nat):Nat:=match w.cell? ⟨b,i,none⟩ with
 | some (.slice _ n _)=>n
 | _=>0
theorem nT {w:World} {b:Nat} {l:List Bool} {T:TypeId} (h:ah w b (l.map Value.bool) T):gfalsW w b=bF l:=by
 unfold ah at h;unfold gfalsW;rw [h];simp only [bF];congr 1;simp only [List.map_map];refine List.map_congr_left fun x _=>?_;cases x <;> rfl
section
variable {w w':World} {gp lb ib:Nat} {nv:Value} {t:List Bool × List Nat}
theorem b7.fE (L:b7 w gp lb ib nv t):gfalsW w ib=bF t.1:=nT L.hi
theorem b7.mg (L:b7 w gp lb ib nv t):lD w lb 2=t.2.length:=by
 obtain ⟨no,nc,e,-,-,-⟩:=L.hn.rd;have:=L.hp.cell 2;simp only [Lz,Ls] at this;unfold lD;rw [this,e]
theorem b7.ae {S:Nat→Prop} (L:b7 w gp lb ib nv t) (k:aa S w w') (hn:∀ b,df lb ib nv b→¬ S b):b7 w' gp lb ib nv t:=
 ⟨k.ai L.hp (hn _ (.inl rfl)),k.ai L.hi (hn _ (.inr (.inl rfl))),L.hn.ae k (fun b hb=>hn b (.inr (.inr hb)))⟩
theorem b7.same (L:b7 w gp lb ib nv t) (k:aa (fun _=>False) w w'):b7 w' gp lb ib nv t:=L.ae k (fun _ _ h=>h)
theorem dD.same (L:b7 w gp lb ib nv t) (k:aa (fun _=>False) w w'):dD w gp lb ib nv w' t:=⟨nv,L.same k,k.mono (fun _ _ h=>h.elim),fun k hk=>.inl hk⟩
theorem b7.aX (L:b7 w gp lb ib nv t) {k:Nat} (hk:df lb ib nv k):k<w.heap.size∧∃ c T,ah w k c T∧(T=197∨T=4∨T=3):=by
 rcases hk with rfl | rfl | hk
 ·exact ⟨L.hp.lt,_,_,L.hp, .inl rfl⟩
 ·exact ⟨L.hi.lt,_,_,L.hi, .inr (.inl rfl)⟩
 ·obtain ⟨h1,c,hc⟩:=L.hn.own hk;exact ⟨h1,c,_,hc, .inr (.inr rfl)⟩
theorem b7.bool (L:b7 w gp lb ib nv t) {i:Nat} (hi:i<t.1.length):w.cell? ⟨ib,i,none⟩=some (.bool (t.1.getD i false)):=by
 rw [L.hi.cell,List.getElem?_map,Ld,Le hi];rfl
theorem p8 (i:Nat) (L:b7 w gp lb ib nv t) (hi:i<t.1.length) (hl:t.1.length≤1000000) :
  Calls Try.prog 140 #[.pointer (some ⟨lb,0,none⟩), .int .i64 i] w fun e w'=>e=.returned (.bool (az t.1 i))∧w=w':=by
 have hc:=L.bool hi;have hg:=L.hi.lt;have c1:=L.hp.cell 1;have cl:=L.hp.lt;simp only [Lz,Ls] at c1;have HE:=Hz (bS t.1 i);generalize t.1.getD i false=bv at *;have hii:(i:Int)<t.1.length:=by omega
 clear L;go_enter Try.func140,Try.ntmps140;go_wp2_with fail;go_ret;rw [HE.out];exact ⟨rfl,rfl⟩
theorem b7.rz (L:b7 w gp lb ib nv t) (i:Nat):b7 (w.setCell ⟨ib,i,none⟩ (.bool true)) gp lb ib nv (t.1.set i true,t.2)∧aa (df lb ib nv) w (w.setCell ⟨ib,i,none⟩ (.bool true)):=by
 have K:=(aa.refl (·=ib) w).setCell (p:=⟨ib,i,none⟩) (.inl rfl) (.bool true);refine ⟨⟨?_,?_,L.hn.ae K (fun b hb h=>?_)⟩,K.mono (fun b _ h=>.inr (.inl h))⟩
 ·have:=K.ai L.hp (fun h=>L.hp.ne L.hi (by decide) h);simpa using this
 ·have:=L.hi.aF i (.bool true);dsimp only;rw [List.map_set];exact this
 ·obtain ⟨_,c',hc'⟩:=L.hn.own hb;exact hc'.ne L.hi (by decide) h
theorem jo (v:Vl) (L:b7 w gp lb ib nv t) (hv:v.1=3→0≤v.2∧v.2<t.1.length) (hl:t.1.length≤100000) (hn:t.2.length≤100000) :
  Calls Try.prog 137 #[.pointer (some ⟨lb,0,none⟩), .agg #[.int .i64 v.1, .int .i64 v.2]] w fun e w'=>e=.returned (.tuple #[])∧dD w gp lb ib nv w' (bn t v):=by
 obtain ⟨i0,hi,hz0,hz1,hz2⟩:=info_parts fX;have Hi:=Hz hi;have Hz0:=Hz hz0;have Hz1:=Hz hz1;have Hz2:=Hz hz2;clear hi hz0 hz1 hz2;obtain ⟨kd,x⟩:=v;dsimp only at hv ⊢;have hb1:ah (w.alloc (.cells #[.int .i64 kd, .int .i64 x] 78)) w.heap.size [.int .i64 kd, .int .i64 x] 78:=ah.newAt _ rfl rfl;have ka:=(Kz w).alloc (.cells #[.int .i64 kd, .int .i64 x] 78);have L0:=Hz L;have L1:=Hz (L.same ka);have K1:=Hz ka;have B1:=Hz hb1;clear hb1 ka L;go_enter Try.func137,Try.ntmps137;go_upto_region 1 with (fail)
 generalize w.alloc (.cells #[.int .i64 kd, .int .i64 x] 78)=w1 at *;generalize hsb:w.heap.size=sb at *;have HSB:=Hz hsb;clear hsb;have s0:=B1.out.cell 0;have s1:=B1.out.cell 1;have sl:=B1.out.lt;simp only [Lz,Ls] at s0 s1;have cl:=L1.out.hp.lt;by_cases h3:kd=3
 case neg=>
  have hd:(kd == 3)=false:=by simpa using h3
  have HE:=Hz (show bn t (kd,x)=t by unfold bn;rw [if_neg (fun h=>h3 h.1)]);clear h3;go_wp2_with fail;refine aq (.free 0 (.pure 1 (.free 2 (.free 3 (.free 4 (.free 5 (.free 6 (.free 8 (.pure 7 (.pure 9 (.free 10 (.pure 11 (.free 12 (.free 13 (.fin))))))))))))))) [] (fun w'=>w'.cell? ⟨sb,0,none⟩=some (.int .i64 kd)) (by kernel_rfl) (by kernel_rfl) s0 ?_
  iterate 14 ((first | refine ak rfl rfl fun K hK=>?_ | refine aj rfl rfl fun K hK=>?_ | refine ay rfl rfl fun K hK=>?_ | refine av rfl rfl fun K hK=>?_ | refine ax rfl rfl fun K hK=>?_);go_simp;refine hK _ ?_;clear hK K)
  refine aA ?_;go_wp2_with fail;go_end0;refine ⟨rfl,?_⟩;rw [HE.out];exact dD.same L0.out K1.out.drew
 subst h3;obtain ⟨x0,x1⟩:=hv rfl;obtain ⟨x,rfl⟩:=Int.eq_ofNat_of_zero_le x0;have hxl:x<t.1.length:=by omega
 have hc:=L1.out.bool hxl;have hg:=L1.out.hi.lt;have hfx:=L1.out.hi.free x;have c1:=L1.out.hp.cell 1;simp only [Lz,Ls] at c1;have hat:=bS t.1 x;have hxi:(x:Int)<t.1.length:=x1;clear x0 hv;obtain ⟨bv,hbv⟩:∃ b,t.1.getD x false=b:=⟨_,rfl⟩;rw [hbv] at hc hat
 cases bv
 case true=>
  have HE:=Hz (show bn t (3,(x:Int))=t by unfold bn;rw [if_neg (fun h=>by have:=h.2;dsimp only at this;rw [hat] at this;cases this)]);clear hat hbv hfx;go_wp2_with fail;refine aq (.free 0 (.pure 1 (.free 2 (.free 3 (.free 4 (.free 5 (.free 6 (.free 8 (.pure 7 (.pure 9 (.free 10 (.pure 11 (.free 12 (.free 13 (.fin))))))))))))))) [] (fun w'=>w'.cell? ⟨sb,0,none⟩=some (.int .i64 3)∧w'.cell? ⟨sb,1,none⟩=some (.int .i64 x)∧w'.cell? ⟨lb,1,none⟩=some (.slice (some ⟨ib,0,none⟩) t.1.length t.1.length)∧w'.cell? ⟨ib,x,none⟩=some (.bool true)) (by kernel_rfl) (by kernel_rfl) ⟨s0,s1,c1,hc⟩ ?_
  iterate 14 ((first | refine ak rfl rfl fun K hK=>?_ | refine aj rfl rfl fun K hK=>?_ | refine ay rfl rfl fun K hK=>?_ | refine av rfl rfl fun K hK=>?_ | refine ax rfl rfl fun K hK=>?_);go_simp;refine hK _ ?_;clear hK K)
  refine aA ?_;go_wp2_with fail;go_end0;refine ⟨rfl,?_⟩;rw [HE.out];exact dD.same L0.out K1.out.drew
 have HE:=Hz (show bn t (3,(x:Int))=(t.1.set x true,t.2 ++ [x]) by unfold bn;rw [if_pos ⟨rfl,hat⟩];rfl);clear hat hbv;go_wp2_with fail;refine aq (.free 0 (.pure 1 (.free 2 (.free 3 (.free 4 (.free 5 (.free 6 (.free 8 (.pure 7 (.pure 9 (.free 10 (.pure 11 (.free 12 (.free 13 (.fin))))))))))))))) [] (fun w'=>w'.cell? ⟨sb,0,none⟩=some (.int .i64 3)∧w'.cell? ⟨sb,1,none⟩=some (.int .i64 x)∧w'.cell? ⟨lb,1,none⟩=some (.slice (some ⟨ib,0,none⟩) t.1.length t.1.length)∧w'.cell? ⟨ib,x,none⟩=some (.bool false)) (by kernel_rfl) (by kernel_rfl) ⟨s0,s1,c1,hc⟩ ?_
 iterate 14 ((first | refine ak rfl rfl fun K hK=>?_ | refine aj rfl rfl fun K hK=>?_ | refine ay rfl rfl fun K hK=>?_ | refine av rfl rfl fun K hK=>?_ | refine ax rfl rfl fun K hK=>?_);go_simp;refine hK _ ?_;clear hK K)
 refine aA ?_;go_wp2_with fail;refine aq (.free 0 (.free 1 (.free 2 (.free 4 (.pure 3 (.pure 5 (.free 6 (.run 7 (.swi [] (.fin)))))))))) [7] (fun w'=>w'.cell? ⟨sb,1,none⟩=some (.int .i64 x)∧w'.cell? ⟨lb,1,none⟩=some (.slice (some ⟨ib,0,none⟩) t.1.length t.1.length)) (by kernel_rfl) (by kernel_rfl) ⟨s1,c1⟩ ?_
 iterate 7 ((first | refine ak rfl rfl fun K hK=>?_ | refine aj rfl rfl fun K hK=>?_ | refine ay rfl rfl fun K hK=>?_ | refine av rfl rfl fun K hK=>?_ | refine ax rfl rfl fun K hK=>?_);go_simp;refine hK _ ?_;clear hK K)
 refine aG rfl rfl rfl (fun K hK=>?_);unfold aM;go_simp;refine hK _ _ ?_;clear hK K;refine aE (fun _=>True) trivial (aA ?_);have hL2:=(L1.out.rz x);have kd2:=(Kz (w1.setCell ⟨ib,x,none⟩ (.bool true))).drew.drew;have L2:=Hz (hL2.1.same kd2);have K2:=Hz ((hL2.2.trans (kd2.mono (fun _ _ h=>h.elim))));have BS2:=Hz (show ah _ sb _ _ from kd2.ai (B1.out.ez (a:=⟨ib,x,none⟩) (B1.out.ne L1.out.hi (by decide)) (.bool true)) (fun h=>h));clear hL2 kd2 s0 s1 sl c1 hc hfx hg cl;generalize (w1.setCell ⟨ib,x,none⟩ (.bool true)).drew.drew=w2 at *;have s1:=BS2.out.cell 1;have sl:=BS2.out.lt;have c2:=L2.out.hp.cell 2;have cl:=L2.out.hp.lt;simp only [Lz,Ls] at s1 c2;obtain ⟨no,nc,en,-,-,-⟩:=L2.out.hn.rd;rw [en] at c2;have HN2:=Hz (show Sl w2 3 1 (.slice no t.2.length nc) t.2.length (fx t.2) by have:=L2.out.hn;rw [en] at this;exact this);have HEN:=Hz en;have HSZ:=Hz (show w.heap.size≤w2.heap.size from by have:=K1.out.size;have:=K2.out.size;omega);clear en;go_wp2_with fail;refine aq (.free 0 (.free 1 (.free 2 (.free 3 (.free 5 (.pure 4 (.pure 6 (.run 7 (.run 8 (.swi [11] (.free 9 (.free 10 (.run 11 (.swi [] (.fin))))))))))))))) [8,9,10,11] (fun w'=>w'.cell? ⟨lb,2,none⟩=some (.slice no t.2.length nc)∧w'.cell? ⟨sb,1,none⟩=some (.int .i64 x)) (by kernel_rfl) (by kernel_rfl) ⟨c2,s1⟩ ?_
 iterate 7 ((first | refine ak rfl rfl fun K hK=>?_ | refine aj rfl rfl fun K hK=>?_ | refine ay rfl rfl fun K hK=>?_ | refine av rfl rfl fun K hK=>?_ | refine ax rfl rfl fun K hK=>?_);go_simp;refine hK _ ?_;clear hK K)
 refine aZ rfl rfl (fun K hK=>?_);unfold aM;go_simp;have hka:aa (fun _=>False) w2 ((w2.alloc (.cells #[.int .i64 x] 3)).drew):=((Kz w2).alloc (.cells #[.int .i64 x] 3)).drew;refine hK _ _ (fun _=>⟨(hka.ai L2.out.hp (fun h=>h)).cell 2 |>.trans (by simp [HEN.out]),(hka.ai BS2.out (fun h=>h)).cell 1⟩) ?_;clear hK K;refine aG rfl rfl rfl (fun K hK=>?_);refine cy (.tmp 29) (.tmp 32) 50 rfl 3 i0 (.int .i64 0) 1 8 Try.underlying50 Hi.out Hz0.out Hz1.out Hz2.out rfl (by decide) _ t.2.length (fx t.2) rfl (HN2.out.ae hka (fun _ _ h=>h)) ⟨w2.heap.size,0,none⟩ 1 1 [.int .i64 x] rfl rfl (bq w2 3 #[.int .i64 x]) (by intro u hu;simp at hu;subst hu;rfl) (by unfold maxLen;omega) (by omega) ?_;intro v3 w3 hs3 hk3 ho3;refine hK _ _ ?_;clear hK K;obtain ⟨vo3,vc3,rfl,-,-,-⟩:=hs3.rd;have hnl:¬ ag (.slice no t.2.length nc) lb:=fun e=>by
  obtain ⟨_,c,hc⟩:=HN2.out.own e;exact L2.out.hp.ne hc (by decide) rfl
 have hp3:=hk3.ai (hka.ai L2.out.hp (fun h=>h)) hnl;have x0:=hp3.cell 2;have xl:=hp3.lt;have xf:=hp3.free 2;simp only [Lz,Ls] at x0;have set:=(aa.refl (·=lb) w3).setCell (p:=⟨lb,2,none⟩) (.inl rfl) (.slice vo3 (t.2.length+1) vc3);have K13:aa (df lb ib nv) w1 w3:=(K2.out.then hka (fun _ h=>h.elim)).then hk3 (fun k hk=>.inl (.inr (.inr (by rw [HEN.out];exact hk))));have L4:=Hz (show b7 (w3.setCell ⟨lb,2,none⟩ (.slice vo3 (t.2.length+1) vc3)) gp lb ib (.slice vo3 (t.2.length+1) vc3) (t.1.set x true,t.2 ++ [x]) from
  ⟨by simpa using hp3.aF 2 (.slice vo3 (t.2.length+1) vc3),set.ai (hk3.ai (hka.ai L2.out.hi (fun h=>h)) (fun e=>by
   obtain ⟨_,c',hc'⟩:=HN2.out.own e
   exact L2.out.hi.ne hc' (by decide) rfl)) (fun e=>L2.out.hi.ne L2.out.hp (by decide) e),by
   have e1:fx (t.2 ++ [x])=fx t.2 ++ [.int .i64 x]:=by simp [fx]
   have e2:(t.2 ++ [x]).length=t.2.length+1:=by simp
   dsimp only;rw [e1,e2];exact hs3.ae set (fun b hb e=>by
    obtain ⟨_,c,hc⟩:=hs3.own hb
    exact hc.ne hp3 (by decide) e)⟩)
 have K4:=Hz (K13.then set (fun k hk=>.inl (.inl hk)));have O4:=Hz (show ∀ k,ag (.slice vo3 (t.2.length+1) vc3) k→ag nv k∨w.heap.size≤k from fun k hk=>by
  rcases ho3 k hk with h1 | h1
  ·exact .inl (by rw [HEN.out];exact h1)
  ·refine .inr (Nat.le_trans HSZ.out ?_)
   have:=hka.size;omega)
 clear hs3 hk3 ho3 hnl hp3 set K13 c2 cl s1 sl hka;refine aE (fun _=>True) trivial ?_
 iterate 2 ((first | refine ak rfl rfl fun K hK=>?_ | refine aj rfl rfl fun K hK=>?_);go_simp;refine hK _ ?_;clear hK K)
 refine aG rfl rfl rfl (fun K hK=>?_);unfold aM;go_simp;refine hK _ _ ?_;clear hK K;refine aE (fun _=>True) trivial (aA ?_);clear x0 xl xf;go_wp2_with fail;go_end0;refine ⟨rfl,?_⟩;rw [HE.out];exact ⟨_,L4.out,(K1.out.mono (fun _ _ h=>h.elim)).trans K4.out,O4.out⟩
end
end
section
open Go.RowKit
def SB (n0:Nat) (t:List Bool × List Nat):Prop:=bF t.1≤n0∧(t.2=[]∨bF t.1<n0)
theorem SB.mark {n0:Nat} {W:Wd} {t:List Bool × List Nat} (h:SB n0 t) (hl:t.1.length=W.T.length) (v:Vl) (hv:v.1=3→W.live v.2):SB n0 (bn t v):=by
 obtain ⟨h1,h2,h3,h4⟩:=fQ hl v hv;obtain ⟨h5,h6⟩:=h;refine ⟨by omega,?_⟩;rcases h3 with h3 | h3
 ·rcases h6 with h6 | h6
  ·exact .inl (by rw [h3,h6])
  ·exact .inr (by omega)
 ·exact .inr (by omega)
theorem qV {α:Type} {l:List α} (h:l.length=2):∃ a b,l=[a,b]:=by
 match l,h with
 | [a,b],_=>exact ⟨a,b,rfl⟩
theorem Sl.sQ {w:World} {e:TypeId} {g o n cap:Nat} {x:Value} {xs:List Value} (h:Sl w e 1 (.slice (some ⟨g,o,none⟩) (n+1) cap) (n+1) (x :: xs)) :
  Sl w e 1 (.slice (if cap=1 then some ⟨g,o,none⟩ else some ⟨g,o+1,none⟩) n (cap-1)) n xs:=by
 obtain ⟨g',o',cap',cur,e',hb,h1,h2,h3,h4⟩:=h.laid (by omega);cases e';have hl:=h.1;refine ⟨by simp at hl ⊢;omega, .inr ?_⟩;have htl:(cur.drop (o+1)).take (n*1)=xs:=by
  have h5:((cur.drop o).take ((n+1)*1)).drop 1=xs:=by rw [h4];rfl
  rw [←h5,List.drop_take,List.drop_drop];congr 1
 by_cases hc:cap=1
 ·rw [if_pos hc];subst hc;have hn:n=0:=by omega
  subst hn;have:xs=[]:=by cases xs with | nil=>rfl | cons a l=>simp at hl
  subst this;exact ⟨g,o,0,cur,rfl,hb,Nat.le_refl _,by unfold maxLen;omega,by omega,by simp⟩
 ·rw [if_neg hc];exact ⟨g,o+1,cap-1,cur,rfl,hb,by omega,by omega,by omega,htl⟩
structure fh (w:World) (gx:GX) (gp:Nat) (rgv wv:Value) (regs q:List (Int × Int)) (fv:Nat→Value) (W:Wd):Prop where
 S:a8 gx w gp rgv wv regs q
 T:cI w gx.l fv W.T
 F:∀ i b,ag (fv i) b→∃ c,ah w b c 78
structure LI (w wr:World) (gp lb ib:Nat) (nv nv1:Value) (W:Wd) (q:List (Int × Int)) (s0:List Bool) (E:Int→Prop) (t:List Bool × List Nat):Prop where
 L:b7 wr gp lb ib nv1 t
 K:aa (df lb ib nv) w wr
 O:∀ k,ag nv1 k→ag nv k∨w.heap.size≤k
 G:GI W q s0 E t
section
variable {w wr w2 w':World} {gx:GX} {gp lb ib:Nat} {rgv wv nv nv1:Value} {regs q:List (Int × Int)} {fv:Nat→Value} {W:Wd} {s0:List Bool} {E E':Int→Prop} {t t2:List Bool × List Nat}
theorem fh.lv (S:fh w gx gp rgv wv regs q fv W) (L:b7 w gp lb ib nv t) (k:aa (df lb ib nv) w w'):fh w' gx gp rgv wv regs q fv W:=by
 have ne:∀ {b:Nat} {c:List Value} {T:TypeId},ah w b c T→T≠197→T≠4→T≠3→¬ df lb ib nv b:=fun hb h1 h2 h3 e=>by
  obtain ⟨_,c',T',hc',hT⟩:=L.aX e;rcases hT with rfl | rfl | rfl
  ·exact hb.ne hc' h1 rfl
  ·exact hb.ne hc' h2 rfl
  ·exact hb.ne hc' h3 rfl
 refine ⟨S.S.ae k (fun b hb=>?_),S.T.ae k (fun b hb=>?_) (fun i b hb=>?_),fun i b hb=>?_⟩
 ·rcases hb with rfl | hb | hb
  ·exact ne S.S.hp (by decide) (by decide) (by decide)
  ·obtain ⟨_,c,hc⟩:=S.S.hr.own hb;exact ne hc (by decide) (by decide) (by decide)
  ·obtain ⟨_,c,hc⟩:=S.S.hw.own hb;exact ne hc (by decide) (by decide) (by decide)
 ·obtain ⟨cs,hs,_⟩:=S.T;obtain ⟨_,c,hc⟩:=hs.own hb;exact ne hc (by decide) (by decide) (by decide)
 ·obtain ⟨c,hc⟩:=S.F i b hb;exact ne hc (by decide) (by decide) (by decide)
 ·obtain ⟨c,hc⟩:=S.F i b hb;exact ⟨c,k.ai hc (ne hc (by decide) (by decide) (by decide))⟩
theorem LI.to (I:LI w wr gp lb ib nv nv1 W q s0 E t) (U:dD wr gp lb ib nv1 w2 t2) (G:GI W q s0 E' t2):∃ nv2,LI w w2 gp lb ib nv nv2 W q s0 E' t2:=by
 obtain ⟨nv2,L2,k2,o2⟩:=U;refine ⟨nv2,L2,I.K.then k2 (fun b hb=>?_),fun b hb=>?_,G⟩
 ·rcases hb with hb | hb | hb
  ·exact .inl (.inl hb)
  ·exact .inl (.inr (.inl hb))
  ·exact (I.O b hb).imp (fun h=>.inr (.inr h)) id
 ·rcases o2 b hb with h | h
  ·exact I.O b h
  ·exact .inr (Nat.le_trans I.K.size h)
theorem LI.same (I:LI w wr gp lb ib nv nv1 W q s0 E t) (k:aa (fun _=>False) wr w2):LI w w2 gp lb ib nv nv1 W q s0 E t:=⟨I.L.same k,I.K.trans (k.mono (fun _ _ h=>h.elim)),I.O,I.G⟩
theorem LI.g4 (I:LI w wr gp lb ib nv nv1 W q s0 E t) (v:Vl) (hv:v.1=3→W.live v.2) (hT:W.T.length≤100000) :
  Calls Try.prog 137 #[.pointer (some ⟨lb,0,none⟩), .agg #[.int .i64 v.1, .int .i64 v.2]] wr fun e w'=>e=.returned (.tuple #[])∧dD wr gp lb ib nv1 w' (bn t v):=
 jo v I.L (fun h3=>by have:=hv h3;rw [I.G.len];exact ⟨this.1,this.2.1⟩) (by rw [I.G.len];exact hT) (Nat.le_trans I.G.gX hT)
theorem fh.nth (S:fh w gx gp rgv wv regs q fv W) {i:Nat} (hi:i<W.T.length):∃ g o nc,gx.l=.slice (some ⟨g,o,none⟩) W.T.length nc∧g<w.heap.size ∧
  iz w (fv i) (W.th (i:Int)) (w.cell? ⟨g,o+i*4,none⟩) (w.cell? ⟨g,o+i*4+1,none⟩) (w.cell? ⟨g,o+i*4+2,none⟩) (w.cell? ⟨g,o+i*4+3,none⟩):=by
 obtain ⟨cs,hs,hr⟩:=S.T;obtain ⟨g,o,cap,cur,e,hb,h1,h2,h3,h4⟩:=hs.laid (by omega);have hl:=hs.1;have hc:∀ j,j<W.T.length*4→w.cell? ⟨g,o+j,none⟩=cs[j]? := fun j hj=>by
  rw [hb.cell,←h4,List.getElem?_take,if_pos hj,List.getElem?_drop]
 refine ⟨g,o,cap,e,hb.lt,?_⟩;have:=hr i hi;rw [Wd.dy,hc (i*4) (by omega),Nat.add_assoc o (i*4) 1,hc (i*4+1) (by omega),Nat.add_assoc o (i*4) 2,hc (i*4+2) (by omega),Nat.add_assoc o (i*4) 3,hc (i*4+3) (by omega)];exact this
theorem fh.row (S:fh w gx gp rgv wv regs q fv W) {i g o nc:Nat} (hi:i<W.T.length) (e:gx.l=.slice (some ⟨g,o,none⟩) W.T.length nc):g<w.heap.size ∧
  iz w (fv i) (W.th (i:Int)) (w.cell? ⟨g,o+i*4,none⟩) (w.cell? ⟨g,o+i*4+1,none⟩) (w.cell? ⟨g,o+i*4+2,none⟩) (w.cell? ⟨g,o+i*4+3,none⟩):=by
 obtain ⟨g',o',nc',e',h1,h2⟩:=S.nth hi;rw [e] at e';cases e';exact ⟨h1,h2⟩
theorem GI.lead (G:GI W q s0 E t) (hok:W.ok) {i:Int} (hi:az t.1 i=true) {v:Vl} (hv:v.1=3→W.live v.2) (h:v.1=3→dW W.nd q (fun k=>az t.1 k=true) i v.2):v.1=3→W.live v.2∧bu W.nd q (fun k=>az s0 k=true) v.2:=fun h3=>
 ⟨hv h3,bu.closed W.nd q _ i v.2 (G.al i hi) ((h h3).mono (fun k hk=>G.al k hk) (fun _ h=>h))⟩
theorem b7.pop {g o cap k:Nat} {is:List Bool} {r:List Nat} (L:b7 w gp lb ib (.slice (some ⟨g,o,none⟩) (r.length+1) cap) (is,k :: r)) :
  dD w gp lb ib (.slice (some ⟨g,o,none⟩) (r.length+1) cap) (w.setCell ⟨lb,2,none⟩ (.slice (if cap=1 then some ⟨g,o,none⟩ else some ⟨g,o+1,none⟩) r.length (cap-1))) (is,r):=by
 have K:=(aa.refl (·=lb) w).setCell (p:=⟨lb,2,none⟩) (.inl rfl) (.slice (if cap=1 then some ⟨g,o,none⟩ else some ⟨g,o+1,none⟩) r.length (cap-1));have hn:=L.hn;have hs:Sl w 3 1 (.slice (if cap=1 then some ⟨g,o,none⟩ else some ⟨g,o+1,none⟩) r.length (cap-1)) r.length (fx r):=Sl.sQ hn;refine ⟨_,⟨by simpa using L.hp.aF 2 _,K.ai L.hi (fun e=>L.hi.ne L.hp (by decide) e),hs.ae K (fun b hb e=>?_)⟩,K.mono (fun b _ e=>.inl e),fun b hb=>.inl ?_⟩
 ·obtain ⟨_,c,hc⟩:=hs.own hb;exact hc.ne L.hp (by decide) e
 ·by_cases hc:cap=1
  ·rw [if_pos hc] at hb;exact hb
  ·rw [if_neg hc] at hb;exact hb
theorem fh.tl (S:fh w gx gp rgv wv regs q fv W):∃ no nc,gx.l=.slice no W.T.length nc:=by
 obtain ⟨cs,hs,-⟩:=S.T;obtain ⟨no,nc,e,-,-,-⟩:=hs.rd;exact ⟨no,nc,e⟩
theorem GSpread_c (S:fh w gx gp rgv wv regs q fv W) (L:b7 w gp lb ib nv t) (hok:W.ok) (G:GI W q t.1 (fun _=>False) t) (hq:∀ e ∈ q,W.dx e) (hT:W.T.length≤100000) (hql:q.length≤1000000) :
  Calls Try.prog 139 #[.pointer (some ⟨lb,0,none⟩)] w fun e w'=>e=.returned (.tuple #[])∧dD w gp lb ib nv w' (W.bQ q t.1,[]):=by
 have SP:=Hz S;have HOK:=Hz hok;have HQ:=Hz hq;have SPK:=Hz (fun w' (k:aa (df lb ib nv) w w')=>S.lv L k);have HI0:=Hz (show LI w w gp lb ib nv nv W q t.1 (fun _=>False) t from ⟨L,aa.refl _ _,fun k hk=>.inl hk,G⟩);have HS0:=Hz (show t.1.length=W.T.length from G.len);have HTT:=Hz hT;have HQL:=Hz hql;have lbl:=L.hp.lt;obtain ⟨s0,hs0⟩:∃ s,t.1=s:=⟨_,rfl⟩;rw [hs0] at HI0 HS0 ⊢;clear S L G hok hq hs0;go_enter Try.func139,Try.ntmps139;go_wp2_with fail;go_loopw [2] (fun b wr=>∃ (bv:Bool) (t1:List Bool × List Nat) (nv1:Value),b=.bool bv∧LI w wr gp lb ib nv nv1 W q s0 (fun _=>False) t1∧(bv=false→t1=(W.bQ q s0,[]))) (fun b wr=>2*gfalsW wr ib+(match b with | .bool true=>1 | _=>0))
 case atStart=>exact ⟨true,t,nv,rfl,HI0.out,fun h=>by cases h⟩
 case round=>
  obtain ⟨bv,t1,nv1,rfl,hI,hend⟩:=hrel;cases bv
  ·have TO:=Hz (show dD w gp lb ib nv wr (W.bQ q s0,[]) by rw [←hend rfl];exact ⟨nv1,hI.L,hI.K,hI.O⟩);clear hI hend;go_wp2_with fail;go_end0;exact ⟨rfl,TO.out⟩
  have I1:=Hz hI;clear hI hend HI0;obtain ⟨n0,hn0⟩:∃ n,gfalsW wr ib=n:=⟨_,rfl⟩;have HN0:=Hz (show bF t1.1=n0 by rw [←I1.out.L.fE];exact hn0);rw [hn0];clear hn0;go_wp2_with fail;go_loopw [3] (fun u wx=>∃ (t2:List Bool × List Nat) (nv2:Value),LI w wx gp lb ib nv nv2 W q s0 (fun _=>False) t2∧bF t2.1≤n0) (fun u wx=>2*gfalsW wx ib+lD wx lb 2)
  case atStart=>exact ⟨t1,nv1,I1.out,by have:=HN0.out;omega⟩
  case round=>
   clear I1 HN0;obtain ⟨t2,nv2,hI,hle⟩:=hrel;have I2:=Hz hI;obtain ⟨is,nx⟩:=t2;dsimp only at hle;have c0:=hI.L.hp.cell 0;have c2:=hI.L.hp.cell 2;have cl:=hI.L.hp.lt;simp only [Lz,Ls] at c0 c2;obtain ⟨no,nc,en,-,hnm,-⟩:=hI.L.hn.rd;rw [en] at c2;dsimp only at c2;have HEN:=Hz en;clear hI en hnm;cases nx with
   | nil=>
    simp only [List.length_nil] at c2;obtain ⟨no3,nc3,etl⟩:=(SPK.out _ I2.out.K).tl;have HTL:=Hz etl;have p0:=(SPK.out _ I2.out.K).S.hp.cell 0;have pl:=(SPK.out _ I2.out.K).S.hp.lt;simp only [Lz,Ls] at p0;rw [etl] at p0;have HLE:=Hz hle;clear etl hle;go_wp2_with fail;clear c0 c2 p0 pl cl;go_loopw [77] (fun u wx=>∃ (i:Nat) (t3:List Bool × List Nat) (nv3:Value),i≤W.T.length∧u=.int .i64 i∧LI w wx gp lb ib nv nv3 W q s0 (fun _=>False) t3∧SB n0 t3∧(t3.2=[]→∀ j:Nat,j<i→ft W t3.1 (j:Int))) (fun u _=>W.T.length-(intOf u).toNat)
    case atStart=>exact ⟨0,(is,[]),nv2,Nat.zero_le _,rfl,I2.out,⟨HLE.out, .inl rfl⟩,fun _ j hj=>by omega⟩
    case round=>
     clear I2 HLE HEN;obtain ⟨i,t3,nv3,hi,rfl,hI,hsb,heph⟩:=hrel;have I3:=Hz hI;have SB3:=Hz hsb;have EP3:=Hz heph;clear hI hsb heph;obtain ⟨is3,nx3⟩:=t3;have HLN:=Hz I3.out.G.len;have p0:=(SPK.out _ I3.out.K).S.hp.cell 0;have pl:=(SPK.out _ I3.out.K).S.hp.lt;have c0:=I3.out.L.hp.cell 0;have c1:=I3.out.L.hp.cell 1;have cl:=I3.out.L.hp.lt;simp only [Lz,Ls] at p0 c0 c1;rw [HTL.out] at p0;rw [HLN.out] at c1;by_cases hlt:i<W.T.length
     ·obtain ⟨gt,ot,ntc,etl,hgt,hrow⟩:=(SPK.out _ I3.out.K).nth hlt;rw [HTL.out] at etl;cases etl;have hb:=I3.out.L.bool (i:=i) (by have:=HLN.out;dsimp only at this ⊢;omega);have hbl:=I3.out.L.hi.lt;have HRW:=Hz hrow;clear hrow;have HAT:=Hz (show az is3 (i:Int)=is3.getD i false from bS is3 i);have hii:(i:Int)<W.T.length:=by omega
      have NXS:=Hz (fun (w5:World) (k:aa (fun _=>False) wr w5) (h:ft W is3 (i:Int))=>(show ∃ (i2:Nat) (t3:List Bool × List Nat) (nv3:Value),i2≤W.T.length∧Value.int .i64 ((i:Int)+1)=.int .i64 i2∧LI w w5 gp lb ib nv nv3 W q s0 (fun _=>False) t3∧SB n0 t3∧(t3.2=[]→∀ j:Nat,j<i2→ft W t3.1 (j:Int)) from
       ⟨i+1,(is3,nx3),nv3,hlt,rfl,I3.out.same k,SB3.out,fun h0 j hj=>by
        by_cases e:j=i
        ·subst e;exact h
        ·exact EP3.out h0 j (by omega)⟩))
      go_upto_region 19 with (fail);cases hbv:is3.getD i false
      ·rw [hbv] at hb;have NX:=Hz (NXS.out _ (Kz wr).drew (fun h=>by have:=HAT.out;rw [hbv,h] at this;cases this));clear hbv;refine aq (.free 0 (.free 1 (.free 2 (.free 4 (.pure 3 (.free 5 (.pure 6 (.free 7 (.free 8 (.free 9 (.free 10 (.pure 11 (.free 12 (.free 13 (.free 14 (.free 15 (.free 16 (.free 17 (.pure 18 (.free 19 (.free 20 (.pure 21 (.free 22 (.free 23 (.free 24 (.free 25 (.free 26 (.free 28 (.free 29 (.free 30 (.pure 27 (.pure 31 (.free 32 (.free 33 (.pure 34 (.free 35 (.pure 36 (.free 37 (.free 38 (.fin)))))))))))))))))))))))))))))))))))))))) [] (fun w'=>w'.cell? ⟨lb,1,none⟩=some (.slice (some ⟨ib,0,none⟩) W.T.length W.T.length)∧w'.cell? ⟨ib,i,none⟩=some (.bool false)) (by kernel_rfl) (by kernel_rfl) ⟨c1,hb⟩ ?_
       iterate 39 ((first | refine ak rfl rfl fun K hK=>?_ | refine aj rfl rfl fun K hK=>?_ | refine ay rfl rfl fun K hK=>?_ | refine av rfl rfl fun K hK=>?_ | refine ax rfl rfl fun K hK=>?_);go_simp;refine hK _ ?_;clear hK K)
       refine aA ?_;clear c0 c1 cl p0 pl hb hbl hgt;go_wp2_with fail;go_roundw
       case rel=>
        first
        | exact NX.out
        | ((repeat apply Exists.intro);exact ⟨NX.out,rfl⟩)
       case measure=>simp [intOf];omega
      have HBV:=Hz hbv;rw [hbv] at hb;have hli:W.live (i:Int):=I3.out.G.lv _ (show az is3 (i:Int)=true by rw [HAT.out,hbv]);have HLI:=Hz hli;have hded:=hli.2.2;have t0:=HRW.out.k hded;have t1:=HRW.out.f hded;have HRS:=Hz (HRW.out.s hded);obtain ⟨fo,fc,efv,-,-,-⟩:=HRS.out.rd;have HEF:=Hz efv;rw [efv] at t1;clear efv hded hli hbv;obtain ⟨kd,hkd⟩:∃ x,(W.th (i:Int)).k=x:=⟨_,rfl⟩;rw [hkd] at t0;have HKD:=Hz hkd;clear hkd;by_cases h4:kd=4
      case neg=>
       have NX:=Hz (NXS.out _ (Kz wr).drew (fun _ hk=>by rw [HKD.out] at hk;exact absurd hk h4));have e4:(kd == 4)=false:=by simpa using h4
       clear h4 t1;refine aq (.free 0 (.free 1 (.free 2 (.free 4 (.pure 3 (.free 5 (.pure 6 (.free 7 (.free 8 (.free 9 (.free 10 (.pure 11 (.free 12 (.free 13 (.free 14 (.free 15 (.free 16 (.free 17 (.pure 18 (.free 19 (.free 20 (.pure 21 (.free 22 (.free 23 (.free 24 (.free 25 (.free 26 (.free 28 (.free 29 (.free 30 (.pure 27 (.pure 31 (.free 32 (.free 33 (.pure 34 (.free 35 (.pure 36 (.free 37 (.free 38 (.fin)))))))))))))))))))))))))))))))))))))))) [] (fun w'=>w'.cell? ⟨lb,1,none⟩=some (.slice (some ⟨ib,0,none⟩) W.T.length W.T.length)∧w'.cell? ⟨ib,i,none⟩=some (.bool true)∧w'.cell? ⟨gt,ot+i*4,none⟩=some (.int .i64 kd)) (by kernel_rfl) (by kernel_rfl) ⟨c1,hb,t0⟩ ?_
       iterate 39 ((first | refine ak rfl rfl fun K hK=>?_ | refine aj rfl rfl fun K hK=>?_ | refine ay rfl rfl fun K hK=>?_ | refine av rfl rfl fun K hK=>?_ | refine ax rfl rfl fun K hK=>?_);go_simp;refine hK _ ?_;clear hK K)
       refine aA ?_;clear t0;clear c0 c1 cl p0 pl hb hbl hgt;go_wp2_with fail;go_roundw
       case rel=>
        first
        | exact NX.out
        | ((repeat apply Exists.intro);exact ⟨NX.out,rfl⟩)
       case measure=>simp [intOf];omega
      subst h4;obtain ⟨u,v,hfs⟩:∃ u v,(W.th (i:Int)).fs=[u,v]:=qV (by
       have:=HOK.out.tk _ HLI.out;rw [HKD.out] at this;simp [aW] at this
       omega)
      have rd3:Rd wr fo (au [u,v]):=by
       have:=HRS.out;rw [HEF.out,hfs] at this;obtain ⟨_,_,e',rd,-,-⟩:=this.rd;cases e';exact rd
      obtain ⟨gf,of,rfl,hgf,u0,u1⟩:=rd3.val 0 (by simp);obtain ⟨_,_,e',-,v0,v1⟩:=rd3.val 1 (by simp);cases e';have lenE:(W.th (i:Int)).fs.length=2:=by rw [hfs];rfl
      rw [lenE] at t1;simp only [List.getD_cons_zero,List.getD_cons_succ,Nat.zero_mul,Nat.add_zero,Nat.one_mul] at u0 u1 v0 v1;have HFS:=Hz hfs;have HIN:=Hz (show v.1=3→W.live v.2 from fun h3=>Wd.bg (HOK.out.tv _ HLI.out v (by rw [hfs];simp)) h3);have HIU:=Hz (show u.1=3→W.live u.2 from fun h3=>Wd.bg (HOK.out.tv _ HLI.out u (by rw [hfs];simp)) h3);obtain ⟨uk,ux⟩:=u;dsimp only at u0 u1;clear rd3 lenE hfs;by_cases h3:uk=3
      case neg=>
       have e3:(uk == 3)=false:=by simpa using h3
       have HU:=Hz (show a5 is3 (uk,ux)=true by unfold a5;simp [h3]);have e3':(uk != 3)=true:=by simpa using h3
       refine aq (.free 0 (.free 1 (.free 2 (.free 4 (.pure 3 (.free 5 (.pure 6 (.free 7 (.free 8 (.free 9 (.free 10 (.pure 11 (.free 12 (.free 13 (.free 14 (.free 15 (.free 16 (.free 17 (.pure 18 (.free 19 (.free 20 (.pure 21 (.free 22 (.free 23 (.free 24 (.free 25 (.free 26 (.free 28 (.free 29 (.free 30 (.pure 27 (.pure 31 (.free 32 (.free 33 (.pure 34 (.free 35 (.pure 36 (.free 37 (.free 38 (.fin)))))))))))))))))))))))))))))))))))))))) [] (fun w'=>w'.cell? ⟨lb,1,none⟩=some (.slice (some ⟨ib,0,none⟩) W.T.length W.T.length)∧w'.cell? ⟨ib,i,none⟩=some (.bool true)∧w'.cell? ⟨gt,ot+i*4,none⟩=some (.int .i64 4)∧w'.cell? ⟨gt,ot+i*4+1,none⟩=some (.slice (some ⟨gf,of,none⟩) 2 fc)∧w'.cell? ⟨gf,of,none⟩=some (.int .i64 uk)) (by kernel_rfl) (by kernel_rfl) ⟨c1,hb,t0,t1,u0⟩ ?_
       iterate 39 ((first | refine ak rfl rfl fun K hK=>?_ | refine aj rfl rfl fun K hK=>?_ | refine ay rfl rfl fun K hK=>?_ | refine av rfl rfl fun K hK=>?_ | refine ax rfl rfl fun K hK=>?_);go_simp;refine hK _ ?_;clear hK K)
       refine aA ?_;clear e3' h3;go_wp2_with (refine aQ rfl 78 (.tmp 133) rfl (by kernel_rfl) gf _ rfl _ _ v0 v1 ?_);have I4:=Hz (I3.out.same (Kz wr).drew);refine (I4.out.g4 v HIN.out HTT.out).mono ?_;rintro e w5 ⟨rfl,hU⟩;obtain ⟨nv5,i5⟩:=I4.out.to hU (I4.out.G.mark (GI.lead I4.out.G HOK.out (show az is3 (i:Int)=true by rw [HAT.out,HBV.out]) HIN.out (jQ HKD.out HFS.out HU.out)));have NX:=Hz (show ∃ (i2:Nat) (t3:List Bool × List Nat) (nv3:Value),i2≤W.T.length∧Value.int .i64 ((i:Int)+1)=.int .i64 i2∧LI w w5 gp lb ib nv nv3 W q s0 (fun _=>False) t3∧SB n0 t3∧(t3.2=[]→∀ j:Nat,j<i2→ft W t3.1 (j:Int)) from
        ⟨i+1,bn (is3,nx3) v,nv5,hlt,rfl,i5,SB3.out.mark I4.out.G.len v HIN.out,fun h0 j hj=>by
         have hin:=fg I4.out.G.len v HIN.out;rw [fP h0] at hin ⊢;by_cases e:j=i
         ·subst e;intro _ _ _ x hx h3;rw [HFS.out] at hx;simp at hx;subst hx;exact hin h3
         ·exact EP3.out (gG h0) j (by omega)⟩)
       clear hU i5 v0 v1 hgf t0 t1 u0 u1 e3;clear c0 c1 cl p0 pl hb hbl hgt;go_wp2_with fail;go_roundw
       case rel=>
        first
        | exact NX.out
        | ((repeat apply Exists.intro);exact ⟨NX.out,rfl⟩)
       case measure=>simp [intOf];omega
      subst h3;have hlu:=HIU.out rfl;dsimp only at hlu;obtain ⟨x,rfl⟩:=Int.eq_ofNat_of_zero_le hlu.1;have hxl:x<W.T.length:=by have:=hlu.2.1;omega
      have hx:=I3.out.L.bool (i:=x) (by have:=HLN.out;dsimp only at this ⊢;omega);have HAX:=Hz (show az is3 (x:Int)=is3.getD x false from bS is3 x);have hxi:(x:Int)<W.T.length:=by omega
      clear hlu;cases hb2:is3.getD x false
      ·rw [hb2] at hx;have NX:=Hz (NXS.out _ (Kz wr).drew (fun _ _ h=>by
        rw [HFS.out] at h;have h:a5 is3 (3,(x:Int))=true:=h;have e:az is3 (x:Int)=false:=by rw [HAX.out,hb2]
        unfold a5 at h
        simp [e] at h))
       clear hb2;refine aq (.free 0 (.free 1 (.free 2 (.free 4 (.pure 3 (.free 5 (.pure 6 (.free 7 (.free 8 (.free 9 (.free 10 (.pure 11 (.free 12 (.free 13 (.free 14 (.free 15 (.free 16 (.free 17 (.pure 18 (.free 19 (.free 20 (.pure 21 (.free 22 (.free 23 (.free 24 (.free 25 (.free 26 (.free 28 (.free 29 (.free 30 (.pure 27 (.pure 31 (.free 32 (.free 33 (.pure 34 (.free 35 (.pure 36 (.free 37 (.free 38 (.fin)))))))))))))))))))))))))))))))))))))))) [] (fun w'=>w'.cell? ⟨lb,1,none⟩=some (.slice (some ⟨ib,0,none⟩) W.T.length W.T.length)∧w'.cell? ⟨ib,i,none⟩=some (.bool true)∧w'.cell? ⟨gt,ot+i*4,none⟩=some (.int .i64 4)∧w'.cell? ⟨gt,ot+i*4+1,none⟩=some (.slice (some ⟨gf,of,none⟩) 2 fc)∧w'.cell? ⟨gf,of,none⟩=some (.int .i64 3)∧w'.cell? ⟨gf,of+1,none⟩=some (.int .i64 (x:Int))∧w'.cell? ⟨ib,x,none⟩=some (.bool false)) (by kernel_rfl) (by kernel_rfl) ⟨c1,hb,t0,t1,u0,u1,hx⟩ ?_
       iterate 39 ((first | refine ak rfl rfl fun K hK=>?_ | refine aj rfl rfl fun K hK=>?_ | refine ay rfl rfl fun K hK=>?_ | refine av rfl rfl fun K hK=>?_ | refine ax rfl rfl fun K hK=>?_);go_simp;refine hK _ ?_;clear hK K)
       refine aA ?_;clear t0 t1 u0 u1 hx v0 v1 hgf;clear c0 c1 cl p0 pl hb hbl hgt;go_wp2_with fail;go_roundw
       case rel=>
        first
        | exact NX.out
        | ((repeat apply Exists.intro);exact ⟨NX.out,rfl⟩)
       case measure=>simp [intOf];omega
      ·rw [hb2] at hx;have HU:=Hz (show a5 is3 (3,(x:Int))=true by unfold a5;simp [show az is3 (x:Int)=true by rw [HAX.out,hb2]]);clear hb2;refine aq (.free 0 (.free 1 (.free 2 (.free 4 (.pure 3 (.free 5 (.pure 6 (.free 7 (.free 8 (.free 9 (.free 10 (.pure 11 (.free 12 (.free 13 (.free 14 (.free 15 (.free 16 (.free 17 (.pure 18 (.free 19 (.free 20 (.pure 21 (.free 22 (.free 23 (.free 24 (.free 25 (.free 26 (.free 28 (.free 29 (.free 30 (.pure 27 (.pure 31 (.free 32 (.free 33 (.pure 34 (.free 35 (.pure 36 (.free 37 (.free 38 (.fin)))))))))))))))))))))))))))))))))))))))) [] (fun w'=>w'.cell? ⟨lb,1,none⟩=some (.slice (some ⟨ib,0,none⟩) W.T.length W.T.length)∧w'.cell? ⟨ib,i,none⟩=some (.bool true)∧w'.cell? ⟨gt,ot+i*4,none⟩=some (.int .i64 4)∧w'.cell? ⟨gt,ot+i*4+1,none⟩=some (.slice (some ⟨gf,of,none⟩) 2 fc)∧w'.cell? ⟨gf,of,none⟩=some (.int .i64 3)∧w'.cell? ⟨gf,of+1,none⟩=some (.int .i64 (x:Int))∧w'.cell? ⟨ib,x,none⟩=some (.bool true)) (by kernel_rfl) (by kernel_rfl) ⟨c1,hb,t0,t1,u0,u1,hx⟩ ?_
       iterate 39 ((first | refine ak rfl rfl fun K hK=>?_ | refine aj rfl rfl fun K hK=>?_ | refine ay rfl rfl fun K hK=>?_ | refine av rfl rfl fun K hK=>?_ | refine ax rfl rfl fun K hK=>?_);go_simp;refine hK _ ?_;clear hK K)
       refine aA ?_;go_wp2_with (refine aQ rfl 78 (.tmp 133) rfl (by kernel_rfl) gf _ rfl _ _ v0 v1 ?_);have I4:=Hz (I3.out.same (Kz wr).drew);refine (I4.out.g4 v HIN.out HTT.out).mono ?_;rintro e w5 ⟨rfl,hU⟩;obtain ⟨nv5,i5⟩:=I4.out.to hU (I4.out.G.mark (GI.lead I4.out.G HOK.out (show az is3 (i:Int)=true by rw [HAT.out,HBV.out]) HIN.out (jQ HKD.out HFS.out HU.out)));have NX:=Hz (show ∃ (i2:Nat) (t3:List Bool × List Nat) (nv3:Value),i2≤W.T.length∧Value.int .i64 ((i:Int)+1)=.int .i64 i2∧LI w w5 gp lb ib nv nv3 W q s0 (fun _=>False) t3∧SB n0 t3∧(t3.2=[]→∀ j:Nat,j<i2→ft W t3.1 (j:Int)) from
        ⟨i+1,bn (is3,nx3) v,nv5,hlt,rfl,i5,SB3.out.mark I4.out.G.len v HIN.out,fun h0 j hj=>by
         have hin:=fg I4.out.G.len v HIN.out;rw [fP h0] at hin ⊢;by_cases e:j=i
         ·subst e;intro _ _ _ x hx h3;rw [HFS.out] at hx;simp at hx;subst hx;exact hin h3
         ·exact EP3.out (gG h0) j (by omega)⟩)
       clear hU i5 v0 v1 hgf t0 t1 u0 u1 hx;clear c0 c1 cl p0 pl hb hbl hgt;go_wp2_with fail;go_roundw
       case rel=>
        first
        | exact NX.out
        | ((repeat apply Exists.intro);exact ⟨NX.out,rfl⟩)
       case measure=>simp [intOf];omega
     ·have hie:=Hz (show i=W.T.length by omega);have EPA:=Hz (show nx3=[]→∀ j:Nat,j<W.T.length→ft W is3 (j:Int) from fun h j hj=>EP3.out h j (by rw [hie.out];exact hj));have w0:=(SPK.out _ I3.out.K).S.hp.cell 3;simp only [Lz,Ls] at w0;obtain ⟨wo,wc,ewv,-,-,-⟩:=(SPK.out _ I3.out.K).S.hw.rd;have HWV:=Hz ewv;rw [ewv] at w0;clear c1 ewv p0;go_wp2_with fail;clear c0 w0 cl pl;go_loopw [146] (fun u wx=>∃ (f:Nat) (t4:List Bool × List Nat) (nv4:Value),f≤q.length∧u=.int .i64 f∧LI w wx gp lb ib nv nv4 W q s0 (fun _=>False) t4∧SB n0 t4∧(t4.2=[]→(∀ j:Nat,j<W.T.length→ft W t4.1 (j:Int))∧∀ e ∈ q.take f,kj t4.1 e)) (fun u _=>q.length-(intOf u).toNat)
      case atStart=>exact ⟨0,(is3,nx3),nv3,Nat.zero_le _,rfl,I3.out,SB3.out,fun h=>⟨EPA.out h,fun e he=>by simp at he⟩⟩
      case round=>
       clear I3 SB3 EP3 EPA HLN hie hi;obtain ⟨f,t4,nv4,hf,rfl,hI,hsb,hcl⟩:=hrel;have I4:=Hz hI;have SB4:=Hz hsb;have CL4:=Hz hcl;clear hI hsb hcl;obtain ⟨is4,nx4⟩:=t4;have HLN:=Hz I4.out.G.len;by_cases hlt:f<q.length
       ·have rd3:Rd wr wo (au q):=by
         have:=(SPK.out _ I4.out.K).S.hw;rw [HWV.out] at this;obtain ⟨_,_,e',rd,-,-⟩:=this.rd;cases e';exact rd
        obtain ⟨gf,of,rfl,hgf,v0,v1⟩:=rd3.dM f hlt;have hmem:q.getD f (0,0) ∈ q:=by rw [Ld,Le hlt];exact List.getElem_mem hlt
        have htk:=Hz (show q.take (f+1)=q.take f ++ [q.getD f (0,0)] by rw [←List.take_append_getElem hlt,Ld,Le hlt];rfl);have HMM:=Hz hmem;generalize q.getD f (0,0)=e at *;obtain ⟨eg,et⟩:=e;dsimp only at v0 v1;obtain ⟨hl1,hk5,hl2⟩:=HQ.out _ HMM.out;dsimp only at hl1 hk5 hl2;obtain ⟨g5,rfl⟩:=Int.eq_ofNat_of_zero_le hl1.1;have hgl:g5<W.T.length:=by have:=hl1.2.1;omega
        have HK5:=Hz hk5;have HL2:=Hz hl2;have hgi:(g5:Int)<W.T.length:=by omega
        clear hmem rd3 hl1 hk5 hl2;go_upto_region 25 with (refine aQ rfl 170 (.tmp 148) rfl (by kernel_rfl) gf (of+f*2) rfl _ _ v0 v1 ?_)
        have B5:=Hz (show ah (wr.alloc (.cells #[.int .i64 (g5:Int), .int .i64 et] 170)) wr.heap.size [.int .i64 (g5:Int), .int .i64 et] 170 from ah.newAt _ rfl rfl);have I5:=Hz (I4.out.same ((Kz wr).alloc (.cells #[.int .i64 (g5:Int), .int .i64 et] 170)));clear v0 v1 hgf;generalize wr.alloc (.cells #[.int .i64 (g5:Int), .int .i64 et] 170)=w5 at *;generalize wr.heap.size=sb at *;have z0:=B5.out.cell 0;have z1:=B5.out.cell 1;have sl:=B5.out.lt;have c1:=I5.out.L.hp.cell 1;have cl:=I5.out.L.hp.lt;simp only [Lz,Ls] at z0 z1 c1;rw [HLN.out] at c1;have hb:=I5.out.L.bool (i:=g5) (by have:=HLN.out;dsimp only at this ⊢;omega);have hbl:=I5.out.L.hi.lt;have HAT:=Hz (show az is4 (g5:Int)=is4.getD g5 false from bS is4 g5);cases hbv:is4.getD g5 false
        ·rw [hbv] at hb;have NX:=Hz (show ∃ (f2:Nat) (t4:List Bool × List Nat) (nv4:Value),f2≤q.length∧Value.int .i64 ((f:Int)+1)=.int .i64 f2∧LI w w5.drew gp lb ib nv nv4 W q s0 (fun _=>False) t4∧SB n0 t4∧(t4.2=[]→(∀ j:Nat,j<W.T.length→ft W t4.1 (j:Int))∧∀ e ∈ q.take f2,kj t4.1 e) from
          ⟨f+1,(is4,nx4),nv4,hlt,rfl,I5.out.same (Kz w5).drew,SB4.out,fun h0=>⟨(CL4.out h0).1,fun e he=>by
           rw [htk.out] at he;rcases List.mem_append.1 he with he | he
           ·exact (CL4.out h0).2 e he
           ·rw [List.mem_singleton] at he;subst he;intro ha;have ha:az is4 (g5:Int)=true:=ha
            rw [HAT.out,hbv] at ha;cases ha⟩⟩)
         clear hbv;refine aq (.free 0 (.free 1 (.free 2 (.free 4 (.pure 3 (.pure 5 (.free 6 (.pure 7 (.fin))))))))) [] (fun w'=>w'.cell? ⟨lb,1,none⟩=some (.slice (some ⟨ib,0,none⟩) W.T.length W.T.length)∧w'.cell? ⟨ib,g5,none⟩=some (.bool false)∧w'.cell? ⟨sb,0,none⟩=some (.int .i64 (g5:Int))) (by kernel_rfl) (by kernel_rfl) ⟨c1,hb,z0⟩ ?_
         iterate 8 ((first | refine ak rfl rfl fun K hK=>?_ | refine aj rfl rfl fun K hK=>?_ | refine ay rfl rfl fun K hK=>?_ | refine av rfl rfl fun K hK=>?_ | refine ax rfl rfl fun K hK=>?_);go_simp;refine hK _ ?_;clear hK K)
         refine aA ?_;clear c1 hb z0 z1 sl cl hbl;go_wp2_with fail;go_roundw
         case rel=>
          first
          | exact NX.out
          | ((repeat apply Exists.intro);exact ⟨NX.out,rfl⟩)
         case measure=>simp [intOf];omega
        ·rw [hbv] at hb;have HBV:=Hz hbv;clear hbv;refine aq (.free 0 (.free 1 (.free 2 (.free 4 (.pure 3 (.pure 5 (.free 6 (.pure 7 (.fin))))))))) [] (fun w'=>w'.cell? ⟨lb,1,none⟩=some (.slice (some ⟨ib,0,none⟩) W.T.length W.T.length)∧w'.cell? ⟨ib,g5,none⟩=some (.bool true)∧w'.cell? ⟨sb,0,none⟩=some (.int .i64 (g5:Int))) (by kernel_rfl) (by kernel_rfl) ⟨c1,hb,z0⟩ ?_
         iterate 8 ((first | refine ak rfl rfl fun K hK=>?_ | refine aj rfl rfl fun K hK=>?_ | refine ay rfl rfl fun K hK=>?_ | refine av rfl rfl fun K hK=>?_ | refine ax rfl rfl fun K hK=>?_);go_simp;refine hK _ ?_;clear hK K)
         refine aA ?_;go_wp2_with fail;have I6:=Hz (I5.out.same (Kz w5).drew);refine (I6.out.g4 (3,et) (fun _=>HL2.out) HTT.out).mono ?_;rintro e w6 ⟨rfl,hU⟩;obtain ⟨nv6,i6⟩:=I6.out.to hU (I6.out.G.mark (GI.lead I6.out.G HOK.out (i:=(g5:Int)) (show az is4 (g5:Int)=true by rw [HAT.out,HBV.out]) (fun _=>HL2.out) (kl HK5.out HMM.out rfl)));have NX:=Hz (show ∃ (f2:Nat) (t4:List Bool × List Nat) (nv4:Value),f2≤q.length∧Value.int .i64 ((f:Int)+1)=.int .i64 f2∧LI w w6 gp lb ib nv nv4 W q s0 (fun _=>False) t4∧SB n0 t4∧(t4.2=[]→(∀ j:Nat,j<W.T.length→ft W t4.1 (j:Int))∧∀ e ∈ q.take f2,kj t4.1 e) from
          ⟨f+1,bn (is4,nx4) (3,et),nv6,hlt,rfl,i6,SB4.out.mark I6.out.G.len (3,et) (fun _=>HL2.out),fun h0=>by
           have hin:=fg I6.out.G.len (3,et) (fun _=>HL2.out) rfl;rw [fP h0] at hin ⊢;refine ⟨(CL4.out (gG h0)).1,fun e he=>?_⟩;rw [htk.out] at he;rcases List.mem_append.1 he with he | he
           ·exact (CL4.out (gG h0)).2 e he
           ·rw [List.mem_singleton] at he;subst he
            exact fun _=>hin⟩)
         clear hU i6 c1 hb z0 z1 sl cl hbl;go_wp2_with fail;go_roundw
         case rel=>
          first
          | exact NX.out
          | ((repeat apply Exists.intro);exact ⟨NX.out,rfl⟩)
         case measure=>simp [intOf];omega
       ·have hfe:=Hz (show q.take f=q by rw [List.take_of_length_le (by omega)]);have c2:=I4.out.L.hp.cell 2;have cl:=I4.out.L.hp.lt;simp only [Lz,Ls] at c2;obtain ⟨no4,nc4,en4,-,-,-⟩:=I4.out.L.hn.rd;have HE4:=Hz en4;rw [en4] at c2;clear en4;cases nx4 with
        | nil=>
         have CE:=Hz (show is4=W.bQ q s0 from GI.closed HOK.out I4.out.G HS0.out (CL4.out rfl).1 (by have:=(CL4.out rfl).2;rw [hfe.out] at this;exact this));have FE:=Hz (show gfalsW wr ib≤n0 by rw [I4.out.L.fE];exact SB4.out.1);simp only [List.length_nil] at c2;clear hf;go_wp2_with fail;go_roundw
         case rel=>exact ⟨false,(is4,[]),nv4,rfl,I4.out,fun _=>by rw [CE.out]⟩
         case measure=>have:=FE.out;(try dsimp only);omega
        | cons k4 r4=>
         have FE:=Hz (show gfalsW wr ib<n0 by
          rw [I4.out.L.fE];rcases SB4.out.2 with h | h
          ·cases h
          ·exact h)
         simp only [List.length_cons] at c2;have hnp:(0:Int)<((r4.length+1:Nat):Int):=by omega
         clear hf;go_wp2_with fail;go_roundw
         case rel=>exact ⟨true,(is4,k4 :: r4),nv4,rfl,I4.out,fun h=>by cases h⟩
         case measure=>have:=FE.out;(try dsimp only);omega
   | cons k r=>
    have hlv:=I2.out.G.lv _ (I2.out.G.nx k (by simp));have hkT:k<W.T.length:=by have:=hlv.2.1;omega
    have S2:=Hz (SPK.out _ I2.out.K);have p0:=S2.out.S.hp.cell 0;have pl:=S2.out.S.hp.lt;simp only [Lz,Ls] at p0;obtain ⟨gt,ot,ntc,etl,hgt,hrow⟩:=S2.out.nth hkT;have hnl:=I2.out.L.hn;rw [HEN.out] at hnl;obtain ⟨gn,on,cn,cur,e',hbn,hn1,hn2,hn3,hn4⟩:=hnl.laid (by simp);cases e';have hk0:wr.cell? ⟨gn,on,none⟩=some (.int .i64 k):=by
     have:=hbn.cell on;rw [this];have h5:((cur.drop on).take ((k :: r).length*1))[0]? = some (.int .i64 k):=by rw [hn4];rfl
     rw [List.getElem?_take,if_pos (by simp),List.getElem?_drop] at h5;exact h5
    have hpop:=b7.pop (by have h:=I2.out.L;rw [HEN.out] at h;exact h);have hfx:=I2.out.L.hp.free 2;have hd:W.T.length=W.T.length:=rfl;have HLV:=Hz hlv;have hded:(W.th (k:Int)).dead=false:=hlv.2.2;have hrk:=hrow.k hded;have hrf:=hrow.f hded;have HRS:=Hz (hrow.s hded);have HLEN:=Hz (show lD wr lb 2=r.length+1 from I2.out.L.mg);have HFAL:=Hz (show gfalsW wr ib=bF is from I2.out.L.fE);have HPOP:=Hz hpop;have HFV:=Hz etl;rw [etl] at p0;simp only [List.length_cons] at c2 hn1;have hgn:=hbn.lt;have hki:(k:Int)<W.T.length:=by omega
    have hrl:(0:Int)≤(r.length:Int):=by omega
    clear hnl hbn hn2 hn3 hn4 hpop hrow etl hlv hd;have hnp:(0:Int)<((r.length+1:Nat):Int):=by omega
    go_upto_region 3 with (fail);refine aq (.free 0 (.free 1 (.free 2 (.free 7 (.free 8 (.free 9 (.pure 3 (.free 4 (.free 5 (.pure 6 (.pure 10 (.free 11 (.pure 12 (.free 13 (.free 14 (.fin)))))))))))))))) [] (fun w'=>w'.cell? ⟨lb,0,none⟩=some (.pointer (some ⟨gp,0,none⟩))∧w'.cell? ⟨gp,0,none⟩=some (.slice (some ⟨gt,ot,none⟩) W.T.length ntc)∧w'.cell? ⟨lb,2,none⟩=some (.slice (some ⟨gn,on,none⟩) (r.length+1) nc)∧w'.cell? ⟨gn,on,none⟩=some (.int .i64 k)) (by kernel_rfl) (by kernel_rfl) ⟨c0,p0,c2,hk0⟩ ?_
    iterate 15 ((first | refine ak rfl rfl fun K hK=>?_ | refine aj rfl rfl fun K hK=>?_ | refine ay rfl rfl fun K hK=>?_ | refine av rfl rfl fun K hK=>?_ | refine ax rfl rfl fun K hK=>?_);go_simp;refine hK _ ?_;clear hK K)
    refine aA ?_;go_upto_region 5 with (fail)
    obtain ⟨nv3,I3⟩:=I2.out.to (show dD wr gp lb ib nv2 _ (is,r) by rw [HEN.out];exact HPOP.out) I2.out.G.pop;have I3h:=Hz (I3.same (Kz _).drew);clear I3;have I3:=I3h;clear I3h HPOP hk0 hgn hgt p0 pl c0 c2 cl hfx hded hrk hrf HRS S2 hnp hrl hn1;generalize (wr.setCell { block:=lb,off:=2 } (Value.slice (if nc=1 then some { block:=gn,off:=on } else some { block:=gn,off:=on+1 }) r.length (nc-1))).drew=w3 at *;generalize (if nc=1 then some (⟨gn,on,none⟩:Addr) else some ⟨gn,on+1,none⟩)=pv at *;obtain ⟨hg3,hrow⟩:=(SPK.out _ I3.out.K).row hkT HFV.out;have hded:(W.th (k:Int)).dead=false:=HLV.out.2.2;have t0:=hrow.k hded;have t1:=hrow.f hded;have HRS:=Hz (hrow.s hded);obtain ⟨fo,fc,efv,-,hfml,hfm2⟩:=HRS.out.rd;have HEF:=Hz efv;rw [efv] at t1;clear efv hrow hded;obtain ⟨kd,hkd⟩:∃ x,(W.th (k:Int)).k=x:=⟨_,rfl⟩;rw [hkd] at t0;have HKD:=Hz hkd;clear hkd;have HAK:=Hz (show az is (k:Int)=true from I2.out.G.nx k (by simp));by_cases h1:kd=1
    ·subst h1;have HKK:=Hz (show (W.th (k:Int)).k=1∨(W.th (k:Int)).k=2 by have:=HKD.out;omega);go_wp2_with fail;obtain ⟨fs,hfs⟩:∃ l,(W.th (k:Int)).fs=l:=⟨_,rfl⟩;rw [hfs] at t1 HRS HEF hfml hfm2;have HFS:=Hz hfs;rw [hfs];clear hfs t0 t1 hg3;go_loopw [51] (fun u wx=>∃ (f:Nat) (t2:List Bool × List Nat) (nv2:Value),f≤fs.length∧u=.int .i64 f∧LI w wx gp lb ib nv nv2 W q s0 (fun i=>i=(k:Int)) t2∧(2*bF t2.1+t2.2.length≤2*bF is+r.length∧bF t2.1≤bF is)∧az t2.1 (k:Int)=true∧∀ v ∈ fs.take f,v.1=3→az t2.1 v.2=true) (fun u _=>fs.length-(intOf u).toNat)
     case atStart=>exact ⟨0,(is,r),nv3,Nat.zero_le _,rfl,I3.out,⟨Nat.le_refl _,Nat.le_refl _⟩,HAK.out,fun v hv=>by simp at hv⟩
     case round=>
      obtain ⟨f,t2,nv4,hf,rfl,hI,hms,hak,hlk⟩:=hrel;have I4:=Hz hI;have MS:=Hz hms;have AK:=Hz hak;have LK:=Hz hlk;clear hI hms hak hlk;by_cases hlt:f<fs.length
      ·have rd3:Rd wr fo (au fs):=by
        have:=((SPK.out _ I4.out.K).row hkT HFV.out).2.s HLV.out.2.2;rw [HFS.out,HEF.out] at this;obtain ⟨_,_,e',rd,-,-⟩:=this.rd;cases e';exact rd
       obtain ⟨gf,of,rfl,hgf,v0,v1⟩:=rd3.val f hlt;have hmem:fs.getD f (0,0) ∈ fs:=by rw [Ld,Le hlt];exact List.getElem_mem hlt
       have htk:=Hz (show fs.take (f+1)=fs.take f ++ [fs.getD f (0,0)] by rw [←List.take_append_getElem hlt,Ld,Le hlt];rfl);have HMM:=Hz hmem;generalize fs.getD f (0,0)=v at *;have HIN:=Hz (show v.1=3→W.live v.2 from fun h3=>Wd.bg (HOK.out.tv _ HLV.out v (by rw [HFS.out];exact hmem)) h3);have LD:=Hz (GI.lead I4.out.G HOK.out AK.out (v:=v) HIN.out (fw HKK.out (by rw [HFS.out];exact hmem)));clear hmem rd3;go_wp2_with (refine aQ rfl 78 (.tmp 53) rfl (by kernel_rfl) gf (of+f*2) rfl _ _ v0 v1 ?_);have IA:=Hz (I4.out.same ((Kz wr).alloc (.cells #[.int .i64 v.1, .int .i64 v.2] 78)));refine (IA.out.g4 v HIN.out HTT.out).mono ?_;rintro e w5 ⟨rfl,hU⟩;obtain ⟨nv5,i5⟩:=IA.out.to hU (IA.out.G.mark LD.out);have I5:=Hz i5;have UP:=Hz (jP I4.out.G.len v HIN.out);have IN:=Hz (fg I4.out.G.len v HIN.out);have MM:=Hz (fQ I4.out.G.len v HIN.out);clear hU i5 v0 v1 hgf IA;have HWR:=Hz (show wrap64 ((f:Int)+1)=((f+1:Nat):Int) from by unfold maxLen at hfml;rw [IntWalk.wrap64_in _ (by omega)];omega);have NX:=Hz (show ∃ (f2:Nat) (t3:List Bool × List Nat) (nv2:Value),f2≤fs.length∧Value.int .i64 (wrap64 ((f:Int)+1))=.int .i64 f2∧LI w w5 gp lb ib nv nv2 W q s0 (fun i=>i=(k:Int)) t3∧(2*bF t3.1+t3.2.length≤2*bF is+r.length∧bF t3.1≤bF is)∧az t3.1 (k:Int)=true∧∀ v ∈ fs.take f2,v.1=3→az t3.1 v.2=true from
        ⟨f+1,bn t2 v,nv5,hlt,by rw [HWR.out],I5.out,by have:=MS.out;have:=MM.out;omega,UP.out _ AK.out,fun u hu h3=>by
         rw [htk.out] at hu;rcases List.mem_append.1 hu with hu | hu
         ·exact UP.out _ (LK.out u hu h3)
         ·rw [List.mem_singleton] at hu;subst hu;exact IN.out h3⟩)
       go_wp2_with fail;go_roundw
       case rel=>
        first
        | exact NX.out
        | ((repeat apply Exists.intro);exact ⟨NX.out,rfl⟩)
       case measure=>rw [HWR.out];simp only [intOf];omega
      ·have hfe:=Hz (show f=fs.length by omega);have IZ:=Hz (show LI w wr gp lb ib nv nv4 W q s0 (fun _=>False) t2 from ⟨I4.out.L,I4.out.K,I4.out.O,I4.out.G.done ⟨fun _ v hv h3=>LK.out v (by rw [hfe.out,List.take_length,←HFS.out];exact hv) h3,fun h3=>by have:=HKK.out;omega⟩⟩);clear hf;go_wp2_with fail;go_roundw
       case rel=>
        first
        | exact ⟨t2,nv4,IZ.out,by have:=MS.out;omega⟩
        | ((repeat apply Exists.intro);exact ⟨⟨t2,nv4,IZ.out,by have:=MS.out;omega⟩,rfl⟩)
       case measure=>
        have e1:=IZ.out.L.fE;have e2:=IZ.out.L.mg;rw [e1,e2,HLEN.out,HFAL.out];have:=MS.out;omega
    by_cases h2:kd=2
    ·subst h2;have HKK:=Hz (show (W.th (k:Int)).k=1∨(W.th (k:Int)).k=2 by have:=HKD.out;omega);go_wp2_with fail;obtain ⟨fs,hfs⟩:∃ l,(W.th (k:Int)).fs=l:=⟨_,rfl⟩;rw [hfs] at t1 HRS HEF hfml hfm2;have HFS:=Hz hfs;rw [hfs];clear hfs t0 t1 hg3;go_loopw [51] (fun u wx=>∃ (f:Nat) (t2:List Bool × List Nat) (nv2:Value),f≤fs.length∧u=.int .i64 f∧LI w wx gp lb ib nv nv2 W q s0 (fun i=>i=(k:Int)) t2∧(2*bF t2.1+t2.2.length≤2*bF is+r.length∧bF t2.1≤bF is)∧az t2.1 (k:Int)=true∧∀ v ∈ fs.take f,v.1=3→az t2.1 v.2=true) (fun u _=>fs.length-(intOf u).toNat)
     case atStart=>exact ⟨0,(is,r),nv3,Nat.zero_le _,rfl,I3.out,⟨Nat.le_refl _,Nat.le_refl _⟩,HAK.out,fun v hv=>by simp at hv⟩
     case round=>
      obtain ⟨f,t2,nv4,hf,rfl,hI,hms,hak,hlk⟩:=hrel;have I4:=Hz hI;have MS:=Hz hms;have AK:=Hz hak;have LK:=Hz hlk;clear hI hms hak hlk;by_cases hlt:f<fs.length
      ·have rd3:Rd wr fo (au fs):=by
        have:=((SPK.out _ I4.out.K).row hkT HFV.out).2.s HLV.out.2.2;rw [HFS.out,HEF.out] at this;obtain ⟨_,_,e',rd,-,-⟩:=this.rd;cases e';exact rd
       obtain ⟨gf,of,rfl,hgf,v0,v1⟩:=rd3.val f hlt;have hmem:fs.getD f (0,0) ∈ fs:=by rw [Ld,Le hlt];exact List.getElem_mem hlt
       have htk:=Hz (show fs.take (f+1)=fs.take f ++ [fs.getD f (0,0)] by rw [←List.take_append_getElem hlt,Ld,Le hlt];rfl);have HMM:=Hz hmem;generalize fs.getD f (0,0)=v at *;have HIN:=Hz (show v.1=3→W.live v.2 from fun h3=>Wd.bg (HOK.out.tv _ HLV.out v (by rw [HFS.out];exact hmem)) h3);have LD:=Hz (GI.lead I4.out.G HOK.out AK.out (v:=v) HIN.out (fw HKK.out (by rw [HFS.out];exact hmem)));clear hmem rd3;go_wp2_with (refine aQ rfl 78 (.tmp 53) rfl (by kernel_rfl) gf (of+f*2) rfl _ _ v0 v1 ?_);have IA:=Hz (I4.out.same ((Kz wr).alloc (.cells #[.int .i64 v.1, .int .i64 v.2] 78)));refine (IA.out.g4 v HIN.out HTT.out).mono ?_;rintro e w5 ⟨rfl,hU⟩;obtain ⟨nv5,i5⟩:=IA.out.to hU (IA.out.G.mark LD.out);have I5:=Hz i5;have UP:=Hz (jP I4.out.G.len v HIN.out);have IN:=Hz (fg I4.out.G.len v HIN.out);have MM:=Hz (fQ I4.out.G.len v HIN.out);clear hU i5 v0 v1 hgf IA;have HWR:=Hz (show wrap64 ((f:Int)+1)=((f+1:Nat):Int) from by unfold maxLen at hfml;rw [IntWalk.wrap64_in _ (by omega)];omega);have NX:=Hz (show ∃ (f2:Nat) (t3:List Bool × List Nat) (nv2:Value),f2≤fs.length∧Value.int .i64 (wrap64 ((f:Int)+1))=.int .i64 f2∧LI w w5 gp lb ib nv nv2 W q s0 (fun i=>i=(k:Int)) t3∧(2*bF t3.1+t3.2.length≤2*bF is+r.length∧bF t3.1≤bF is)∧az t3.1 (k:Int)=true∧∀ v ∈ fs.take f2,v.1=3→az t3.1 v.2=true from
        ⟨f+1,bn t2 v,nv5,hlt,by rw [HWR.out],I5.out,by have:=MS.out;have:=MM.out;omega,UP.out _ AK.out,fun u hu h3=>by
         rw [htk.out] at hu;rcases List.mem_append.1 hu with hu | hu
         ·exact UP.out _ (LK.out u hu h3)
         ·rw [List.mem_singleton] at hu;subst hu;exact IN.out h3⟩)
       go_wp2_with fail;go_roundw
       case rel=>
        first
        | exact NX.out
        | ((repeat apply Exists.intro);exact ⟨NX.out,rfl⟩)
       case measure=>rw [HWR.out];simp only [intOf];omega
      ·have hfe:=Hz (show f=fs.length by omega);have IZ:=Hz (show LI w wr gp lb ib nv nv4 W q s0 (fun _=>False) t2 from ⟨I4.out.L,I4.out.K,I4.out.O,I4.out.G.done ⟨fun _ v hv h3=>LK.out v (by rw [hfe.out,List.take_length,←HFS.out];exact hv) h3,fun h3=>by have:=HKK.out;omega⟩⟩);clear hf;go_wp2_with fail;go_roundw
       case rel=>
        first
        | exact ⟨t2,nv4,IZ.out,by have:=MS.out;omega⟩
        | ((repeat apply Exists.intro);exact ⟨⟨t2,nv4,IZ.out,by have:=MS.out;omega⟩,rfl⟩)
       case measure=>
        have e1:=IZ.out.L.fE;have e2:=IZ.out.L.mg;rw [e1,e2,HLEN.out,HFAL.out];have:=MS.out;omega
    have e1:(kd == 1)=false:=by simpa using h1
    have e2:(kd == 2)=false:=by simpa using h2
    by_cases h3:kd=3
    ·subst h3;clear e1 e2 h1 h2;obtain ⟨u,v,hfs⟩:∃ u v,(W.th (k:Int)).fs=[u,v]:=qV (by
      have:=HOK.out.tk _ HLV.out;rw [HKD.out] at this;simp [aW] at this
      omega)
     have rd3:Rd w3 fo (au [u,v]):=by
      have:=HRS.out;rw [HEF.out,hfs] at this;obtain ⟨_,_,e',rd,-,-⟩:=this.rd;cases e';exact rd
     obtain ⟨gf,of,rfl,hgf,v0,v1⟩:=rd3.val 1 (by simp);have lenE:(W.th (k:Int)).fs.length=2:=by rw [hfs];rfl
     rw [lenE] at t1;simp only [List.getD_cons_zero,List.getD_cons_succ,Nat.zero_mul,Nat.add_zero,Nat.one_mul] at v0 v1;have HFS:=Hz hfs;have HIN:=Hz (show v.1=3→W.live v.2 from fun h3=>Wd.bg (HOK.out.tv _ HLV.out v (by rw [hfs];simp)) h3);have LD:=Hz (GI.lead I3.out.G HOK.out HAK.out (v:=v) HIN.out (kZ HKD.out hfs));clear rd3 lenE hfs;go_wp2_with (refine aQ rfl 78 (.tmp 66) rfl (by kernel_rfl) gf _ rfl _ _ v0 v1 ?_);refine (I3.out.g4 v HIN.out HTT.out).mono ?_;rintro e w5 ⟨rfl,hU⟩;obtain ⟨nv5,i5⟩:=I3.out.to hU (I3.out.G.mark LD.out);have MM:=Hz (fQ I3.out.G.len v HIN.out);have IN:=fg I3.out.G.len v HIN.out;have IZ:=Hz (show LI w w5 gp lb ib nv nv5 W q s0 (fun _=>False) (bn (is,r) v) from ⟨i5.L,i5.K,i5.O,i5.G.done ⟨fun hk=>by have:=HKD.out;omega,fun _ x hx h3=>by
      rw [HFS.out] at hx;simp at hx;subst hx
      exact IN h3⟩⟩)
     clear hU i5 v0 v1 hgf IN;go_wp2_with fail;go_roundw
     case rel=>
      first
      | exact ⟨bn (is,r) v,nv5,IZ.out,by have:=MM.out;(try dsimp only at this);omega⟩
      | ((repeat apply Exists.intro);exact ⟨⟨bn (is,r) v,nv5,IZ.out,by have:=MM.out;(try dsimp only at this);omega⟩,rfl⟩)
     case measure=>
      have e1:=IZ.out.L.fE;have e2:=IZ.out.L.mg;rw [e1,e2,HLEN.out,HFAL.out];try dsimp only
      have:=MM.out;(try dsimp only at this);omega
    have e3:(kd == 3)=false:=by simpa using h3
    have IZ:=Hz (show LI w w3 gp lb ib nv nv3 W q s0 (fun _=>False) (is,r) from ⟨I3.out.L,I3.out.K,I3.out.O,I3.out.G.done ⟨fun hk=>by have:=HKD.out;omega,fun hk=>by have:=HKD.out;omega⟩⟩);have MM:=Hz (show 2*bF (is,r).1+(is,r).2.length≤2*bF is+r.length∧bF (is,r).1≤bF is from ⟨Nat.le_refl _,Nat.le_refl _⟩);clear h1 h2 h3;go_wp2_with fail;go_roundw
    case rel=>
     first
     | exact ⟨(is,r),nv3,IZ.out,by have:=MM.out;(try dsimp only at this);omega⟩
     | ((repeat apply Exists.intro);exact ⟨⟨(is,r),nv3,IZ.out,by have:=MM.out;(try dsimp only at this);omega⟩,rfl⟩)
    case measure=>
     have e1:=IZ.out.L.fE;have e2:=IZ.out.L.mg;rw [e1,e2,HLEN.out,HFAL.out];try dsimp only
     have:=MM.out;(try dsimp only at this);omega
end
end
section
structure MI (W:Wd) (X:Int→Prop) (t:List Bool × List Nat):Prop where
 len:t.1.length=W.T.length
 eq:∀ i,az t.1 i=true↔X i
 lv:∀ i,az t.1 i=true→W.live i
 nx:∀ k ∈ t.2,az t.1 ((k:Nat):Int)=true
 nd:t.2.Nodup
 al:∀ i,az t.1 i=true→i.toNat ∈ t.2
section
variable {W:Wd} {X Y:Int→Prop} {t:List Bool × List Nat} {is:List Bool} {q:List (Int × Int)} {major:Bool}
theorem MI.congr (M:MI W X t) (h:∀ i,X i↔Y i):MI W Y t:=⟨M.len,fun i=>(M.eq i).trans (h i),M.lv,M.nx,M.nd,M.al⟩
theorem MI.mark (M:MI W X t) {v:Vl} (hv:v.1=3→W.live v.2):MI W (fun i=>X i∨(v.1=3∧i=v.2)) (bn t v):=by
 unfold bn;split
 ·rename_i h;have hlv:=hv h.1;have hset:=fun i=>cE (is:=t.1) (x:=v.2) (i:=i) hlv.1 (by rw [M.len];exact hlv.2.1);have hnm:v.2.toNat ∉ t.2:=fun hm=>by
   have:=M.nx _ hm;rw [show ((v.2.toNat:Nat):Int)=v.2 by have:=hlv.1;omega,h.2] at this;cases this
  refine ⟨by simp [M.len],fun i=>?_,fun i hi=>?_,fun k hk=>?_,?_,fun i hi=>?_⟩
  ·rw [hset i,M.eq i];constructor
   ·rintro (h1 | h1)
    ·exact .inr ⟨h.1,h1⟩
    ·exact .inl h1
   ·rintro (h1 | h1)
    ·exact .inr h1
    ·exact .inl h1.2
  ·rcases (hset i).1 hi with rfl | h1
   ·exact hlv
   ·exact M.lv i h1
  ·rcases List.mem_append.1 hk with h1 | h1
   ·exact (hset _).2 (.inr (M.nx k h1))
   ·simp at h1;subst h1;exact (hset _).2 (.inl (by have:=hlv.1;omega))
  ·rw [List.nodup_append];exact ⟨M.nd,by simp,fun a ha b hb=>by simp at hb;subst hb;rintro rfl;exact hnm ha⟩
  ·rcases (hset i).1 hi with rfl | h1
   ·simp
   ·exact List.mem_append.2 (.inl (M.al i h1))
 ·rename_i h;refine M.congr fun i=>⟨.inl,fun h1=>?_⟩;rcases h1 with h1 | ⟨h1,rfl⟩
  ·exact h1
  ·rw [←M.eq];cases e:az t.1 v.2
   ·exact absurd ⟨h1,e⟩ h
   ·rfl
theorem MI.gi (M:MI W X t):GI W q t.1 (fun _=>False) t:=
 ⟨M.len,fun i h=>h,fun i h=>bu.base h,M.lv,M.nx,M.nd,fun i hi hn _=>absurd (M.al i hi) hn⟩
theorem MI.gX (M:MI W X t):t.2.length≤W.T.length:=(M.gi (q:=[])).gX
def X1 (W:Wd) (major:Bool) (n:Nat) (i:Int):Prop:=0≤i∧i<n∧(W.th i).aR=true∧(W.th i).dead=false∧major=false
def X2 (W:Wd) (major:Bool) (k:Nat) (i:Int):Prop:=X1 W major W.T.length i∨((3,i):Vl) ∈ W.roots.take k
theorem MI.zero:MI W (X1 W major 0) (List.replicate W.T.length false,[]):=by
 have hf:∀ i,az (List.replicate W.T.length false) i=false:=fun i=>by
  unfold az;rw [Ld,List.getElem?_replicate];split <;> simp
 refine ⟨by simp,fun i=>?_,fun i hi=>?_,fun k hk=>?_,by simp,fun i hi=>?_⟩
 ·dsimp only;rw [hf];exact ⟨fun h=>(by cases h),fun h=>by have:=h.1;have:=h.2.1;omega⟩
 ·dsimp only at hi;rw [hf] at hi;cases hi
 ·simp at hk
 ·dsimp only at hi;rw [hf] at hi;cases hi
theorem MI.aR {n:Nat} (M:MI W (X1 W major n) t) (hn:n<W.T.length) (h:(W.th (n:Int)).aR=true∧(W.th (n:Int)).dead=false∧major=false):MI W (X1 W major (n+1)) (bn t (3,(n:Int))):=by
 refine (M.mark (v:=(3,(n:Int))) (fun _=>⟨by simp,by simpa using hn,h.2.1⟩)).congr fun i=>?_;unfold X1;constructor
 ·rintro (⟨h0,h1,h2⟩ | ⟨_,h1⟩)
  ·exact ⟨h0,by omega,h2⟩
  ·have h1:i=(n:Int):=h1;subst h1;exact ⟨by omega,by omega,h⟩
 ·rintro ⟨h0,h1,h2⟩;by_cases e:i=(n:Int)
  ·exact .inr ⟨rfl,e⟩
  ·exact .inl ⟨h0,by omega,h2⟩
theorem MI.aI {n:Nat} (M:MI W (X1 W major n) t) (h:¬ ((W.th (n:Int)).aR=true∧(W.th (n:Int)).dead=false∧major=false)):MI W (X1 W major (n+1)) t:=by
 refine M.congr fun i=>?_;unfold X1;constructor
 ·rintro ⟨h0,h1,h2⟩;exact ⟨h0,by omega,h2⟩
 ·rintro ⟨h0,h1,h2⟩;refine ⟨h0,?_,h2⟩;by_cases e:i=(n:Int)
  ·subst e;exact absurd h2 h
  ·omega
theorem MI.sj (M:MI W (X1 W major W.T.length) t):MI W (X2 W major 0) t:=M.congr fun i=>by unfold X2;simp
theorem MI.root {k:Nat} (M:MI W (X2 W major k) t) (hok:W.ok) (hk:k<W.roots.length):MI W (X2 W major (k+1)) (bn t (W.roots.getD k (0,0))):=by
 have hm:W.roots.getD k (0,0) ∈ W.roots:=by rw [Ld,Le hk];exact List.getElem_mem hk
 refine (M.mark (v:=W.roots.getD k (0,0)) (fun h3=>Wd.bg (hok.rv _ hm) h3)).congr fun i=>?_;have e:W.roots.take (k+1)=W.roots.take k ++ [W.roots.getD k (0,0)]:=by rw [←List.take_append_getElem hk,Ld,Le hk];rfl
 unfold X2;rw [e,List.mem_append,List.mem_singleton];constructor
 ·rintro ((h | h) | ⟨h,h'⟩)
  ·exact .inl h
  ·exact .inr (.inl h)
  ·exact .inr (.inr (by rw [h',←h]))
 ·rintro (h | h | h)
  ·exact .inl (.inl h)
  ·exact .inl (.inr h)
  ·rw [←h];exact .inr ⟨rfl,rfl⟩
theorem MI.first {k:Nat} (M:MI W (X2 W major k) t) (hk:W.roots.length≤k):t.1=W.first major:=by
 refine kG (by rw [M.len,Wd.de]) fun i h0 h1=>?_;rw [M.eq,Wd.jN];unfold X2 X1;rw [List.take_of_length_le hk];rw [M.len] at h1;constructor
 ·rintro (⟨_,_,h⟩ | h)
  ·exact ⟨h0,h1, .inl h⟩
  ·exact ⟨h0,h1, .inr h⟩
 ·rintro ⟨_,_,h | h⟩
  ·exact .inl ⟨h0,h1,h⟩
  ·exact .inr h
structure gH (W:Wd) (is:List Bool):Prop where
 len:is.length=W.T.length
 lv:∀ i,az is i=true→W.live i
 lk:∀ i,az is i=true→dY W is i
theorem dY.of_closed (hs:ee W.nd q fun k=>az is k=true) {i:Int} (hi:az is i=true):dY W is i:=by
 refine ⟨fun hk v hv h3=>hs i v.2 hi (.inl ⟨hk,?_⟩),fun hk v hv h3=>hs i v.2 hi (.inr (.inl ⟨hk,?_⟩))⟩
 ·rw [←h3];exact hv
 ·rw [←h3];exact hv
theorem gH.bQ (hok:W.ok) (hq:∀ e ∈ q,W.dx e) (hl:is.length=W.T.length) (hv:∀ i,az is i=true→W.live i):gH W (W.bQ q is):=by
 have hlv:∀ i,az (W.bQ q is) i=true→W.live i:=fun i hi=>(b9.1 hi).2.2.least hv (Wd.dn hok hq);refine ⟨by unfold Wd.bQ;rw [cA,hl],hlv,fun i hi=>dY.of_closed (q:=q) (fun i j hi hj=>?_) hi⟩;have hlv':=Wd.dn hok hq i j (hlv i hi) (hj.mono (fun k hk=>hlv k hk) (fun _ h=>h));refine b9.2 ⟨hlv'.1,by rw [hl];exact hlv'.2.1,?_⟩;exact bu.closed _ _ _ i j (b9.1 hi).2.2 (hj.mono (fun k hk=>(b9.1 hk).2.2) (fun _ h=>h))
theorem lg:∀ {l:List Bool} {i:Nat},l.getD i false=true→l.set i true=l
 | [],i,h=>rfl
 | b :: l,0,h=>by
  have:b=true:=by simpa using h
  subst this;rfl
 | b :: l,i+1,h=>by simp [lg (l:=l) (i:=i) (by simpa using h)]
theorem gH.mark (S:gH W is) {x:Int} (hx:W.live x):(bn (is,[]) (3,x)).1=is.set x.toNat true∧GI W q (is.set x.toNat true) (fun _=>False) (bn (is,[]) (3,x)):=by
 have hset:=fun i=>cE (is:=is) (x:=x) (i:=i) hx.1 (by rw [S.len];exact hx.2.1);unfold bn;dsimp only;cases h:az is x
 ·rw [if_pos ⟨rfl,rfl⟩];refine ⟨rfl,by simp [S.len],fun i h=>h,fun i h=>bu.base h,fun i hi=>?_,fun k hk=>?_,by simp,fun i hi hn _=>?_⟩
  ·rcases (hset i).1 hi with rfl | h1
   ·exact hx
   ·exact S.lv i h1
  ·simp at hk;subst hk;exact (hset _).2 (.inl (by have:=hx.1;omega))
  ·rcases (hset i).1 hi with rfl | h1
   ·simp at hn
   ·exact (S.lk i h1).mono (fun k hk=>(hset k).2 (.inr hk))
 ·rw [if_neg (fun h=>by cases h.2)];have e:is.set x.toNat true=is:=lg (by rw [dR hx.1];exact h);rw [e];exact ⟨rfl,S.len,fun i h=>h,fun i h=>bu.base h,S.lv,fun k hk=>by simp at hk,by simp,fun i hi _ _=>S.lk i hi⟩
def db (is:List Bool) (br:Bool) (v:Vl):Vl:=if br=true∨a5 is v=false then (2,0) else v
def dZ (is:List Bool) (t:Th):Bool:=decide (t.k=4∧a5 is (t.fs.getD 0 (0,0))=false)
theorem p9 (h:W.ok) (hs:ee W.nd q fun k=>az is k=true) {i:Int} (hi:W.live i) (hb:az is i=true) :
  cj is i.toNat (W.th i)=⟨(W.th i).k,(W.th i).fs.map (db is (dZ is (W.th i))),true,false⟩:=by
 have hF:=jw h hs hi hb;have hf:=h.tk i hi;unfold cj at hF ⊢;rw [if_pos (by rw [dR hi.1];exact hb)] at hF ⊢;dsimp only at hF;rw [hi.2.2];congr 1;by_cases hc4:(W.th i).k=4∧a5 is ((W.th i).fs.getD 0 (0,0))=false
 ·rw [if_pos hc4];have:dZ is (W.th i)=true:=by unfold dZ;simpa using hc4
  rw [this];rw [hc4.1] at hf;simp [aW] at hf;obtain ⟨a,b,e⟩:∃ a b,(W.th i).fs=[a,b]:=by
   match hx:(W.th i).fs,hf with
   | [a,b],_=>exact ⟨a,b,rfl⟩
  rw [e];simp [db]
 have hbr:dZ is (W.th i)=false:=by unfold dZ;simpa using hc4
 rw [if_neg hc4] at hF ⊢;rw [hbr];by_cases hc3:(W.th i).k=3∧a5 is ((W.th i).fs.getD 0 (0,0))=false
 ·rw [if_pos hc3] at hF ⊢;rw [hc3.1] at hf;simp [aW] at hf;obtain ⟨a,b,e⟩:∃ a b,(W.th i).fs=[a,b]:=by
   match hx:(W.th i).fs,hf with
   | [a,b],_=>exact ⟨a,b,rfl⟩
  have h0:=hc3.2;rw [e] at hF h0 ⊢;simp only [List.getD_cons_zero,List.getD_cons_succ] at hF h0 ⊢;have hb2:=hF b (by simp);simp only [List.map_cons,List.map_nil,db];rw [if_pos (.inr h0)];rcases hb2 with rfl | ⟨_,hb2⟩
  ·split <;> rfl
  ·rw [if_neg (by rw [hb2];simp)]
 ·rw [if_neg hc3] at hF ⊢;have e:(W.th i).fs.map (db is false)=(W.th i).fs.map id:=List.map_congr_left fun v hv=>by
   unfold db;rcases hF v hv with rfl | ⟨_,h⟩
   ·split <;> rfl
   ·rw [if_neg (by rw [h];simp)];rfl
  rw [e,List.map_id]
end
end
section
open Go.RowKit
def jR (w:World) (cb lb:Nat):Prop:=ah w cb [.pointer (some ⟨lb,0,none⟩)] 195
section
variable {w w':World} {gx:GX} {gp lb ib cb:Nat} {rgv wv nv:Value} {regs q:List (Int × Int)} {fv:Nat→Value} {W:Wd} {t:List Bool}
theorem jR.lv (h:jR w cb lb) {t:List Bool × List Nat} (L:b7 w gp lb ib nv t) (k:aa (df lb ib nv) w w'):jR w' cb lb:=k.ai h (fun e=>by
 obtain ⟨_,c',T',hc',hT⟩:=L.aX e;refine h.ne hc' ?_ rfl
 rcases hT with rfl | rfl | rfl <;> decide)
theorem dD.join {w1:World} {nv1:Value} {t2:List Bool × List Nat} (k1:aa (df lb ib nv) w w1) (o1:∀ k,ag nv1 k→ag nv k∨w.heap.size≤k) (U:dD w1 gp lb ib nv1 w' t2):dD w gp lb ib nv w' t2:=by
 obtain ⟨nv2,L2,k2,o2⟩:=U;refine ⟨nv2,L2,k1.then k2 (fun b hb=>?_),fun b hb=>?_⟩
 ·rcases hb with hb | hb | hb
  ·exact .inl (.inl hb)
  ·exact .inl (.inr (.inl hb))
  ·exact (o1 b hb).imp (fun h=>.inr (.inr h)) id
 ·rcases o2 b hb with h | h
  ·exact o1 b h
  ·exact .inr (Nat.le_trans k1.size h)
theorem rA (x:Int) (S:fh w gx gp rgv wv regs q fv W) (L:b7 w gp lb ib nv (t,[])) (B:jR w cb lb) (N:gH W t) (hok:W.ok) (hx:W.live x) (hq:∀ e ∈ q,W.dx e) (hT:W.T.length≤100000) (hql:q.length≤1000000) :
  Calls Try.prog 142 #[.int .i64 x, .pointer (some ⟨cb,0,none⟩)] w fun e w'=>e=.returned (.int .i64 x)∧dD w gp lb ib nv w' (W.bQ q (t.set x.toNat true),[]):=by
 obtain ⟨e1,G1⟩:=N.mark (q:=q) hx;have HM:=Hz (jo (3,x) L (fun _=>⟨hx.1,by dsimp only;rw [N.len];exact hx.2.1⟩) (by dsimp only;rw [N.len];exact hT) (by simp));have HS:=Hz S;have HL:=Hz L;have HB:=Hz B;have HOK:=Hz hok;have HQ:=Hz hq;have HT:=Hz hT;have HQL:=Hz hql;have HE:=Hz e1;have HG:=Hz G1;have b0:=B.cell 0;have bl:=B.lt;simp only [Lz] at b0;clear S L B N hok hx hq hT hql e1 G1;go_enter Try.func142,Try.ntmps142;go_wp2_with fail;refine HM.out.mono ?_;rintro e w1 ⟨rfl,hU⟩;obtain ⟨nv1,L1,k1,o1⟩:=hU;have HL1:=Hz L1;have B1:=Hz (HB.out.lv HL.out k1);have S1:=Hz (HS.out.lv HL.out k1);have K1:=Hz k1;have O1:=Hz o1;clear b0 bl L1 k1 o1;have b0:=B1.out.cell 0;have bl:=B1.out.lt;simp only [Lz] at b0;go_wp2_with fail;refine (GSpread_c S1.out HL1.out HOK.out (by rw [HE.out];exact HG.out) HQ.out HT.out HQL.out).mono ?_;rintro e w2 ⟨rfl,h2⟩;rw [HE.out] at h2;have T2:=Hz (show dD w gp lb ib nv w2 (W.bQ q (t.set x.toNat true),[]) from dD.join K1.out O1.out h2);clear h2 b0 bl;go_wp2_with fail;go_ret;exact ⟨rfl,T2.out⟩
def GJ (gx:GX) (gp lb ib cb:Nat) (fv:Nat→Value) (W:Wd) (w:World) (t:List Bool) (F:Nat→Prop):Prop:=
 ∃ nv,b7 w gp lb ib nv (t,[])∧jR w cb lb∧cI w gx.l fv W.T∧(∀ i b,ag (fv i) b→∃ c,ah w b c 78)∧gH W t∧F=fun k=>df lb ib nv k∨k=cb∨ag gx.l k∨∃ i,ag (fv i) k
theorem GJ.type {F:Nat→Prop} (J:GJ gx gp lb ib cb fv W w t F) {k:Nat} (hk:F k):k<w.heap.size∧∃ c T,ah w k c T∧T≠146∧T≠170:=by
 obtain ⟨nv,L,B,hT,hF,-,rfl⟩:=J;rcases hk with hk | rfl | hk | ⟨i,hk⟩
 ·obtain ⟨h1,c,T,h2,h3⟩:=L.aX hk;refine ⟨h1,c,T,h2,?_⟩;rcases h3 with rfl | rfl | rfl <;> exact ⟨by decide,by decide⟩
 ·exact ⟨B.lt,_,_,B,by decide,by decide⟩
 ·obtain ⟨cs,hs,_⟩:=hT;obtain ⟨h1,c,hc⟩:=hs.own hk;exact ⟨h1,c,_,hc,by decide,by decide⟩
 ·obtain ⟨c,hc⟩:=hF i k hk;exact ⟨hc.lt,c,_,hc,by decide,by decide⟩
theorem GJ.apart {F:Nat→Prop} (J:GJ gx gp lb ib cb fv W w t F) (S:a8 gx w gp rgv wv regs q):eM F gp rgv wv:=by
 rintro k ⟨h1,h2⟩;obtain ⟨_,c,T,hb,n1,n2⟩:=J.type h1;exact S.j3 hb n1 n2 h2
noncomputable def jS (gx:GX) (gp lb ib cb:Nat) (fv:Nat→Value) (W:Wd) (hok:W.ok) (hT:W.T.length≤100000):cM gx Try.prog gp (List Bool) where
 J:=fun w t F=>GJ gx gp lb ib cb fv W w t F
 D:=fun _ x=>W.live x
 DK:=fun _ x=>W.live x
 Q:=W.dx
 alive:=az
 ae:=W.a6
 now:=cH
 fa:=140
 fk:=142
 fn:=141
 a1:=#[.pointer (some ⟨lb,0,none⟩)]
 a2:=#[]
 k1:=#[]
 k2:=#[.pointer (some ⟨cb,0,none⟩)]
 n1:=#[]
 n2:=#[]
 ea:=fun args w=>by kernel_rfl
 ek:=fun args w=>by kernel_rfl
 en:=fun args w=>by kernel_rfl
 J_keep:=fun h k hn=>by
  obtain ⟨nv,h1,h2,h3,h4,h5,rfl⟩:=h;exact ⟨nv,h1.ae k (fun b hb=>hn b (.inl hb)),k.ai h2 (hn _ (.inr (.inl rfl))),h3.ae k (fun b hb=>hn b (.inr (.inr (.inl hb)))) (fun i b hb=>hn b (.inr (.inr (.inr ⟨i,hb⟩)))),
   fun i b hb=>by obtain ⟨c,hc⟩:=h4 i b hb;exact ⟨c,k.ai hc (hn b (.inr (.inr (.inr ⟨i,hb⟩))))⟩,h5,rfl⟩
 J_lt:=fun h hk=>(GJ.type h hk).1
 alive_c:=fun w t F x hJ hx=>by
  obtain ⟨nv,h1,-,-,-,h5,-⟩:=hJ;obtain ⟨x,rfl⟩:=Int.eq_ofNat_of_zero_le hx.1;have hl:=h5.len;exact (p8 x h1 (by have:=hx.2.1;dsimp only;omega) (by dsimp only;omega)).mono (by rintro e w' ⟨rfl,rfl⟩;exact ⟨rfl,aa.refl _ _⟩)
 now_c:=fun w t F x hJ _=>by
  refine (show Calls Try.prog 141 #[.int .i64 x] w fun e w'=>e=.returned (.int .i64 x)∧w=w' from ?_).mono (by rintro e w' ⟨rfl,rfl⟩;exact ⟨rfl,aa.refl _ _⟩);go_enter Try.func141,Try.ntmps141;go_wp2_with fail;go_ret;exact ⟨rfl,rfl⟩
 keep_c:=fun w t F rv qv regs wait x hJ hS hA hx hq hl=>by
  obtain ⟨nv,h1,h2,h3,h4,h5,rfl⟩:=hJ;have S:fh w gx gp rv qv regs wait fv W:=⟨hS,h3,h4⟩;refine (rA x S h1 h2 h5 hok hx (fun e he=>(hq e he).2) hT hl).mono ?_;rintro e w' ⟨rfl,nv',L',k',o'⟩;have S':=S.lv h1 k';have J':GJ gx gp lb ib cb fv W w' (W.bQ wait (t.set x.toNat true)) _:=⟨nv',L',h2.lv h1 k',S'.T,S'.F,gH.bQ hok (fun e he=>(hq e he).2) (by rw [List.length_set];exact h5.len) (fun i hi=>by
   rcases (cE hx.1 (by rw [h5.len];exact hx.2.1)).1 hi with rfl | h
   ·exact hx
   ·exact h5.lv i h),rfl⟩
  refine ⟨rfl,_,J',S'.S,J'.apart S'.S,k'.mono (fun k _ hk=>.inl (.inl hk)),fun k hk=>?_⟩;rcases hk with (rfl | rfl | hk) | hk
  ·exact .inl (.inl (.inl rfl))
  ·exact .inl (.inl (.inr (.inl rfl)))
  ·exact (o' k hk).imp (fun h=>.inl (.inr (.inr h))) id
  ·exact .inl (.inr hk)
 DK_D:=fun h=>h
 DK_keep:=fun _ h=>h
 D_keep:=fun _ h=>h
 D_new:=fun h=>h
 D_wait:=fun _ h=>h
 Q_new:=fun _ h=>h
 Q_wait:=fun h=>h
 keep_len:=rfl
end
end
end Go.Proofs.Ytjifdalflepcoab
