/-
  Parts of the proof, merged: what the functions do, and plain laws.
-/
import Derived.Carry
import Derived.ChangeSame
import Derived.Deep.Fields
import Derived.Deep.Slices
import Derived.Lib.SmallJoins
import Derived.OpenShut
import Derived.ProofKit
import Derived.Test.YtjifdalflepcoadGreatTRPP2
set_option maxHeartbeats 16000000
set_option maxRecDepth 100000
set_option linter.unusedVariables false
set_option linter.unusedSimpArgs false
namespace Go.Proofs.YtjifdalflepcoadGreat
section
def fN (sz f:Int->Int):List Int->Int->Int->Prop
 | [],a,b=>a=b
 | p :: l,a,b=>f p=a/\fN sz f l (a+sz p) b
theorem fN.le {sz f:Int->Int} (h0:∀ p,0<=sz p):∀ {l:List Int} {a b:Int},fN sz f l a b->a<=b
 | [],a,b,h=>by have h:a=b:=h;omega
 | p :: l,a,b,h=>by have:=fN.le h0 h.2;have:=h0 p;omega
theorem fN.mem {sz f:Int->Int} (h0:∀ p,0<=sz p):∀ {l:List Int} {a b:Int},fN sz f l a b->∀ p ∈ l,a<=f p/\f p+sz p<=b
 | q :: l,a,b,h,p,hp=>by
  rcases Zm.1 hp with rfl | hp
  ·have:=fN.le h0 h.2;have:=h.1;omega
  ·have:=fN.mem h0 h.2 p hp;have:=h0 q;omega
def eE (f:List Int) (p:Int):Int:=f.getD p.toNat 0
theorem nB {A:Ar} {lv:List Bool} {base:Int}:∀ {l:List Int} {t:List Int × Int},l.Nodup->(∀ p ∈ l,0<=p/\p<t.1.length) ->
  fN (λp=>1+(A.ah p).2.1) (eE (jPlan A lv base l t).1) (l.filter λi=>aw lv i) (base+t.2) (base+(jPlan A lv base l t).2)/\(∀ q,0<=q->¬ q ∈ l->eE (jPlan A lv base l t).1 q=eE t.1 q)/\(jPlan A lv base l t).1.length=t.1.length
 | [],t,_,_=>⟨rfl,λ_ _ _=>rfl,rfl⟩
 | i :: l,t,hn,hr=>by
  rw [List.nodup_cons] at hn;have hi:=hr i (by simp);unfold jPlan;by_cases hc:aw lv i=true
  ·rw [if_pos hc,List.filter_cons,if_pos hc];obtain ⟨h1,h2,h3⟩:=nB (A:=A) (lv:=lv) (base:=base) (l:=l) (t:=(t.1.set i.toNat (base+t.2),t.2+(1+(A.ah i).2.1))) hn.2 (λp hp=>by
    have:=hr p (by simp [hp]);simpa using this)
   refine ⟨⟨?_,?_⟩,λq hq hqi=>?_,by rw [h3];simp⟩
   ·rw [h2 i hi.1 hn.1];unfold eE;dsimp only;rw [Ld,List.getElem?_set_self (by omega)]
    rfl
   ·have e:base+t.2+(1+(A.ah i).2.1)=base+(t.2+(1+(A.ah i).2.1)):=by omega
    rw [e];exact h1
   ·rw [List.mem_cons,not_or] at hqi;rw [h2 q hq hqi.2];unfold eE;dsimp only;rw [Ld,Ld,List.getElem?_set_ne (by omega)]
  ·rw [if_neg hc,List.filter_cons,if_neg hc];obtain ⟨h1,h2,h3⟩:=nB (A:=A) (lv:=lv) (base:=base) (l:=l) (t:=t) hn.2 (λp hp=>hr p (by simp [hp]));exact ⟨h1,λq hq hqi=>h2 q hq (λh=>hqi (by simp [h])),h3⟩
def wd (A:Ar) (i:Int):Int:=A.ws.getD i.toNat 0
def uv (sz:Int->Int) (n:Int):List Int->Int->Prop
 | [],_=>True
 | p :: l,a=>0<=a/\0<=p/\p+sz p<=n/\a+sz p<=n/\(∀ q ∈ l,a+sz p<=q\/q+sz q<=a)/\uv sz n l (a+sz p)
theorem pL {A:Ar} {f:List Int} {p a:Int} (hf:eE f p=a) (h0:0<=a) (hp:0<=p) (h1:p+(1+(A.ah p).2.1)<=A.ws.length) (h2:a+(1+(A.ah p).2.1)<=A.ws.length) :
  (bx f A p).ws.length=A.ws.length/\(∀ x,0<=x->wd (bx f A p) x=if a<=x/\x<a+(1+(A.ah p).2.1) then wd A (p+(x-a)) else wd A x)/\(∀ x ∈ (bx f A p).ws,x ∈ A.ws)/\(bx f A p).nur=A.nur/\(bx f A p).yng=A.yng/\(bx f A p).grn=A.grn:=by
 have hn:=A.aQ p;have hl:((A.ws.drop p.toNat).take (1+(A.ah p).2.1).toNat).length=(1+(A.ah p).2.1).toNat:=by simp;omega
 unfold eE at hf;have hle:a.toNat+((A.ws.drop p.toNat).take (1+(A.ah p).2.1).toNat).length<=A.ws.length:=by rw [hl];omega
 refine ⟨?_,λx hx=>?_,λx hx=>?_,rfl,rfl,rfl⟩
 ·unfold bx;rw [hf];exact dW hle
 ·unfold bx wd;rw [hf];dsimp only;rw [jI hle,hl];by_cases hc:a<=x/\x<a+(1+(A.ah p).2.1)
  ·rw [if_pos (by omega),if_pos hc];simp only [Ld];rw [List.getElem?_take,if_pos (by omega),List.getElem?_drop];congr 2;omega
  ·rw [if_neg (by omega),if_neg hc]
 ·unfold bx at hx;rw [hf] at hx;rcases pt hx with h | h
  ·exact h
  ·exact List.mem_of_mem_drop (List.mem_of_mem_take h)
theorem jP {A:Ar} {p:Int} (h:A.aM p=true):A.load p=wd A p:=by unfold Ar.load;rw [if_pos h];rfl
theorem ri {f:List Int} {sz:Int->Int}:∀ {l:List Int} {a b:Int} {A:Ar},fN sz (eE f) l a b->uv sz A.ws.length l a->(∀ p ∈ l,A.aM p=true/\1+(A.ah p).2.1=sz p)->l.Nodup->(∀ p,0<=sz p) ->
  (l.foldl (bx f) A).ws.length=A.ws.length/\(∀ x,0<=x->(x<a\/b<=x)->wd (l.foldl (bx f) A) x=wd A x)/\(∀ p ∈ l, ∀ j,0<=j->j<sz p->wd (l.foldl (bx f) A) (eE f p+j)=wd A (p+j)) /\
   (∀ x ∈ (l.foldl (bx f) A).ws,x ∈ A.ws)/\(l.foldl (bx f) A).nur=A.nur/\(l.foldl (bx f) A).yng=A.yng/\(l.foldl (bx f) A).grn=A.grn
 | [],a,b,A,_,_,_,_,_=>⟨rfl,λ_ _ _=>rfl,λp h=>by simp at h,λ_ h=>h,rfl,rfl,rfl⟩
 | p :: l,a,b,A,hs,hd,hz,hn,h0=>by
  obtain ⟨d0,dp,d1,d2,d3,d4⟩:=hd;have hp:=hz p (by simp);rw [List.nodup_cons] at hn;obtain ⟨k1,k2,k3,k4,k5,k6⟩:=pL (A:=A) (f:=f) (p:=p) (a:=a) hs.1 d0 dp (by rw [hp.2];exact d1) (by rw [hp.2];exact d2);rw [hp.2] at k2;have huse:∀ x,(bx f A p).aM x=A.aM x:=λx=>by unfold Ar.aM Ar.aA Ar.aK;rw [k4,k5,k6]
  have hz':∀ q ∈ l,(bx f A p).aM q=true/\1+((bx f A p).ah q).2.1=sz q:=λq hq=>by
   have h:=hz q (by simp [hq]);refine ⟨by rw [huse];exact h.1,?_⟩;have hq0:0<=q:=by
    have:=h.1;unfold Ar.aM at this;rw [Bool.or_eq_true,bU,dq] at this;omega
   have e:(bx f A p).load q=A.load q:=by
    rw [jP h.1,jP (by rw [huse];exact h.1),k2 q hq0,if_neg];have:=d3 q hq;have:=h0 q;have h1:=A.aQ q;omega
   rw [cR e];exact h.2
  obtain ⟨m1,m2,m3,m4,m5,m6,m7⟩:=ri (f:=f) (sz:=sz) (l:=l) (a:=a+sz p) (b:=b) (A:=bx f A p) hs.2 (by rw [k1];exact d4) hz' hn.2 h0;have hle:=fN.le h0 hs.2;rw [List.foldl_cons];refine ⟨m1.trans k1,λx hx hxx=>?_,λq hq j hj hjs=>?_,λx hx=>k3 x (m4 x hx),m5.trans k4,m6.trans k5,m7.trans k6⟩
  ·have:=h0 p;rw [m2 x hx (by omega),k2 x hx,if_neg (by omega)]
  ·rcases Zm.1 hq with rfl | hq
   ·rw [hs.1];rw [m2 (a+j) (by omega) (by omega),k2 (a+j) (by omega),if_pos (by omega)];congr 1;omega
   ·have h:=hz q (by simp [hq]);have hq0:0<=q:=by
     have:=h.1;unfold Ar.aM at this;rw [Bool.or_eq_true,bU,dq] at this;omega
    rw [m3 q hq j hj hjs,k2 (q+j) (by omega),if_neg];have:=d3 q hq;omega
def sY (s:Gs) (f:List Int) (b:Bool) (x:Int):Int:=if (b || !aS s x)=true then 3 else cB f x
theorem nC {s:Gs} {f:List Int} {b:Bool}:∀ (n:Nat) {A:Ar} (i:Int),A.ok->(∀ j:Int,0<=j->j<n->A.aM (i+j)=true/\bm (sY s f b (A.load (i+j)))) ->
  (jTurnN s f b n A i).ok/\(jTurnN s f b n A i).nur=A.nur/\(jTurnN s f b n A i).yng=A.yng/\(jTurnN s f b n A i).grn=A.grn/\(jTurnN s f b n A i).ws.length=A.ws.length /\
   (∀ q,(jTurnN s f b n A i).load q=if i<=q/\q<i+n then sY s f b (A.load q) else A.load q)
 | 0,A,i,h,_=>⟨h,rfl,rfl,rfl,rfl,λq=>by rw [if_neg (by omega)];rfl⟩
 | n+1,A,i,h,hr=>by
  have h0:=hr 0 (by omega) (by omega);rw [Int.add_zero] at h0;have e:jz s f b A i=A.store i (sY s f b (A.load i)):=rfl;have hok:(jz s f b A i).ok:=by rw [e];exact h.store _ _ h0.2
  have hld:∀ q,(jz s f b A i).load q=if q=i then sY s f b (A.load i) else A.load q:=λq=>by
   rw [e,Ar.fh h];by_cases hq:q=i
   ·rw [if_pos ⟨hq,h0.1⟩,if_pos hq]
   ·rw [if_neg (λh=>hq h.1),if_neg hq]
  have huse:∀ x,(jz s f b A i).aM x=A.aM x:=λx=>by unfold Ar.aM Ar.aA Ar.aK;rw [e,Ar.cZ,Ar.fH,Ar.dO]
  obtain ⟨m1,m2,m3,m4,m5,m6⟩:=nC (s:=s) (f:=f) (b:=b) n (A:=jz s f b A i) (i+1) hok (λj h1 h2=>by
   have:=hr (1+j) (by omega) (by omega);rw [huse,hld,if_neg (by omega),show i+1+j=i+(1+j) by omega]
   exact this)
  unfold jTurnN;refine ⟨m1,m2.trans (by rw [e,Ar.cZ]),m3.trans (by rw [e,Ar.fH]),m4.trans (by rw [e,Ar.dO]),m5.trans (by rw [e,Ar.lX]),λq=>?_⟩;rw [m6 q];by_cases hq:q=i
  ·subst hq;rw [if_neg (by omega),if_pos (by omega),hld,if_pos rfl]
  ·rw [hld,if_neg hq];by_cases hc:i+1<=q/\q<i+1+n
   ·rw [if_pos hc,if_pos (by omega)]
   ·rw [if_neg hc,if_neg (by omega)]
end
section
section
variable {O:Wo} {W:Wd} {φ:Int->Int} {A B:Ar} {s:Gs} {is:List Bool} {f:List Int} {qw:List (Int × Int)}
theorem kT {φ:Int->Int} {P:Int->Prop}:∀ {l:List Int},(∀ p ∈ l, ∃ i,P i/\φ i=p)->∃ m:List Int,m.map φ=l/\∀ i ∈ m,P i
 | [],_=>⟨[],rfl,by simp⟩
 | p :: l,h=>by
  obtain ⟨i,hi,e⟩:=h p (by simp);obtain ⟨m,hm,hP⟩:=kT (l:=l) (λq hq=>h q (by simp [hq]));refine ⟨i :: m,by simp [e,hm],λk hk=>?_⟩;rcases Zm.1 hk with rfl | hk
  ·exact hi
  ·exact hP k hk
theorem oO {φ:Int->Int}:∀ {l:List Int},(l.map φ).Nodup->l.Nodup
 | [],_=>List.nodup_nil
 | a :: l,h=>by
  rw [Zs,List.nodup_cons] at h;rw [List.nodup_cons];exact ⟨λha=>h.1 (Zi.2 ⟨a,ha,rfl⟩),oO h.2⟩
theorem r9 {sz f:Int->Int} (h0:∀ p,0<=sz p) {n nur b:Int} (hb:b<=n) (hn:0<=nur):∀ {l m:List Int} {a:Int},fN sz f (l ++ m) a b->nur<=a->(∀ p ∈ l,a<=p/\p+sz p<=n)->l.Pairwise (λp q=>p+sz p<=q) ->
  (∀ q ∈ m,0<=q/\q+sz q<=nur)->uv sz n (l ++ m) a
 | [],[],a,_,_,_,_,_=>trivial
 | [],q :: m,a,hs,ha,hl,hp,hm=>by
  have hq:=hm q (by simp);have hle:=fN.le h0 hs.2;have h1:=h0 q;refine ⟨by omega,hq.1,by omega,by omega,λr hr=>.inr (by have:=hm r (by simp [show r ∈ m from hr]);omega),?_⟩;exact r9 h0 hb hn (l:=[]) (m:=m) hs.2 (by omega) (by simp) List.Pairwise.nil (λr hr=>hm r (by simp [hr]))
 | p :: l,m,a,hs,ha,hl,hp,hm=>by
  have hpp:=hl p (by simp);have hle:=fN.le h0 hs.2;have h1:=h0 p;rw [List.pairwise_cons] at hp;refine ⟨by omega,by omega,hpp.2,by omega,λr hr=>?_,?_⟩
  ·rcases Zk.1 hr with h | h
   ·have:=hp.1 r h;left;omega
   ·right;have:=hm r h;omega
  ·exact r9 h0 hb hn hs.2 (by omega) (λr hr=>by have:=hp.1 r hr;have:=hl r (by simp [hr]);omega) hp.2 hm
theorem Bo (is:List Bool):e9 is W.T=((((List.range W.T.length).map (Int.ofNat ·)).filter λi=>aw is i).map λi=>(W.th i).words).sum:=by
 rw [jx];unfold e9;congr 1;apply List.ext_getElem
 ·simp
 ·intro k h1 h2;simp only [List.length_mapIdx] at h1;simp only [List.getElem_mapIdx,List.getElem_map,List.getElem_range];have e1:W.th (Int.ofNat k)=W.T[k]:=by
   unfold Wd.th;rw [Ld,show (Int.ofNat k).toNat=k from rfl,Le h1];rfl
  have e2:aw is (Int.ofNat k)=is.getD k false:=dQ is k;rw [e1,e2]
theorem fN.sum {sz f:Int->Int}:∀ {l:List Int} {a b:Int},fN sz f l a b->b=a+(l.map sz).sum
 | [],a,b,h=>by have h:a=b:=h;simp [h]
 | p :: l,a,b,h=>by
  have:=fN.sum h.2;simp only [Zs,List.sum_cons];omega
theorem fN.iZ {sz:Int->Int} {φ g:Int->Int}:∀ {l:List Int} {a b:Int},fN sz g (l.map φ) a b->(∀ i ∈ l,(A.ah (g (φ i))).2.2=0/\1+(A.ah (g (φ i))).2.1=sz (φ i))->Tile A (l.map λi=>g (φ i)) a b
 | [],a,b,h,_=>h
 | i :: l,a,b,h,ht=>by
  have h1:=ht i (by simp);refine ⟨h.1,h1.1,?_⟩;have:=fN.iZ h.2 (λk hk=>ht k (by simp [hk]));have e:a+sz (φ i)=g (φ i)+1+(A.ah (g (φ i))).2.1:=by have:=h.1;omega
  rw [<-e];exact this
def di (f:List Int) (φ:Int->Int) (i:Int):Int:=eE f (φ i)
theorem uw {v:Vl} {N:Int} (hok:W.cI v) (hN:v.1=3->0<=di f φ v.2/\di f φ v.2<=1280):cB f (az φ v)=az (di f φ) v:=by
 by_cases h3:v.1=3
 ·have:=hN h3;rw [bK φ h3,bK _ h3];unfold cB;rw [if_pos (by omega),show (4*φ v.2+1)/4=φ v.2 by omega]
  show iq (di f φ v.2)=_
  unfold iq;rw [IntKind.wrap_i64];omega
 ·unfold cB;rw [if_neg (λh=>h3 ((fX hok).1 h))];exact kS h3
structure Tn (O:Wo) (W:Wd) (φ:Int->Int) (s:Gs) (f:List Int) (is:List Bool):Prop where
 live:∀ i,aw is i=true->W.live i
 al:∀ v,W.cI v->(aS s (az φ v)=true↔(v.1=3->aw is v.2=true))
 rng:∀ i,aw is i=true->0<=di f φ i/\di f φ i<=1280
theorem Tn.bm (T:Tn O W φ s f is) {v:Vl} (hok:W.cI v) (hs:v.1=3->aw is v.2=true):bm (az (di f φ) v):=by
 unfold Proofs.YtjifdalflepcoadGreat.bm;rcases hok with h | h | h | h
 ·have e:az (di f φ) v=2:=by simp [az,h.1]
  rw [e];decide
 ·have e:az (di f φ) v=4*v.2:=by simp [az,h.1]
  have:=h.2;unfold cG at this;rw [e];omega
 ·have e:az (di f φ) v=3:=by simp [az,h.1]
  rw [e];decide
 ·rw [bK _ h.1];have:=T.rng _ (hs h.1);omega
def jQ (W:Wd) (is:List Bool) (i:Int):Bool:=decide ((W.th i).k=4) && !bY is ((W.th i).fs.getD 0 (0,0))
def mB (W:Wd) (is:List Bool) (i:Int) (v:Vl):Vl:=if (jQ W is i || !bY is v)=true then (2,0) else v
theorem Tn.fd (T:Tn O W φ s f is) {i:Int} {v:Vl} (hok:W.cI v):sY s f (jQ W is i) (az φ v)=az (di f φ) (mB W is i v)/\Proofs.YtjifdalflepcoadGreat.bm (az (di f φ) (mB W is i v)):=by
 have ha:=T.al v hok;rw [<-ey] at ha;have ea:aS s (az φ v)=bY is v:=Bool.eq_iff_iff.2 ha;unfold sY mB;rw [ea];by_cases hc:(jQ W is i || !bY is v)=true
 ·rw [if_pos hc,if_pos hc,jN];exact ⟨rfl,ks⟩
 ·rw [if_neg hc,if_neg hc];have hs:v.1=3->aw is v.2=true:=by
   rw [<-ey];cases h:bY is v
   ·rw [h] at hc;simp at hc
   ·rfl
  exact ⟨uw (N:=0) hok (λh3=>T.rng _ (hs h3)),T.bm hok hs⟩
theorem zE (h:W.ok) (hcl:cv W.nd qw λk=>aw is k=true) {i:Int} (hl:W.live i) (hb:aw is i=true):my W is i=(W.th i).fs.map (mB W is i):=by
 have shut:∀ j,iT W.nd qw (λk=>aw is k=true) i j->aw is j=true:=λj hj=>hcl i j hb hj;rw [lh hl.1 hb];have hf:=h.tk i hl;have hs:=bL hf;by_cases k4:(W.th i).k=4
 ·obtain ⟨a,b,e⟩:=i3 (Wd.two h hl (.inr (.inl k4)));rw [e];simp only [List.getD_cons_zero,List.getD_cons_succ,Zs,List.map_nil];have e0:(W.th i).fs.getD 0 (0,0)=a:=by rw [e];rfl
  cases hk:bY is a
  ·have:jQ W is i=true:=by unfold jQ;rw [e0,hk];simp [k4]
   rw [if_pos ⟨k4,rfl⟩];simp [mB,this]
  ·have hb':jQ W is i=false:=by unfold jQ;rw [e0,hk];simp
   rw [if_neg (λh=>by cases h.2),if_neg (λh=>by cases h.2)];have h2:bY is b=true:=ey.2 λh3=>shut _ (.inr (.inr (.inl ⟨k4,by
    show (W.th i).fs[1]? = _
    rw [e];show some b=_;congr 1;exact Prod.ext h3 rfl,λv hv h5=>by
    have hv':(W.th i).fs[0]? = some v:=hv;rw [e] at hv';have:a=v:=by simpa using hv'
    subst this
    exact ey.1 hk h5⟩)))
   simp [mB,hb',hk,h2]
 ·have hb':jQ W is i=false:=by unfold jQ;simp [k4]
  rw [if_neg (λh=>k4 h.1)];by_cases k3:(W.th i).k=3
  ·obtain ⟨a,b,e⟩:=i3 (Wd.two h hl (.inl k3));rw [e];simp only [List.getD_cons_zero,List.getD_cons_succ,Zs,List.map_nil];have h2:bY is b=true:=ey.2 λh3=>shut _ (.inr (.inl ⟨k3,by
    show (W.th i).fs[1]? = _
    rw [e];show some b=_;congr 1;exact Prod.ext h3 rfl⟩))
   cases hk:bY is a
   ·rw [if_pos ⟨k3,rfl⟩];simp [mB,hb',hk,h2]
   ·rw [if_neg (λh=>by cases h.2)];simp [mB,hb',hk,h2]
  ·rw [if_neg (λh=>k3 h.1)];by_cases k12:(W.th i).k=1\/(W.th i).k=2
   ·symm
    rw [List.map_congr_left (g:=id),List.map_id];intro v hv;have:bY is v=true:=ey.2 λh3=>shut _ (.inl ⟨k12,by show ((3,v.2):Vl) ∈ (W.th i).fs;rw [<-h3];exact hv⟩);simp [mB,hb',this]
   ·have k5:(W.th i).k=5:=by omega
    rw [k5] at hf;simp [bj] at hf;have:(W.th i).fs=[]:=hf;rw [this];rfl
theorem Tn.turns (R:aI O W φ) (T:Tn O W φ s f is):∀ (l:List Int) {A:Ar},l.Nodup->(∀ i ∈ l,aw is i=true)->A.ok->A.nur=O.ar.nur->A.yng=O.ar.yng->A.grn=O.ar.grn->A.ws.length=O.ar.ws.length ->
  (∀ i ∈ l, ∀ j:Int,0<=j->j<=(W.th i).fs.length->A.load (φ i+j)=O.ar.load (φ i+j)) ->
  ((l.map φ).foldl (dZ s f) A).ok/\((l.map φ).foldl (dZ s f) A).nur=O.ar.nur/\((l.map φ).foldl (dZ s f) A).yng=O.ar.yng/\((l.map φ).foldl (dZ s f) A).grn=O.ar.grn/\((l.map φ).foldl (dZ s f) A).ws.length=O.ar.ws.length /\
   (∀ i ∈ l,((l.map φ).foldl (dZ s f) A).load (φ i)=O.ar.load (φ i)/\∀ (j:Nat) (v:Vl),(W.th i).fs[j]? = some v->((l.map φ).foldl (dZ s f) A).load (φ i+1+j)=az (di f φ) (mB W is i v)) /\
   (∀ k,W.live k->¬ k ∈ l->∀ j:Int,0<=j->j<=(W.th k).fs.length->((l.map φ).foldl (dZ s f) A).load (φ k+j)=A.load (φ k+j))
 | [],A,_,_,h0,h1,h2,h3,h4,_=>⟨h0,h1,h2,h3,h4,by simp,λ_ _ _ _ _ _=>rfl⟩
 | i :: l,A,hn,hb,h0,h1,h2,h3,h4,hA=>by
  rw [List.nodup_cons] at hn;have hbi:=hb i (by simp);have hl:=T.live i hbi;have hth:=R.th i hl;have hAi:=hA i (by simp);have hA0:=hAi 0 (by omega) (by omega);rw [Int.add_zero] at hA0;have eth:A.ah (φ i)=((W.th i).k,((W.th i).fs.length:Int),0):=by rw [iI hA0,hth]
  have fld:∀ (j:Nat) (v:Vl),(W.th i).fs[j]? = some v->A.load (φ i+1+j)=az φ v:=λj v hv=>by
   have hj:=(Zj.1 hv).1;rw [Int.add_assoc,hAi (1+(j:Int)) (by omega) (by omega),<-Int.add_assoc];exact R.fl i hl j v hv
  have hbrk:(decide ((A.ah (φ i)).1=4) && !aS s (A.load (φ i+1)))=jQ W is i:=by
   rw [eth];unfold jQ;by_cases k4:(W.th i).k=4
   ·obtain ⟨a,b,e⟩:=i3 (Wd.two R.hw hl (.inr (.inl k4)));have hj0:(W.th i).fs[0]? = some a:=by rw [e];rfl
    have:=fld 0 a hj0;rw [show φ i+1+((0:Nat):Int)=φ i+1 by omega] at this;have ok0:=R.hw.tv i hl a (Zh hj0);rw [this,Bool.eq_iff_iff.2 ((T.al a ok0).trans ey.symm),e];simp
   ·simp [k4]
  have eT:dZ s f A (φ i)=jTurnN s f (jQ W is i) (W.th i).fs.length A (φ i+1):=by
   unfold dZ;rw [hbrk,eth];simp
  have use:∀ q,A.aM q=O.ar.aM q:=λq=>by unfold Ar.aM Ar.aA Ar.aK;rw [h1,h2,h3]
  have huse:∀ {k:Int},W.live k->∀ j:Int,0<=j->j<=(W.th k).fs.length->O.ar.aM (φ k+j)=true:=λhk j h5 h6=>R.use hk h5 h6;obtain ⟨m1,m2,m3,m4,m5,m6⟩:=nC (s:=s) (f:=f) (b:=jQ W is i) (W.th i).fs.length (A:=A) (φ i+1) h0 (λj hj0 hj1=>by
   refine ⟨by rw [use,Int.add_assoc];exact huse hl _ (by omega) (by omega),?_⟩;have hv:(W.th i).fs[j.toNat]? = some (W.th i).fs[j.toNat]:=Le (by omega);have:=fld _ _ hv;rw [show ((j.toNat:Nat):Int)=j by omega] at this;rw [this];have:=T.fd (i:=i) (R.hw.tv i hl _ (Zh hv))
   rw [this.1];exact this.2)
  rw [<-eT] at m1 m2 m3 m4 m5 m6;have ab:∀ k,W.live k->k≠i->∀ j:Int,0<=j->j<=(W.th k).fs.length->(dZ s f A (φ i)).load (φ k+j)=A.load (φ k+j):=λk hk hne j h5 h6=>by
   rw [m6,if_neg];have:=R.apart hk hl hne;omega
  obtain ⟨n1,n2,n3,n4,n5,n6,n7⟩:=Tn.turns R T l (A:=dZ s f A (φ i)) hn.2 (λk hk=>hb k (by simp [hk])) m1 (m2.trans h1) (m3.trans h2) (m4.trans h3) (m5.trans h4) (λk hk j h5 h6=>by
   have hne:k≠i:=λe=>hn.1 (e ▸ hk);rw [ab k (T.live k (hb k (by simp [hk]))) hne j h5 h6]
   exact hA k (by simp [hk]) j h5 h6)
  rw [Zs,List.foldl_cons];refine ⟨n1,n2,n3,n4,n5,λk hk=>?_,λk hk hkl j h5 h6=>?_⟩
  ·rcases Zm.1 hk with rfl | hk
   ·constructor
    ·have:=n7 k hl hn.1 0 (by omega) (by omega);rw [Int.add_zero] at this;rw [this,m6,if_neg (by omega),hA0]
    ·intro j v hv;have hj:=(Zj.1 hv).1;have:=n7 k hl hn.1 (1+(j:Int)) (by omega) (by omega);rw [<-Int.add_assoc] at this;rw [this,m6,if_pos (by omega),fld j v hv];exact (T.fd (R.hw.tv k hl v (Zh hv))).1
   ·exact n6 k hk
  ·rw [List.mem_cons,not_or] at hkl;rw [n7 k hk hkl.2 j h5 h6,ab k hk hkl.1 j h5 h6]
end
end
section
section
variable {O:Wo} {W:Wd} {φ:Int->Int}
theorem Wd.yn (W:Wd) (h2:¬ e9 (W.pass true).1 W.T > W.grow):W.cut true=(0,W.after true):=by
 unfold Wd.cut;rw [if_neg (λh'=>by cases h'.1),if_neg h2]
theorem Wd.uz (W:Wd) (h2:e9 (W.pass true).1 W.T > W.grow):W.cut true=(3,W):=by
 unfold Wd.cut;rw [if_neg (λh'=>by cases h'.1),if_pos h2]
structure Pl (O:Wo) (W:Wd) (φ:Int->Int) (is:List Bool) (N:List Int):Prop where
 eq:N.map φ=bW O
 nd:N.Nodup
 nm:∀ i,i ∈ N↔aw is i=true
 sit:fN (λp=>1+(O.ar.ah p).2.1) (eE (dM O).1) (bW O) O.ar.nur (O.ar.nur+(dM O).2)
 sum:(dM O).2=e9 is W.T
 slid:(dM O).2<=(O.ar.ws.length:Int)-O.ar.nur->uv (λp=>1+(O.ar.ah p).2.1) O.ar.ws.length (bW O) O.ar.nur
theorem nD (R:aI O W φ):(lO O).Nodup:=by
 unfold lO;rw [List.nodup_append];refine ⟨R.tz.nodup,R.ty.nodup,λa ha b hb=>?_⟩;have h1:=R.tz.mem a ha;have h2:=R.ty.mem b hb;have h3:=O.ar.aQ b;have:=R.ho.ha.h1;omega
theorem Tile.CG {A:Ar} {l:List Int} {a b:Int} (h:Tile A l a b):l.Pairwise λp q=>p+(1+(A.ah p).2.1)<=q:=
 h.apart.imp λh=>by omega
theorem aI.zF (R:aI O W φ):Pl O W φ (W.pass true).1 ((kT (φ:=φ) (P:=λi=>aw (W.pass true).1 i=true) (l:=bW O) (λp hp=>by
  have:=(Zo.1 hp).2
  exact (R.jo.1.M.at_ p).1 this)).choose):=by
 obtain ⟨hN,hP⟩:=(kT (φ:=φ) (P:=λi=>aw (W.pass true).1 i=true) (l:=bW O) (λp hp=>by
  have:=(Zo.1 hp).2
  exact (R.jo.1.M.at_ p).1 this)).choose_spec
 generalize (kT (φ:=φ) (P:=λi=>aw (W.pass true).1 i=true) (l:=bW O) (λp hp=>by
  have:=(Zo.1 hp).2
  exact (R.jo.1.M.at_ p).1 this)).choose=N at hN hP
 have P:=R.jo.1;have hnd:=nD R;have htn:(bW O).Nodup:=hnd.filter _;have hok:=R.ho.ha;have b1:=hok.h1;have b2:=hok.h2;have b3:=hok.h3;have rng:∀ p ∈ lO O,0<=p/\p<(List.replicate O.ar.ws.length (0:Int)).length:=λp hp=>by
  rw [List.length_replicate];have hf:=O.ar.aQ p;rcases Zk.1 hp with h | h
  ·have:=R.tz.mem p h;omega
  ·have:=R.ty.mem p h;omega
 have inA:∀ i,W.live i->φ i ∈ lO O:=λi hi=>by
  unfold lO;rw [List.mem_append];cases ho:(W.th i).aK
  ·exact .inr (R.iny i hi ho)
  ·exact .inl (R.ino i hi ho)
 have nm:∀ i,i ∈ N↔aw (W.pass true).1 i=true:=λi=>by
  constructor
  ·exact hP i
  ·intro hb;have hl:=P.M.sl i hb;have:φ i ∈ bW O:=Zo.2 ⟨inA i hl,(P.M.at_ _).2 ⟨i,hb,rfl⟩⟩;rw [<-hN] at this;obtain ⟨k,hk,e⟩:=Zi.1 this;rw [<-R.inj k i (P.M.sl k (hP k hk)) hl e];exact hk
 have hNn:N.Nodup:=oO (by rw [hN];exact htn);obtain ⟨s1,s2,s3⟩:=nB (A:=O.ar) (lv:=(ck O).1.lv) (base:=O.ar.nur) (t:=(List.replicate O.ar.ws.length 0,0)) hnd rng;rw [Int.add_zero] at s1;have hsum:(dM O).2=e9 (W.pass true).1 W.T:=by
  have h1:=s1.sum;rw [Bo];have h2:(((lO O).filter λi=>aw (ck O).1.lv i).map λp=>1+(O.ar.ah p).2.1)=N.map λi=>(W.th i).words:=by
   show (bW O).map _=_
   rw [<-hN,List.map_map];refine Zf λi hi=>?_;have:=R.th i (P.M.sl i (hP i hi));simp only [Function.comp];rw [this];rfl
  rw [h2] at h1;have h3:N.Perm (((List.range W.T.length).map (Int.ofNat ·)).filter λi=>aw (W.pass true).1 i):=by
   rw [List.perm_ext_iff_of_nodup hNn ((jw _).filter _)];intro i;rw [nm,List.mem_filter];constructor
   ·intro h;have hl:=P.M.sl i h;exact ⟨Zi.2 ⟨i.toNat,by rw [List.mem_range];have:=hl.2.1;have:=hl.1;omega,by have:=hl.1;show ((i.toNat:Nat):Int)=i;omega⟩,h⟩
   ·exact λh=>h.2
  have h4:=nr (h3.map λi=>(W.th i).words)
  show (dM O).2=_
  rw [<-h4];unfold dM;omega
 refine ⟨hN,hNn,nm,s1,hsum,λhle=>?_⟩;have et:bW O=(O.ar.aO.2.filter λi=>aw (ck O).1.lv i) ++ (O.ar.aO.1.filter λi=>aw (ck O).1.lv i):=by unfold bW lO;rw [List.filter_append]
 have s1':fN (λp=>1+(O.ar.ah p).2.1) (eE (dM O).1) (bW O) O.ar.nur (O.ar.nur+(dM O).2):=s1;rw [et] at s1' ⊢;refine r9 (λp=>by have:=O.ar.aQ p;omega) (n:=O.ar.ws.length) (b:=O.ar.nur+(dM O).2) (nur:=O.ar.nur) (by omega) (by omega) s1' (Int.le_refl _) (λp hp=>?_) (R.tz.CG.filter _) (λq hq=>?_)
 ·have:=R.tz.mem p (Zo.1 hp).1;omega
 ·have:=R.ty.mem q (Zo.1 hq).1;omega
theorem aI.CJ (R:aI O W φ) (hfull:¬ e9 (W.pass true).1 W.T > W.grow) :
  (ed O).1=0/\∃ (N:List Int) (ψ:Int->Int),N.map φ=bW O/\(ed O).2.ar.aO=([],N.map ψ)/\(∀ i ∈ N,(W.after true).live i)/\aI (ed O).2 (W.after true) ψ:=by
 have hsy:=R.sy;have hso:=R.so;have hnur:=R.nur;have hlen:=R.len;obtain ⟨P,hq,hI⟩:=R.jo;have PL:=R.zF;generalize Exists.choose _=N at PL;obtain ⟨m,hfst,hcnt,hits⟩:=Wd.eR R.hw true;have hallN:(dM O).2<=(O.ar.ws.length:Int)-O.ar.nur:=by rw [PL.sum];omega
 have e1:ed O=(0,⟨((jA O).cut (dM O).2.toNat).clear,O.cd.map λ_=>false,O.rt.map (cB (dM O).1),
   (bq aS fM (ck O).1 (ck O).2.2).map (cz (dM O).1),(bt aS fM (ck O).1 (ck O).2.1).map (cz (dM O).1)⟩):=by unfold ed;rw [if_neg (by rw [PL.sum];omega)]
 rw [e1];have hokA:=R.hw.after (major:=true) (by omega);have hokO:=R.ho.ha;have b1:=hokO.h1;have b2:=hokO.h2;have b3:=hokO.h3;have b4:=hokO.h4;have h0:∀ p,0<=(λp=>1+(O.ar.ah p).2.1) p:=λp=>by have:=O.ar.aQ p;dsimp only;omega
 have hall0:=fN.le h0 PL.sit;have hsl:=PL.slid hallN;have hsit:=PL.sit;generalize hf:(dM O).1=f at *;generalize hall:(dM O).2=all at *;generalize hs:(ck O).1=s at *;generalize his:(W.pass true).1=is at *;have lvN:∀ {i},i ∈ N->W.live i:=λhi=>P.M.sl _ ((PL.nm _).1 hi);have thN:∀ {i},i ∈ N->(O.ar.ah (φ i))=((W.th i).k,((W.th i).fs.length:Int),0):=λhi=>R.th _ (lvN hi);have place:∀ {i},i ∈ N->(O.ar.nur:Int)<=di f φ i/\di f φ i+(1+(W.th i).fs.length)<=O.ar.nur+all:=λ{i} hi=>by
  have:=fN.mem h0 hsit (φ i) (by rw [<-PL.eq];exact Zi.2 ⟨i,hi,rfl⟩);rw [thN hi] at this;exact this
 have T:Tn O W φ s f is:=⟨λi hi=>P.M.sl i hi,λv hv=>P.M.alive R hv,λi hi=>by have:=place ((PL.nm i).2 hi);omega⟩;obtain ⟨t1,t2,t3,t4,t5,t6,-⟩:=T.turns R N PL.nd (λi hi=>(PL.nm i).1 hi) hokO rfl rfl rfl rfl (λ_ _ _ _ _=>rfl);have eT:(N.map φ).foldl (dZ s f) O.ar=dS O:=by rw [PL.eq];unfold dS;rw [hs,hf]
 rw [eT] at t1 t2 t3 t4 t5 t6;generalize hTd:dS O=B0 at *;have use0:∀ q,B0.aM q=O.ar.aM q:=λq=>by unfold Ar.aM Ar.aA Ar.aK;rw [t2,t3,t4]
 have hus:∀ {i},i ∈ N->∀ j:Int,0<=j->j<=(W.th i).fs.length->B0.aM (φ i+j)=true:=λhi j h1 h2=>by rw [use0];exact R.use (lvN hi) h1 h2
 obtain ⟨u1,u2,u3,u4,u5,u6,u7⟩:=ri (f:=f) (sz:=λp=>1+(O.ar.ah p).2.1) (l:=bW O) (A:=B0) hsit (by rw [t5];exact hsl) (λp hp=>by
  rw [<-PL.eq] at hp;obtain ⟨i,hi,rfl⟩:=Zi.1 hp;have h1:=hus hi 0 (by omega) (by omega);rw [Int.add_zero] at h1;refine ⟨h1,?_⟩
  rw [cR (t6 i hi).1]) ((nD R).filter _) h0
 have eS:(bW O).foldl (bx f) B0=jA O:=by unfold jA;rw [hTd,hf]
 rw [eS] at u1 u2 u3 u4 u5 u6 u7;generalize hSd:jA O=Bs at *;obtain ⟨B,hB⟩:∃ B,(Bs.cut all.toNat).clear=B:=⟨_,rfl⟩;rw [hB];have bn:B.nur=O.ar.nur:=by rw [<-hB];exact u5.trans t2
 have by_:B.yng=0:=by rw [<-hB];rfl
 have bg:(B.grn:Int)=O.ar.nur+all:=by
  rw [<-hB]
  show ((Bs.nur+all.toNat:Nat):Int)=_
  rw [u5,t2];omega
 have bw:B.ws=Bs.ws:=by rw [<-hB];rfl
 have blen:B.ws.length=O.ar.ws.length:=by rw [bw,u1,t5]
 have okB:B.ok:=by
  refine ⟨by rw [by_];exact Zc _,by rw [bn];omega,by rw [blen];omega,by rw [blen];exact b4,λx hx=>?_⟩;rw [bw] at hx;exact t1.hw x (u4 x hx)
 have oldB:∀ x:Int,(O.ar.nur:Int)<=x->x<O.ar.nur+all->B.aK x=true:=λx h1 h2=>by rw [Proofs.YtjifdalflepcoadGreat.dq,bn,bg];exact ⟨h1,h2⟩
 have ldB:∀ {i},i ∈ N->∀ j:Int,0<=j->j<=(W.th i).fs.length->B.load (di f φ i+j)=B0.load (φ i+j):=λ{i} hi j h1 h2=>by
  have hp:=place hi;have ho:=oldB (di f φ i+j) (by omega) (by omega);have hu:B.aM (di f φ i+j)=true:=by unfold Ar.aM;rw [ho];simp
  have:=u3 (φ i) (by rw [<-PL.eq];exact Zi.2 ⟨i,hi,rfl⟩) j h1 (by rw [thN hi];dsimp only;omega);rw [jP hu,jP (hus hi j h1 h2)];have e2:wd B (di f φ i+j)=wd Bs (di f φ i+j):=by unfold wd;rw [bw]
  rw [e2];exact this
 have thB:∀ {i},i ∈ N->B.ah (di f φ i)=((W.th i).k,((W.th i).fs.length:Int),0):=λ{i} hi=>by
  have h1:=ldB hi 0 (by omega) (by omega);rw [Int.add_zero,Int.add_zero,(t6 i hi).1] at h1;rw [iI h1];exact thN hi
 have lv:∀ {i},(W.after true).live i↔i ∈ N:=λ{i}=>by rw [Wd.fg R.hw,his,PL.nm]
 have isN:∀ {i},i ∈ N->aw is i=true:=λhi=>(PL.nm _).1 hi;have tha:∀ {i},i ∈ N->(W.after true).th i=dB is i.toNat (W.th i):=λ{i} hi=>by rw [<-his];exact Wd.gD (lvN hi).1 (lvN hi).2.1
 have olda:∀ {i},i ∈ N->((W.after true).th i).aK=true:=λ{i} hi=>by
  rw [tha hi,(lZ (by rw [c8 (lvN hi).1];exact isN hi)).2]
 have clen:∀ {i},i ∈ N->(dB is i.toNat (W.th i)).fs.length=(W.th i).fs.length:=λ{i} hi=>jK (by rw [c8 (lvN hi).1];exact isN hi) (R.hw.tk i (lvN hi));have hth:B.aO=([],N.map (di f φ)):=by
  refine Tile.aO okB (by rw [by_];rfl) ?_;rw [bn,bg];have:=fN.iZ (A:=B) (φ:=φ) (l:=N) (by rw [PL.eq];exact hsit) (λi hi=>by
   have:=thB hi;unfold di at this;rw [this];dsimp only;rw [thN hi]
   exact ⟨rfl,rfl⟩)
  exact this
 have tz:Tile B B.aO.2 B.nur B.grn:=by
  rw [hth,bn,bg];exact fN.iZ (A:=B) (φ:=φ) (l:=N) (by rw [PL.eq];exact hsit) (λi hi=>by
   have:=thB hi;unfold di at this;rw [this];dsimp only;rw [thN hi]
   exact ⟨rfl,rfl⟩)
 have inj:∀ i j,i ∈ N->j ∈ N->di f φ i=di f φ j->i=j:=λi j hi hj e=>by
  have:=tz.nodup;rw [hth] at this;exact lM this hi hj e
 have nowV:∀ {v:Vl},W.cI v->(v.1=3->v.2 ∈ N)->cB f (az φ v)=az (di f φ) v:=λhv h=>uw (N:=0) hv (λh3=>by have:=place (h h3);omega);have nowE:∀ {e:Int × Int},e.1 ∈ N->e.2 ∈ N->cz f (bs φ e)=bs (di f φ) e:=λ{e} h1 h2=>by
  rw [dR,dR];unfold cz;dsimp only;rw [nowV (v:=(3,e.1)) (.inr (.inr (.inr ⟨rfl,lvN h1⟩))) (λ_=>h1),nowV (v:=(3,e.2)) (.inr (.inr (.inr ⟨rfl,lvN h2⟩))) (λ_=>h2)]
 have hrg:(bq aS fM s (ck O).2.2).map (cz f)=(W.after true).ai.map (bs (di f φ)):=by
  rw [hI]
  show _=(bq aw iX (W.pass true).1 (W.pass true).2.2).map _
  rw [his];have itx:∀ i ∈ (W.pass true).2.2,W.dL i.1/\(i.2.1=false->aw is i.1.2=true):=by
   intro i hi;have h1:(i.1,i.2.1) ∈ (W.pass true).2.2.map (λi=>(i.1,i.2.1)):=Zi.2 ⟨i,hi,rfl⟩;rw [hits] at h1;obtain ⟨e,he',e2⟩:=Zi.1 h1;have e3:e=i.1:=congrArg (λp:(Int × Int) × Bool=>p.1) e2;have e4:(!aw (W.cY W.wait (W.first true)) e.2)=i.2.1:=congrArg (λp:(Int × Int) × Bool=>p.2) e2;have hgv:=R.hw.gv e he';rw [e3] at hgv e4;exact ⟨hgv,λhd=>hfst _ (by rw [hd] at e4;simpa using e4)⟩
  generalize (W.pass true).2.2=l at itx;unfold bq
  induction l with
  | nil=>rfl
  | cons i l ih=>
   have hi:=itx i (by simp);have ih:=ih (λj hj=>itx j (by simp [hj]));have ea:aS s (cW φ i).1.1=aw is i.1.1:=by
    show aS _ (bs φ i.1).1=_
    rw [dR];exact P.alive R hi.1.1
   simp only [Zs,List.filter_cons,ea];have e2:(cW φ i).2=i.2:=rfl;rw [e2];by_cases hc:(!i.2.1 && aw is i.1.1)=true
   ·rw [if_pos hc,if_pos hc];simp only [Zs];simp only [Zr,Bool.not_eq_true'] at hc;rw [ih];congr 1;exact nowE ((PL.nm _).2 hc.2) ((PL.nm _).2 (hi.2 hc.1))
   ·rw [if_neg hc,if_neg hc];exact ih
 have hwt:(bt aS fM s (ck O).2.1).map (cz f)=(W.after true).wait.map (bs (di f φ)):=by
  rw [hq]
  show _=(bt aw iX (W.pass true).1 (W.pass true).2.1).map _
  rw [his];have hok:=P.ok;have hsh:∀ f ∈ (W.pass true).2.1,aw is f.1=true->aw is f.2=true:=λf hf h=>P.shut f.1 f.2 h (.inr (.inr (.inr ⟨(hok f hf).2.1,hf⟩)));clear hcnt
  revert hok hsh
  generalize (W.pass true).2.1=mm;unfold bt;intro hok hsh
  induction mm with
  | nil=>rfl
  | cons g mm ih=>
   have ih:=ih (λg hg=>hok g (by simp [hg])) (λg hg=>hsh g (by simp [hg]));have hg:=hok g (by simp);have ea:aS s (bs φ g).1=aw is g.1:=by rw [dR];exact P.alive R hg.1
   simp only [Zs,List.filter_cons,ea];by_cases hc:aw is g.1=true
   ·rw [if_pos hc,if_pos hc];simp only [Zs];rw [ih];congr 1;exact nowE ((PL.nm _).2 hc) ((PL.nm _).2 (hsh g (by simp) hc))
   ·rw [if_neg hc,if_neg hc];exact ih
 have hrt:O.rt.map (cB f)=W.roots.map (az (di f φ)):=by
  rw [R.rt,List.map_map];refine Zf λv hv=>?_;refine nowV (R.hw.rv v hv) (λh3=>(PL.nm _).2 (m.first _ ?_));have hl:=Wd.aY (R.hw.rv v hv) h3;exact Wd.gC.2 ⟨hl.1,hl.2.1, .inr (by rw [<-h3];exact hv)⟩
 have hE64:∀ e,(W.after true).dL e->rU (bs (di f φ) e):=λe he=>by
  have h1:=place (lv.1 he.1);have h2:=place (lv.1 he.2.2);constructor
  ·show bm (4*di f φ e.1+1);unfold bm;omega
  ·show bm (4*di f φ e.2+1);unfold bm;omega
 refine ⟨rfl,N,di f φ,PL.eq,hth,λi hi=>lv.2 hi,⟨⟨okB,?_,λx hx=>?_,λe he=>?_,λe he=>?_,?_,by simpa using R.ho.hc⟩,hokA,by rw [hth];exact (by rw [by_];rfl),tz,λi j hi hj e=>inj i j (lv.1 hi) (lv.1 hj) e,λp hp=>?_,λi hi ho=>?_,λi hi ho=>?_,λi hi=>?_,λi hi j v hv=>?_,
  hrt,hrg,hwt,?_,?_,by rw [Zp];exact R.cl,λi hi ho v hv h3 hy=>?_⟩⟩
 ·show (O.rt.map _).length=12
  rw [Zp];exact R.ho.h12
 ·have hx':x ∈ O.rt.map (cB f):=hx;rw [hrt] at hx';obtain ⟨v,hv,rfl⟩:=Zi.1 hx';exact T.bm (R.hw.rv v hv) (λh3=>m.first _ (by
   have hl:=Wd.aY (R.hw.rv v hv) h3
   exact Wd.gC.2 ⟨hl.1,hl.2.1, .inr (by rw [<-h3];exact hv)⟩))
 ·have he':e ∈ (bq aS fM s (ck O).2.2).map (cz f):=he;rw [hrg] at he';obtain ⟨g,hg,rfl⟩:=Zi.1 he';exact hE64 g (hokA.gv g hg)
 ·have he':e ∈ (bt aS fM s (ck O).2.1).map (cz f):=he;rw [hwt] at he';obtain ⟨g,hg,rfl⟩:=Zi.1 he';exact hE64 g (hokA.wv g hg)
 ·show ((bq aS fM s (ck O).2.2).map (cz f)).length+((bt aS fM s (ck O).2.1).map (cz f)).length<=24
  rw [hrg,hwt,Zp,Zp];exact hokA.hq
 ·have hp':p ∈ B.aO.1\/p ∈ B.aO.2:=hp;rw [hth] at hp';dsimp only at hp';rcases hp' with h | h
  ·cases h
  ·obtain ⟨i,hi,rfl⟩:=Zi.1 h;exact ⟨i,lv.2 hi,rfl⟩
 ·rw [olda (lv.1 hi)] at ho;cases ho
 ·show di f φ i ∈ B.aO.2
  rw [hth];exact Zi.2 ⟨i,lv.1 hi,rfl⟩
 ·have hb:=lv.1 hi
  show B.ah _=_
  rw [thB hb,tha hb,lY,clen hb]
 ·have hb:=lv.1 hi;rw [tha hb] at hv;have hj:=(Zj.1 hv).1;rw [clen hb] at hj
  show B.load _=_
  rw [Int.add_assoc,ldB hb (1+(j:Int)) (by omega) (by omega),<-Int.add_assoc];have hv':(my W is i)[j]? = some v:=hv;rw [zE R.hw P.shut (lvN hb) (isN hb),Zw] at hv';have e2:(W.th i).fs[j]? = some (W.th i).fs[j]:=Le hj;rw [e2] at hv';simp only [Option.map_some,Option.some.injEq] at hv';rw [<-hv'];exact (t6 i hb).2 j _ e2
 ·show (B.nur:Int)=W.most
  rw [bn];exact R.nur
 ·show (B.ws.length:Int)=W.most+W.grow
  rw [blen];exact R.len
 ·have hl3:(W.after true).live v.2:=Wd.aY (hokA.tv i hi v hv) h3;rw [olda (lv.1 hl3)] at hy;cases hy
theorem aI.major (R:aI O W φ):(ed O).1=(W.cut true).1/\∃ ψ,aI (ed O).2 (W.cut true).2 ψ:=by
 by_cases hfull:e9 (W.pass true).1 W.T > W.grow
 ·have hsy:=R.sy;have hso:=R.so;have hnur:=R.nur;have hlen:=R.len;have PL:=R.zF;generalize Exists.choose _=N at PL;have e1:ed O=(3,O):=by unfold ed;rw [if_pos (by rw [PL.sum];omega)]
  rw [e1,W.uz hfull];exact ⟨rfl,φ,R⟩
 ·obtain ⟨e,-,ψ,-,-,-,R'⟩:=R.CJ hfull;rw [W.yn hfull];exact ⟨e,ψ,R'⟩
end
end
section
def Wo.a5 (O:Wo) (k:Int):Int:=O.rt.getD k.toNat 0
def Wo.j4 (O:Wo) (r x:Int):Wo:={ O with rt:=O.rt.set r.toNat x }
def Wo.room (O:Wo) (n:Int):Int × Wo:=
 if n<=(O.ar.nur:Int)-O.ar.yng then (0,O)
 else if (O.ar.yng:Int)<=(O.ar.ws.length:Int)-O.ar.grn then ir O else ed O
def storesA (A:Ar) (p:Int):List Int->Ar
 | []=>A
 | x :: l=>storesA (A.store p x) (p+1) l
def Wo.lay (P:Wo) (r k:Int) (fr:List Int):Wo:=
 { P with ar:=storesA (P.ar.make k fr.length).2 ((P.ar.make k fr.length).1+1) (fr.map P.a5),rt:=P.rt.set r.toNat (iq (P.ar.make k fr.length).1) }
def Wo.bz (O:Wo) (r k:Int) (fr:List Int):Int × Wo:=
 if (O.room (1+fr.length)).1=0 then (0,(O.room (1+fr.length)).2.lay r k fr) else O.room (1+fr.length)
def Wo.kv (O:Wo) (x:Int):Bool:=decide ((O.ar.aW x).2.2.2=0) && decide ((O.ar.aW x).2.1=5)
def Wo.eZ (O:Wo) (a b:Int):Int × Wo:=
 if (O.ar.aW (O.a5 a)).2.2.2≠0 then ((O.ar.aW (O.a5 a)).2.2.2,O)
 else if O.kv (O.a5 b)=false then (2,O)
 else if 24<=O.rg.length+O.wt.length then (3,O)
 else (0, { O with rg:=O.rg ++ [(O.a5 b,O.a5 a)] })
def Wo.pop (O:Wo) (r a:Int):Int × Wo:=
 if O.kv (O.a5 a)=false then (2,O)
 else match popW O.wt (O.a5 a) with
  | none=>(4,O)
  | some q=>(0, { O with wt:=q.2,rt:=O.rt.set r.toNat q.1 })
def Wo.iA (O:Wo) (r:Int) (q:Int × Int):Int × Wo:=if q.2=0 then (0,O.j4 r q.1) else (q.2,O)
def Wo.qm (O:Wo) (x:Int):Int × Int:=
 if (O.ar.aW x).2.2.2=0/\(O.ar.aW x).2.1=5 then (4*(O.ar.aW x).2.2.1,2) else (4*(O.ar.aW x).2.2.1,(O.ar.aW x).2.2.2)
def Wo.step (O:Wo) (x:St):Int × Wo:=
 if x.k=1 then (0,O.j4 x.r (4*x.n))
 else if x.k=2 then (0,O.j4 x.r 2)
 else if x.k=3 then (0,O.j4 x.r (O.a5 x.a))
 else if x.k=4 then O.bz x.r 1 [x.a,x.b]
 else if x.k=5 then O.bz x.r 2 (List.replicate x.n.toNat x.a)
 else if x.k=6 then O.bz x.r 3 [x.a,x.b]
 else if x.k=7 then O.bz x.r 4 [x.a,x.b]
 else if x.k=8 then O.bz x.r 5 []
 else if x.k=9 then O.eZ x.a x.b
 else if x.k=10 then O.pop x.r x.a
 else if x.k=11 then O.iA x.r (O.ar.get (O.a5 x.a) x.i)
 else if x.k=12 then O.set (O.a5 x.a) x.i (O.a5 x.b)
 else if x.k=13 then O.iA x.r (O.qm (O.a5 x.a))
 else if x.k=14 then (0,O.j4 x.r (4*if O.a5 x.a=O.a5 x.b then 1 else 0))
 else if x.k=15 then ir O
 else ed O
def Wo.do (O:Wo) (x:St):Int × Wo:=if bu x=0 then O.step x else (bu x,O)
theorem uA (A:Ar):∀ (l:List Int) (p:Int),(storesA A p l).nur=A.nur/\(storesA A p l).yng=A.yng/\(storesA A p l).grn=A.grn/\(storesA A p l).ws.length=A.ws.length:=by
 intro l
 induction l generalizing A with
 | nil=>intro p;exact ⟨rfl,rfl,rfl,rfl⟩
 | cons x l ih=>
  intro p;obtain ⟨h1,h2,h3,h4⟩:=ih (A.store p x) (p+1);exact ⟨h1.trans (A.cZ p x),h2.trans (A.fH p x),h3.trans (A.dO p x),h4.trans (A.lX p x)⟩
theorem xz {A:Ar} (h:A.ok):∀ (l:List Int) (p:Int),(∀ x ∈ l,bm x)->(storesA A p l).ok:=by
 intro l
 induction l generalizing A with
 | nil=>intro p _;exact h
 | cons x l ih=>intro p hx;exact ih (h.store p x (hx x (by simp))) (p+1) λy hy=>hx y (by simp [hy])
theorem yo (A:Ar) (p x q:Int):(A.store p x).aM q=A.aM q:=by
 unfold Ar.aM Ar.aA Ar.aK;rw [A.fH,A.cZ,A.dO]
theorem uB {A:Ar} (h:A.ok):∀ (l:List Int) (p:Int),(∀ x ∈ l,bm x)->(∀ j:Nat,j<l.length->A.aM (p+j)=true)->∀ q:Int,(storesA A p l).load q=if p<=q/\q<p+l.length then l.getD (q-p).toNat 0 else A.load q:=by
 intro l
 induction l generalizing A with
 | nil=>intro p _ _ q;rw [if_neg (λh=>by have h2:=h.2;simp only [List.length_nil] at h2;omega)];rfl
 | cons x l ih=>
  intro p hx hu q;have hp:A.aM p=true:=by have:=hu 0 (by simp);simpa using this
  show (storesA (A.store p x) (p+1) l).load q=_
  rw [ih (h.store p x (hx x (by simp))) (p+1) (λy hy=>hx y (by simp [hy])) (λj hj=>by
   rw [yo];have:=hu (j+1) (by simp;omega)
   rwa [show p+((j+1:Nat):Int)=p+1+(j:Int) by omega] at this) q,Ar.fh h]
  simp only [List.length_cons];by_cases c:q=p
  ·subst c;rw [if_neg (by omega),if_pos ⟨rfl,hp⟩,if_pos (by omega)];simp
  ·rw [if_neg (c:=q=p/\_) (λh=>c h.1)];by_cases c2:p+1<=q/\q<p+1+l.length
   ·rw [if_pos c2,if_pos (by omega),show (q-p).toNat=(q-(p+1)).toNat+1 by omega]
    rfl
   ·rw [if_neg c2,if_neg (by omega)]
section
variable {O:Wo} {W:Wd} {φ:Int->Int}
theorem aI.a5 (R:aI O W φ) {k:Int} (hk:bO k=true):O.a5 k=az φ (W.rt k):=by
 have h12:=R.hw.hr;simp only [bO,Zr,decide_eq_true_eq] at hk;unfold Wo.a5 Wd.rt;rw [R.rt];simp only [Ld,Zw];rw [Le (by omega)];rfl
theorem aI.room (R:aI O W φ) (n:Int):(O.room n).1=(W.room n).1/\∃ ψ,aI (O.room n).2 (W.room n).2 ψ:=by
 have h1:=R.sy;have h2:=R.so;have h3:=R.nur;have h4:=R.len;unfold Wo.room Wd.room;by_cases c:n<=(O.ar.nur:Int)-O.ar.yng
 ·rw [if_pos c,if_neg (by omega)];exact ⟨rfl,φ,R⟩
 ·rw [if_neg c,if_pos (c:=n > W.most-W.aA) (by omega)];by_cases c2:(O.ar.yng:Int)<=(O.ar.ws.length:Int)-O.ar.grn
  ·rw [if_pos c2,show decide (W.aA > W.grow-W.cD)=false from decide_eq_false (by omega)];exact aI.minor R
  ·rw [if_neg c2,show decide (W.aA > W.grow-W.cD)=true from decide_eq_true (by omega)];exact aI.major R
theorem Wd.Bp (W:Wd) {n:Int} (h:(W.room n).1≠0):(W.room n).2=W:=by
 unfold Wd.room at *;split
 ·rename_i c;rw [if_pos c] at h;unfold Wd.cut at *;split
  ·rfl
  ·rename_i c1;rw [if_neg c1] at h;split
   ·rfl
   ·rename_i c2;rw [if_neg c2] at h;exact (h rfl).elim
 ·rfl
theorem wG {x:Int} (h0:0<=x) (h1:x<=1000000):iq x=4*x+1:=IntWalk.i64_in _ (by omega)
theorem aI.lay {P:Wo} {V:Wd} {ψ:Int->Int} (R:aI P V ψ) {k r:Int} {fr:List Int} (hf:bj k fr.length=true) (hr:1+(fr.length:Int)<=(P.ar.nur:Int)-P.ar.yng) (hk:∀ x ∈ fr,bO x=true) :
  aI (P.lay r k fr) (V.put r k (fr.map V.rt)) (lK V.T.length P.ar.yng ψ):=by
 have ha:=R.ho.ha;have a1:=ha.h1;have a2:=ha.h2;have a3:=ha.h3;have a4:=ha.h4;obtain ⟨m1,m2,m3,m4,m5,m6,m7⟩:=Ar.xq ha ⟨hf,hr⟩;have e1:(P.ar.make k fr.length).1=(P.ar.yng:Int):=by rw [Ar.pV ⟨hf,hr⟩]
 have hmo:=ha.make k fr.length;have hl:fr.map P.a5=fr.map (λx=>az ψ (V.rt x)):=Zf λx hx=>R.a5 (hk x hx);have hR:∀ x ∈ fr.map P.a5,bm x:=λx hx=>by
  rw [hl] at hx;obtain ⟨y,hy,rfl⟩:=Zi.1 hx;exact qj R (Wd.g8 R.hw _)
 have hU:∀ j:Nat,j<(fr.map P.a5).length->(P.ar.make k fr.length).2.aM ((P.ar.yng:Int)+1+j)=true:=λj hj=>by
  rw [Zp] at hj;unfold Ar.aM Ar.aA;rw [Bool.or_eq_true];left;simp;omega
 have SK:=uA (P.ar.make k fr.length).2 (fr.map P.a5) ((P.ar.yng:Int)+1);have SL:=uB hmo (fr.map P.a5) ((P.ar.yng:Int)+1) hR hU;have hlen:((fr.map V.rt).length:Int)=fr.length:=by simp
 unfold Wo.lay;rw [e1,wG (by omega) (by omega)];refine R.put (xz hmo _ _ hR) (SK.1.trans m5) (SK.2.2.1.trans m6) (SK.2.2.2.trans m7) (by rw [SK.2.1,hlen];exact m4) (λq hq=>?_) ?_ (λj v hv=>?_) (λv hv=>?_) (by rw [Zp];exact hf)
 ·rw [SL q,if_neg,m1 q hq];rintro ⟨h1,h2⟩;simp only [Zp] at h2;have:P.ar.aA q=false:=by
   cases hy:P.ar.aA q
   ·rfl
   ·have:=Proofs.YtjifdalflepcoadGreat.bU.1 hy;omega
  have h3:P.ar.aK q=true:=by unfold Ar.aM at hq;rw [this] at hq;exact hq
  have:=Proofs.YtjifdalflepcoadGreat.dq.1 h3;omega
 ·unfold Ar.ah;rw [SL,if_neg (by omega),m2,ye hf,hlen]
 ·rw [Zw] at hv;cases hj:fr[j]? with
  | none=>rw [hj] at hv;cases hv
  | some y=>
   rw [hj] at hv;simp only [Option.map_some,Option.some.injEq] at hv;have hjl:=(Zj.1 hj).1;rw [SL,if_pos (by rw [Zp];omega),hl,show ((P.ar.yng:Int)+1+(j:Int)-((P.ar.yng:Int)+1)).toNat=j by omega];simp only [Ld,Zw,hj,Option.map_some,Option.getD_some,hv]
 ·obtain ⟨y,hy,rfl⟩:=Zi.1 hv;exact Wd.g8 R.hw _
theorem aI.bz (R:aI O W φ) {k r:Int} {fr:List Int} (hf:bj k fr.length=true) (hk:∀ x ∈ fr,bO x=true) :
  (O.bz r k fr).1=(W.bz r k fr).1/\∃ ψ,aI (O.bz r k fr).2 (W.bz r k fr).2 ψ:=by
 have hfl:=bL hf;obtain ⟨e,ψ,R2⟩:=R.room (1+fr.length);have hro:=R.hw.room (1+fr.length) (by omega);unfold Wo.bz Wd.bz;by_cases c:(W.room (1+fr.length)).1=0
 ·rw [if_pos c,if_pos (e.trans c)];refine ⟨rfl,_,R2.lay hf ?_ hk⟩;have:=hro.2 c;have:=R2.sy;have:=R2.nur;omega
 ·rw [if_neg c,if_neg (by rw [e];exact c)];rw [Wd.Bp W c] at R2;exact ⟨e,ψ,R2⟩
theorem Wd.eF {k:Int} (hok:W.ok):W.ah k<0↔(W.rt k).1≠3:=by
 unfold Wd.ah;by_cases h3:(W.rt k).1=3
 ·rw [if_pos h3];have:=(Wd.aY (Wd.g8 hok k) h3).1;constructor
  ·intro;omega
  ·intro h;exact (h h3).elim
 ·rw [if_neg h3];exact ⟨λ_=>h3,λ_=>by omega⟩
theorem aI.kv (R:aI O W φ) {k:Int} (hk:bO k=true):O.kv (O.a5 k)=false↔W.guard k<0:=by
 unfold Wo.kv;rw [R.a5 hk,R.aW (Wd.g8 R.hw k)];unfold Wd.guard;by_cases h3:(W.rt k).1=3
 ·have et:W.ah k=(W.rt k).2:=if_pos h3;have hlv:=Wd.aY (Wd.g8 R.hw k) h3;have:=hlv.1;rw [if_pos h3,et];by_cases c:(W.th (W.rt k).2).k=5
  ·rw [if_neg (by omega)];simp [c];omega
  ·rw [if_pos (.inr c)];simp [c]
 ·rw [if_neg h3,if_pos (.inl ((Wd.eF R.hw).2 h3))];simp
theorem uC {g:Int} (hg:W.live g) (hinj:∀ i j,W.live i->W.live j->φ i=φ j->i=j):∀ (l:List (Int × Int)),(∀ e ∈ l,W.dL e)->popW (l.map (bs φ)) (4*φ g+1)=(popW l g).map λr=>(4*φ r.1+1,r.2.map (bs φ))
 | [],_=>rfl
 | e :: l,h=>by
  have ih:=uC hg hinj l λx hx=>h x (by simp [hx]);have he:=(h e (by simp)).1;rw [Zs];unfold popW;by_cases c:e.1=g
  ·rw [if_pos c,if_pos (by unfold bs;dsimp only;rw [c])];rfl
  ·rw [if_neg c,if_neg (by unfold bs;dsimp only;intro hh;exact c (hinj _ _ he hg (by omega))),ih];cases popW l g <;> rfl
theorem aI.Ej (R:aI O W φ) {wt:List (Int × Int)} (h1:∀ e ∈ wt,e ∈ W.wait) (h2:wt.length<=W.wait.length):aI { O with wt:=wt.map (bs φ) } { W with wait:=wt } φ:=by
 have e1:O.wt.length=W.wait.length:=by rw [R.wt];simp
 refine ⟨⟨R.ho.ha,R.ho.h12,R.ho.hR,R.ho.hg,λx hx=>?_,?_,R.ho.hc⟩,?_,R.ty,R.tz,R.inj,R.onto,R.iny,R.ino,R.th,R.fl,R.rt,R.rg,rfl,R.nur,R.len,R.cl,R.card⟩
 ·obtain ⟨e,he,rfl⟩:=Zi.1 hx;refine R.ho.hw _ ?_;rw [R.wt];exact Zi.2 ⟨e,h1 e he,rfl⟩
 ·have:=R.ho.hq
  show O.rg.length+(wt.map _).length<=24
  rw [Zp];omega
 ·have h:=R.hw;refine ⟨h.hr,h.rv,h.tk,h.tv,h.gv,λx hx=>h.wv x (h1 x hx),?_,h.m1,h.m2,h.g1,h.g2,h.uy,h.uo⟩;have:=h.hq
  show W.ai.length+wt.length<=24
  omega
theorem aI.pop (R:aI O W φ) {x:St} (hk:bO x.a=true):(O.pop x.r x.a).1=(W.pop x).1/\∃ ψ,aI (O.pop x.r x.a).2 (W.pop x).2 ψ:=by
 unfold Wo.pop Wd.pop;by_cases c:W.guard x.a<0
 ·rw [if_pos c,if_pos ((R.kv hk).2 c)];exact ⟨rfl,φ,R⟩
 ·rw [if_neg c,if_neg (λh=>c ((R.kv hk).1 h))];have hg:=Wd.np R.hw c;have e:O.a5 x.a=4*φ (W.guard x.a)+1:=by
   rw [R.a5 hk];have hne:¬ (W.ah x.a<0\/(W.th (W.ah x.a)).k≠5):=λh=>by unfold Wd.guard at c;rw [if_pos h] at c;omega
   have h3:(W.rt x.a).1=3:=Decidable.byContradiction λh=>hne (.inl ((Wd.eF R.hw).2 h));have:W.guard x.a=(W.rt x.a).2:=by unfold Wd.guard;rw [if_neg hne];unfold Wd.ah;rw [if_pos h3]
   rw [this,bK φ h3]
  rw [e,R.wt,uC hg.1 R.inj _ R.hw.wv];cases hp:popW W.wait (W.guard x.a) with
  | none=>exact ⟨rfl,φ,R⟩
  | some q=>
   have hm:=lH hp;have R2:=R.Ej (wt:=q.2) hm.2.1 (by omega);have hv:({ W with wait:=q.2 }:Wd).cI (3,q.1):=.inr (.inr (.inr ⟨rfl,(R.hw.wv _ hm.1).2.2⟩));have R3:=R2.bF hv x.r;exact ⟨rfl,φ,R3⟩
theorem aI.do (R:aI O W φ) (x:St):(O.do x).1=(W.do x).1/\∃ ψ,aI (O.do x).2 (W.do x).2 ψ:=by
 unfold Wo.do Wd.do
 by_cases hc:¬ bu x=0
 ·rw [if_neg hc,if_neg hc];exact ⟨rfl,φ,R⟩
 have hc:bu x=0:=Decidable.not_not.1 hc;rw [if_pos hc,if_pos hc];have hu:=aF hc;have ok:∀ k,W.cI (W.rt k):=λk=>Wd.g8 R.hw k;unfold Wo.step Wd.step;by_cases k1:x.k=1
 ·rw [if_pos k1,if_pos k1];exact ⟨rfl,φ,R.bF (Wd.jl (hu.2.2.2.2.1 k1).1 (hu.2.2.2.2.1 k1).2) _⟩
 rw [if_neg k1,if_neg k1];by_cases k2:x.k=2
 ·rw [if_pos k2,if_pos k2];exact ⟨rfl,φ,R.bF (v:=(0,0)) (.inl ⟨rfl,rfl⟩) _⟩
 rw [if_neg k2,if_neg k2];by_cases k3:x.k=3
 ·rw [if_pos k3,if_pos k3];have ha:bO x.a=true:=hu.2.2.1 (by rw [k3];rfl);rw [R.a5 ha];exact ⟨rfl,φ,R.bF (ok _) _⟩
 rw [if_neg k3,if_neg k3];by_cases k4:x.k=4
 ·rw [if_pos k4,if_pos k4];have ha:bO x.a=true:=hu.2.2.1 (by rw [k4];rfl);have hb:bO x.b=true:=hu.2.2.2.1 (by rw [k4];rfl);exact R.bz rfl (by simp [ha,hb])
 rw [if_neg k4,if_neg k4];by_cases k5:x.k=5
 ·rw [if_pos k5,if_pos k5];have ha:bO x.a=true:=hu.2.2.1 (by rw [k5];rfl);have h5:=hu.2.2.2.2.2 k5;refine R.bz ?_ λy hy=>by rw [(List.mem_replicate.1 hy).2];exact ha
  simp [bj];omega
 rw [if_neg k5,if_neg k5];by_cases k6:x.k=6
 ·rw [if_pos k6,if_pos k6];have ha:bO x.a=true:=hu.2.2.1 (by rw [k6];rfl);have hb:bO x.b=true:=hu.2.2.2.1 (by rw [k6];rfl);exact R.bz rfl (by simp [ha,hb])
 rw [if_neg k6,if_neg k6];by_cases k7:x.k=7
 ·rw [if_pos k7,if_pos k7];have ha:bO x.a=true:=hu.2.2.1 (by rw [k7];rfl);have hb:bO x.b=true:=hu.2.2.2.1 (by rw [k7];rfl);exact R.bz rfl (by simp [ha,hb])
 rw [if_neg k7,if_neg k7];by_cases k8:x.k=8
 ·rw [if_pos k8,if_pos k8];exact R.bz rfl (by simp)
 rw [if_neg k8,if_neg k8];by_cases k9:x.k=9
 ·rw [if_pos k9,if_pos k9];have ha:bO x.a=true:=hu.2.2.1 (by rw [k9];rfl);have hb:bO x.b=true:=hu.2.2.2.1 (by rw [k9];rfl);unfold Wo.eZ Wd.eZ;have tA:=R.aW (ok x.a);rw [<-R.a5 ha] at tA;by_cases h3:¬ (W.rt x.a).1=3
  ·rw [if_neg h3] at tA;rw [tA,if_pos (by decide),if_pos (.inl ((Wd.eF R.hw).2 h3))];exact ⟨rfl,φ,R⟩
  have h3:(W.rt x.a).1=3:=Decidable.not_not.1 h3;rw [if_pos h3] at tA;rw [tA];dsimp only;rw [if_neg (show ¬ (0:Int)≠0 by decide)];by_cases c:W.guard x.b<0
  ·rw [if_pos ((R.kv hb).2 c),if_pos (.inr c)];exact ⟨rfl,φ,R⟩
  have hna:¬ W.ah x.a<0:=λh=>(Wd.eF R.hw).1 h h3;have n1:¬ O.kv (O.a5 x.b)=false:=λh=>c ((R.kv hb).1 h);have n2:¬ (W.ah x.a<0\/W.guard x.b<0):=λh=>by rcases h with h | h;exact hna h;exact c h
  rw [if_neg n1,if_neg n2];have e1:O.rg.length=W.ai.length:=by rw [R.rg];simp
  have e2:O.wt.length=W.wait.length:=by rw [R.wt];simp
  rw [e1,e2];by_cases c2:24<=W.ai.length+W.wait.length
  ·rw [if_pos c2,if_pos c2];exact ⟨rfl,φ,R⟩
  rw [if_neg c2,if_neg c2];have hg:=Wd.np R.hw c;have hla:=Wd.dg R.hw hna;have hE:W.dL (W.guard x.b,W.ah x.a):=⟨hg.1,hg.2.1,hla⟩;have eA:O.a5 x.a=4*φ (W.ah x.a)+1:=by rw [R.a5 ha,bK φ h3];unfold Wd.ah;rw [if_pos h3]
  have eB:O.a5 x.b=4*φ (W.guard x.b)+1:=by
   rw [R.a5 hb];have hne:¬ (W.ah x.b<0\/(W.th (W.ah x.b)).k≠5):=λh=>by unfold Wd.guard at c;rw [if_pos h] at c;omega
   have h3:(W.rt x.b).1=3:=Decidable.byContradiction λh=>hne (.inl ((Wd.eF R.hw).2 h));have:W.guard x.b=(W.rt x.b).2:=by unfold Wd.guard;rw [if_neg hne];unfold Wd.ah;rw [if_pos h3]
   rw [this,bK φ h3]
  refine ⟨rfl,φ,?_⟩;rw [eA,eB];exact aI.eZ R hE (by omega)
 rw [if_neg k9,if_neg k9];by_cases k10:x.k=10
 ·rw [if_pos k10,if_pos k10];exact R.pop (hu.2.2.1 (by rw [k10];rfl))
 rw [if_neg k10,if_neg k10];have h3t:∀ k,(W.rt k).1=3->W.ah k=(W.rt k).2:=λk h=>if_pos h;have hfc:(if (W.rt x.a).1≠3\/(W.th (W.rt x.a).2).k=5 then (2:Int) else if x.i<0\/((W.th (W.rt x.a).2).fs.length:Int)<=x.i then 1 else 0)=W.bP x:=by
  unfold Wd.bP;by_cases h3:(W.rt x.a).1=3
  ·have hna:¬ W.ah x.a<0:=λh=>(Wd.eF R.hw).1 h h3;rw [h3t _ h3];rw [h3t _ h3] at hna;by_cases c:(W.th (W.rt x.a).2).k=5
   ·rw [if_pos (.inr c),if_pos (.inr c)]
   ·have n1:¬ ((W.rt x.a).1≠3\/(W.th (W.rt x.a).2).k=5):=λh=>by rcases h with h | h;exact h h3;exact c h
    have n2:¬ ((W.rt x.a).2<0\/(W.th (W.rt x.a).2).k=5):=λh=>by rcases h with h | h;exact hna h;exact c h
    rw [if_neg n1,if_neg n2]
  ·rw [if_pos (.inl h3),if_pos (.inl ((Wd.eF R.hw).2 h3))]
 by_cases k11:x.k=11
 ·rw [if_pos k11,if_pos k11];have ha:bO x.a=true:=hu.2.2.1 (by rw [k11];rfl);rw [R.a5 ha,R.get (ok x.a)];unfold Wo.iA Wd.get;rw [<-hfc];by_cases c1:(W.rt x.a).1≠3\/(W.th (W.rt x.a).2).k=5
  ·simp only [if_pos c1];exact ⟨rfl,φ,R⟩
  ·simp only [if_neg c1];by_cases c2:x.i<0\/((W.th (W.rt x.a).2).fs.length:Int)<=x.i
   ·simp only [if_pos c2];exact ⟨rfl,φ,R⟩
   ·simp only [if_neg c2];have h3:(W.rt x.a).1=3:=Decidable.byContradiction λh=>c1 (.inl h);rw [h3t _ h3];refine ⟨rfl,φ,R.bF ?_ _⟩;refine R.hw.tv _ (Wd.aY (ok x.a) h3) _ ?_;have hl:x.i.toNat<(W.th (W.rt x.a).2).fs.length:=by omega
    rw [Ld,Le hl];exact Ze _
 rw [if_neg k11,if_neg k11];by_cases k12:x.k=12
 ·rw [if_pos k12,if_pos k12];have ha:bO x.a=true:=hu.2.2.1 (by rw [k12];rfl);have hb:bO x.b=true:=hu.2.2.2.1 (by rw [k12];rfl);rw [R.a5 ha,R.a5 hb];obtain ⟨s1,s2,s3⟩:=aI.set R (ok x.a) (ok x.b) x.i;unfold Wd.set;rw [hfc] at s1;by_cases c:W.bP x=0
  ·rw [if_pos c];have h3:(W.rt x.a).1=3:=Decidable.byContradiction λh=>by rw [<-hfc,if_pos (.inl h)] at c;cases c
   rw [h3t _ h3];exact ⟨s1.trans c,φ,s3 (s1.trans c)⟩
  ·rw [if_neg c];rw [s2 (by rw [s1];exact c)];exact ⟨s1,φ,R⟩
 rw [if_neg k12,if_neg k12];by_cases k13:x.k=13
 ·rw [if_pos k13,if_pos k13];have ha:bO x.a=true:=hu.2.2.1 (by rw [k13];rfl);unfold Wo.qm Wd.len;rw [R.a5 ha,R.aW (ok x.a)];by_cases h3:(W.rt x.a).1=3
  ·have hna:¬ W.ah x.a<0:=λh=>(Wd.eF R.hw).1 h h3;have hlv:=Wd.aY (ok x.a) h3;rw [if_pos h3];by_cases c:(W.th (W.rt x.a).2).k=5
   ·have n2:W.ah x.a<0\/(W.th (W.ah x.a)).k=5:=.inr (by rw [h3t _ h3];exact c);rw [if_pos n2];dsimp only;rw [if_pos ⟨rfl,c⟩];exact ⟨rfl,φ,R⟩
   ·have n2:¬ (W.ah x.a<0\/(W.th (W.ah x.a)).k=5):=λh=>by rcases h with h | h;exact hna h;rw [h3t _ h3] at h;exact c h
    rw [if_neg n2];dsimp only;rw [if_neg (λh=>c h.2)];unfold Wo.iA;rw [if_pos rfl,h3t _ h3];have hfl:=(bL (R.hw.tk _ hlv)).2;have hbg:cG=1152921504606846976:=rfl;have hn1:-cG<=((W.th (W.rt x.a).2).fs.length:Int):=by omega
    have hn2:((W.th (W.rt x.a).2).fs.length:Int)<cG:=by omega
    exact ⟨rfl,φ,R.bF (Wd.jl hn1 hn2) _⟩
  ·have n2:W.ah x.a<0\/(W.th (W.ah x.a)).k=5:=.inl ((Wd.eF R.hw).2 h3);rw [if_neg h3,if_pos n2];exact ⟨rfl,φ,R⟩
 rw [if_neg k13,if_neg k13];by_cases k14:x.k=14
 ·rw [if_pos k14,if_pos k14];have ha:bO x.a=true:=hu.2.2.1 (by rw [k14];rfl);have hb:bO x.b=true:=hu.2.2.2.1 (by rw [k14];rfl);rw [R.a5 ha,R.a5 hb];unfold Wd.same;have key:(az φ (W.rt x.a)=az φ (W.rt x.b))↔W.rt x.a=W.rt x.b:=by
   refine ⟨λh=>?_,λh=>by rw [h]⟩;have h1:=ok x.a;have h2:=ok x.b;generalize W.rt x.a=u at *;generalize W.rt x.b=v at *;obtain ⟨u1,u2⟩:=u;obtain ⟨v1,v2⟩:=v;unfold az at h;rcases h1 with a | a | a | a <;> rcases h2 with b | b | b | b
   all_goals (obtain ⟨a1,a2⟩:=a;obtain ⟨b1,b2⟩:=b;dsimp only at a1 a2 b1 b2 h;subst a1;subst b1)
   all_goals simp at h
   all_goals first | omega | skip
   ·rw [a2,b2]
   ·rw [show u2=v2 by omega]
   ·rw [a2,b2]
   ·rw [R.inj _ _ a2 b2 (by omega)]
  by_cases c:W.rt x.a=W.rt x.b
  ·rw [if_pos (key.2 c),if_pos c];exact ⟨rfl,φ,R.bF (Wd.jl (n:=1) (by decide) (by decide)) _⟩
  ·rw [if_neg (λh=>c (key.1 h)),if_neg c];exact ⟨rfl,φ,R.bF (Wd.jl (n:=0) (by decide) (by decide)) _⟩
 rw [if_neg k14,if_neg k14];by_cases k15:x.k=15
 ·rw [if_pos k15,if_pos k15];exact aI.minor R
 ·rw [if_neg k15,if_neg k15];exact aI.major R
end
end
section
open Go.RowKit
structure HH where
 p:Nat
 a:WH
def HH.Own (h:HH) (k:Nat):Prop:=k=h.p\/h.a.Own k
structure a8 (w:World) (h:HH) (O:Wo):Prop where
 hp:ak w h.p [.pointer (some ⟨h.a.p,0,none⟩)] 57
 H:bh w h.a O
def aV (w:World) (h:HH) (w':World) (O:Wo):Prop:=∃ h',a8 w' h' O/\h'.p=h.p/\aa h.Own w w'/\∀ k,h'.Own k->h.Own k\/w.heap.size<=k
section
variable {w w':World} {h:HH} {O O':Wo}
theorem a8.CK (B:a8 w h O):¬ h.a.Own h.p:=λh1=>by
 obtain ⟨c,T,hc,hT⟩:=B.H.bE h1;rcases hT with rfl | rfl | rfl | rfl | rfl | rfl | rfl <;> exact hc.ne B.hp (by decide) rfl
theorem a8.aZ (B:a8 w h O) {k:Nat} (hk:h.Own k):k<w.heap.size:=by
 rcases hk with rfl | hk
 ·exact B.hp.lt
 ·exact B.H.aZ hk
theorem a8.ab {S:Nat->Prop} (B:a8 w h O) (k:aa S w w') (hn:∀ b,h.Own b->¬ S b):a8 w' h O:=⟨k.au B.hp (hn _ (.inl rfl)),B.H.ab k (λb hb=>hn b (.inr hb))⟩
theorem a8.same (B:a8 w h O) (k:aa (λ_=>False) w w'):a8 w' h O:=B.ab k (λ_ _ h=>h)
theorem aV.same (B:a8 w h O) (k:aa (λ_=>False) w w'):aV w h w' O:=⟨h,B.same k,rfl,k.mono (λ_ _ h=>h.elim),λk hk=>.inl hk⟩
theorem aV.sa (B:a8 w h O) (t:gd w h.a w' O'):aV w h w' O':=by
 obtain ⟨h',H',e',k',o'⟩:=t;refine ⟨⟨h.p,h'⟩,⟨?_,H'⟩,rfl,k'.mono (λb _ hb=>.inr hb),λk hk=>?_⟩
 ·have:=k'.au B.hp B.CK;rw [<-e'] at this;exact this
 ·rcases hk with hk | hk
  ·exact .inl (.inl hk)
  ·exact (o' k hk).imp (λh=>.inr h) id
theorem aV.aL {w1:World} (k:aa (λ_=>False) w w1) (t:aV w1 h w' O'):aV w h w' O':=by
 obtain ⟨h1,H1,e1,k1,o1⟩:=t;exact ⟨h1,H1,e1,(k.mono (λ_ _ h=>h.elim)).trans k1,λb hb=>(o1 b hb).imp id (λh=>Za k.size h)⟩
theorem a8.CL (B:a8 w h O) (t:ku w h.a w' O'):a8 w' h O'/\aa h.Own w w':=by
 have kk:=t.2.mono (λk _ hk=>hk.own);exact ⟨⟨kk.au B.hp B.CK,t.1⟩,kk.mono (λb _ hb=>.inr hb)⟩
theorem a8.AA (B:a8 w h O) {g o cap k:Nat} {x:Int} (e:h.a.ro=.slice (some ⟨g,o,none⟩) 12 cap) (hk:k<12) (hx:bm x) :
  a8 (w.setCell ⟨g,o+k,none⟩ (.int .i64 x)) h (O.j4 k x)/\aa h.Own w (w.setCell ⟨g,o+k,none⟩ (.int .i64 x)):=by
 have h12:=B.H.ok.h12;obtain ⟨H',k'⟩:=B.H.r7 (k:=k) (x:=x) (by rw [h12];exact e) (by rw [h12];exact hk) hx;have kk:aa h.a.Own w (w.setCell ⟨g,o+k,none⟩ (.int .i64 x)):=k'.mono (λb _ hb=>.inr (.inr (.inr (.inr hb))));refine ⟨⟨kk.au B.hp B.CK,?_⟩,kk.mono (λb _ hb=>.inr hb)⟩;unfold Wo.j4;rw [Zt];exact H'
theorem a8.pc (B:a8 w h O):w.cell? ⟨h.p,0,none⟩=some (.pointer (some ⟨h.a.p,0,none⟩))/\h.p<w.heap.size:=⟨B.hp.cell 0,B.hp.lt⟩
theorem a8.roots (B:a8 w h O):∃ g o cap,h.a.ro=.slice (some ⟨g,o,none⟩) 12 cap/\aq h.a.ro g/\w.cell? ⟨h.a.p,0,none⟩=some (.pointer (some ⟨h.a.pa,0,none⟩))/\w.cell? ⟨h.a.p,3,none⟩=some (.slice (some ⟨g,o,none⟩) 12 cap)/\h.a.p<w.heap.size /\
  g<w.heap.size/\(∀ k,w.frozen? ⟨g,k,none⟩=false)/\∀ k:Nat,k<12->w.cell? ⟨g,o+k,none⟩=some (.int .i64 (O.a5 k)):=by
 have h12:=B.H.ok.h12;obtain ⟨g',o',cap',hro,hown,hgl,q3,fz,rcs⟩:=B.H.roots;rw [h12] at hro q3;refine ⟨g',o',cap',hro,hown,B.H.eJ.1,q3,B.H.hp.lt,hgl,fz,λk hk=>?_⟩;have:=rcs k (by omega);unfold Wo.a5;rw [Zt];exact this
theorem lp (h:O.ok) (k:Int):bm (O.a5 k):=by
 unfold Wo.a5;rw [Ld];by_cases hk:k.toNat<O.rt.length
 ·rw [Le hk];exact h.hR _ (Ze hk)
 ·rw [List.getElem?_eq_none (by omega)];unfold bm;decide
def Bq (w:World) (n o:Int) (e:Ending) (w':World):Prop:=
 ∃ h:HH,e=.returned (.tuple #[.pointer (some ⟨h.p,0,none⟩), .agg #[.int .i64 0, .int .i64 0]])/\a8 w' h (Wo.new n o)/\aa (λ_=>False) w w'/\∀ k,h.Own k->w.heap.size<=k
theorem uD (n o:Int) (w:World) (h:Ar.fits n o=true) :
  Calls Tryz.prog 18 #[.int .i64 n, .int .i64 o] w λe w'=>Bq w n o e w':=by
 go_enter Tryz.func18,Tryz.ntmps18;go_wp2_with fail;refine (zt n o _ h).mono ?_;rintro e w1 ⟨h,rfl,H1,k1,o1⟩;have ay:ak w1 w.heap.size [.int .i64 0, .int .i64 0] 33:=k1.au (ak.newAt _ rfl rfl) (λh=>h);have ka0:=(Kz w).alloc (.cells #[.int .i64 0, .int .i64 0] 33);have HK:=Hz (ka0.trans k1);have HA:=Hz H1;have HB:=Hz ay;have HO:Hd (∀ k,h.Own k->w.heap.size+1<=k):=λk hk=>by have:=o1 k hk;simpa using this
 clear H1 k1 o1 ay ka0;generalize hb0:w.heap.size=b0 at HB HO ⊢;have HSB:=Hz (Nat.le_of_eq hb0);have HB0:=Hz hb0.symm;clear hb0;go_upto_region 2 with (fail)
 have kb:=(Kz w1).alloc (.cells #[.int .i64 0, .int .i64 0] 33);have d0:(w1.alloc (.cells #[.int .i64 0, .int .i64 0] 33)).cell? ⟨w1.heap.size,0,none⟩=some (.int .i64 0):=(ak.new w1 [.int .i64 0, .int .i64 0] 33).cell 0;have dl:w1.heap.size<(w1.alloc (.cells #[.int .i64 0, .int .i64 0] 33)).heap.size:=by simp
 have HK2:=Hz (HK.o.trans kb);have HA2:=Hz (HA.o.ab kb (λ_ _ h=>h));have HB2:=Hz (kb.au HB.o (λh=>h));clear kb HK HA HB;generalize w1.alloc (.cells #[.int .i64 0, .int .i64 0] 33)=w2 at *;have f0:=HB2.o.free 0;have f1:=HB2.o.free 1;have c0:=HB2.o.cell 0;have c1:=HB2.o.cell 1;have cl:=HB2.o.lt;simp only [Lz,aB] at c0 c1;go_wp2_with fail;have set:=((aa.refl (·=b0) w2).setCell (p:=⟨b0,0,none⟩) (.inl rfl) (.int .i64 0)).setCell (p:=⟨b0,1,none⟩) (.inl rfl) (.int .i64 0);have ka:=(Kz ((w2.setCell ⟨b0,0,none⟩ (.int .i64 0)).setCell ⟨b0,1,none⟩ (.int .i64 0))).alloc (.cells #[.pointer (some ⟨h.p,0,none⟩)] 57);have hbN:=((HB2.o.aE 0 (.int .i64 0)).aE 1 (.int .i64 0)).alloc (.cells #[.pointer (some ⟨h.p,0,none⟩)] 57);have x0':=hbN.cell 0;have x1':=hbN.cell 1;simp only [Zu,Zv,Lz,aB] at x0' x1';refine bodyPost_ret (v:=.tuple #[.pointer (some ⟨w2.heap.size,0,none⟩), .agg #[.int .i64 0, .int .i64 0]]) (by simp [results,Tryz.results18,go_sem,x0',x1']) rfl ?_;refine ⟨⟨w2.heap.size,h⟩,rfl,⟨ak.newAt _ (by simp) rfl,(HA2.o.ab set (λb hb e=>by have:=HO.o b hb;omega)).ab ka (λ_ _ h=>h)⟩,?_,λk hk=>?_⟩
 ·refine (HK2.o.then set (λk hk=>.inr ?_)).trans ka;rw [hk];exact HSB.o
 ·rcases hk with rfl | hk
  ·exact HK2.o.size
  ·have:=HO.o k hk;have:=HSB.o;have:=HB0.o;omega
theorem Br (n o:Int) (w:World) (h:Ar.fits n o=false) :
  Calls Tryz.prog 18 #[.int .i64 n, .int .i64 o] w λe w'=>e=.returned (.tuple #[.pointer none, .agg #[.int .i64 1, .int .i64 (-1)]])/\aa (λ_=>False) w w':=by
 go_enter Tryz.func18,Tryz.ntmps18;go_wp2_with fail;refine (Bb n o _ h).mono ?_;rintro e w1 ⟨rfl,hk⟩;have ka0:=(Kz w).alloc (.cells #[.int .i64 0, .int .i64 0] 33);have ay:ak w1 w.heap.size [.int .i64 0, .int .i64 0] 33:=hk.au (ak.newAt _ rfl rfl) (λh=>h);have HK:=Hz (ka0.trans hk);have HB:=Hz ay;clear hk ay ka0;generalize hb0:w.heap.size=b0 at HB ⊢;have HSB:=Hz (Nat.le_of_eq hb0);clear hb0;go_upto_region 2 with (fail)
 have kb:=(Kz w1).alloc (.cells #[.int .i64 1, .int .i64 (-1)] 33);have hn:=ak.new w1 [.int .i64 1, .int .i64 (-1)] 33;have d0:(w1.alloc (.cells #[.int .i64 1, .int .i64 (-1)] 33)).cell? ⟨w1.heap.size,0,none⟩=some (.int .i64 1):=hn.cell 0;have d1:(w1.alloc (.cells #[.int .i64 1, .int .i64 (-1)] 33)).cell? ⟨w1.heap.size,1,none⟩=some (.int .i64 (-1)):=hn.cell 1;have dl:w1.heap.size<(w1.alloc (.cells #[.int .i64 1, .int .i64 (-1)] 33)).heap.size:=by simp
 have HK2:=Hz (HK.o.trans kb);have HB2:=Hz (kb.au HB.o (λh=>h));clear kb HK HB hn;generalize w1.alloc (.cells #[.int .i64 1, .int .i64 (-1)] 33)=w2 at *;have f0:=HB2.o.free 0;have f1:=HB2.o.free 1;have c0:=HB2.o.cell 0;have c1:=HB2.o.cell 1;have cl:=HB2.o.lt;simp only [Lz,aB] at c0 c1;go_wp2_with fail;refine a6 (.free 1 (.pure 0 (.run 2 (.swi [] (.fin))))) [2] (Fz d0 (Fa d1)) ?_
 iterate 2 refine Wz ?_
 refine aD rfl rfl rfl (λK hK=>?_);unfold ax;go_simp;refine hK _ _ ?_;clear hK K;refine aC (λ_=>True) trivial (av ?_);go_wp2_with fail;have hbN:=(HB2.o.aE 0 (.int .i64 1)).aE 1 (.int .i64 (-1));have x0':=hbN.cell 0;have x1':=hbN.cell 1;simp only [Zu,Zv,Lz,aB] at x0' x1';refine bodyPost_ret (v:=.tuple #[.pointer none, .agg #[.int .i64 1, .int .i64 (-1)]]) (by simp [results,Tryz.results18,go_sem,c0,c1,x0',x1']) rfl ⟨rfl,?_⟩;exact (HK2.o.drew.setCell (p:=⟨b0,0,none⟩) (.inr HSB.o) _).setCell (p:=⟨b0,1,none⟩) (.inr HSB.o) _
end
end
section
open Go.RowKit
theorem oP (A:Ar):∀ (l:List Int) (p x:Int),storesA A p (l ++ [x])=(storesA A p l).store (p+l.length) x
 | [],p,x=>by simp [storesA]
 | y :: l,p,x=>by
  show storesA (A.store p y) (p+1) (l ++ [x])=(storesA (A.store p y) (p+1) l).store _ x
  rw [oP _ l (p+1) x,List.length_cons];congr 1
  push_cast
  omega
def rj (w:World) (h:HH) (w':World) (O:Wo):Prop:=a8 w' h O/\aa h.Own w w'
theorem rj.to {w w':World} {h:HH} {O:Wo} (t:rj w h w' O):aV w h w' O:=⟨h,t.1,rfl,t.2,λk hk=>.inl hk⟩
theorem CM {w:World} {ao:Option Addr} {l:List Nat} (h:Rd w ao (l.map λ(k:Nat)=>Value.int .i64 (k:Int))) (i:Nat) (hi:i<l.length) :
  ∃ g o,ao=some ⟨g,o,none⟩/\g<w.heap.size/\w.cell? ⟨g,o+i,none⟩=some (.int .i64 ((l.getD i 0:Nat):Int)):=by
 obtain ⟨g,o,rfl,hg,hc⟩:=h (by intro e;simp at e;subst e;simp at hi);refine ⟨g,o,rfl,hg,?_⟩;rw [hc i (by simpa using hi)];simp [List.getD,hi]
section
variable {w w':World} {h:HH} {O O':Wo}
theorem iO (r:Nat) (x c:Int) (B:a8 w h O) (hr:r<12) (hx:bm x) :
  Calls Tryz.prog 27 #[.pointer (some ⟨h.p,0,none⟩), .int .i64 r, .int .i64 x, .int .i64 c] w λe w'=>e=.returned (.int .i64 (O.iA r (x,c)).1)/\rj w h w' (O.iA r (x,c)).2:=by
 have HB:=Hz B;obtain ⟨b0,bl⟩:=B.pc;obtain ⟨g,o,cap,hro,hown,q0,q3,ql,gl,fz,rc⟩:=B.roots;have hf:=fz (o+r);have hc:=rc r hr;have hri:(r:Int)<12:=by omega
 have hin:=B.AA (x:=x) hro hr hx;have HIN:=Hz hin;clear hro hown fz rc hin B;by_cases h0:c=0
 ·subst h0;have HE:=Hz (show O.iA r (x,0)=(0,O.j4 r x) from rfl);go_enter Tryz.func27,Tryz.ntmps27;go_wp2_with fail;go_ret;rw [HE.o];exact ⟨rfl,HIN.o⟩
 ·have hd:(c == 0)=false:=by simpa using h0
  have HE:=Hz (show O.iA r (x,c)=(c,O) by unfold Wo.iA;rw [if_neg h0]);clear h0;go_enter Tryz.func27,Tryz.ntmps27;go_wp2_with fail;go_ret;rw [HE.o];exact ⟨rfl,HB.o,aa.refl _ _⟩
def gF (w:World) (h:HH) (O:Wo) (n:Int) (e:Ending) (w':World):Prop:=e=.returned (.int .i64 (O.room n).1)/\aV w h w' (O.room n).2
theorem yp (n:Int) (B:a8 w h O) (hn:n<=(O.ar.nur:Int)-O.ar.yng) :
  Calls Tryz.prog 56 #[.pointer (some ⟨h.p,0,none⟩), .int .i64 n] w (gF w h O n):=by
 have HB:=Hz B;have HE:=Hz (show O.room n=(0,O) by unfold Wo.room;rw [if_pos hn]);have o1:=B.H.ok.ha.h1;have hn2:n<=((O.ar.nur-O.ar.yng:Nat):Int):=by omega
 obtain ⟨b0,bl⟩:=B.pc;have q0:=B.H.eJ.1;have ql:=B.H.hp.lt;clear B hn o1;go_enter Tryz.func56,Tryz.ntmps56;go_wp2_with fail;refine (kj _ HB.o.H.ha).mono ?_;rintro e w1 ⟨rfl,hk⟩;have B1:=Hz (HB.o.same hk);have K1:=Hz hk;clear hk b0 bl q0 ql;obtain ⟨b0,bl⟩:=B1.o.pc;have q0:=B1.o.H.eJ.1;have ql:=B1.o.H.hp.lt;generalize ((O.ar.nur-O.ar.yng:Nat):Int)=fr at *;generalize ((O.ar.ws.length-O.ar.grn:Nat):Int)=fo at *;go_wp2_with fail;refine (mF _ B1.o.H.ha).mono ?_;rintro e w2 ⟨rfl,hk⟩;have K2:=Hz (K1.o.trans hk);clear hk b0 bl q0 ql;go_wp2_with fail;go_ret;unfold gF;rw [HE.o];exact ⟨rfl,aV.same HB.o K2.o⟩
theorem mI (r:Nat) (kd:Int) (l:List Nat) (ao:Option Addr) (cap:Nat) (B:a8 w h O) (hr:r<12) (hl:∀ k ∈ l,k<12) (hf:bj kd l.length=true)
  (hrd:Rd w ao (l.map λ(k:Nat)=>Value.int .i64 (k:Int))) (ha:∀ a,ao=some a->a.block<w.heap.size->¬ h.Own a.block)
  (hroom:Calls Tryz.prog 56 #[.pointer (some ⟨h.p,0,none⟩), .int .i64 (1+(l.length:Int))] w (gF w h O (1+l.length)))
  (hfree:(O.room (1+l.length)).1=0->(1+(l.length:Int))<=((O.room (1+l.length)).2.ar.nur:Int)-(O.room (1+l.length)).2.ar.yng) :
  Calls Tryz.prog 29 #[.pointer (some ⟨h.p,0,none⟩), .int .i64 r, .int .i64 kd, .slice ao l.length cap] w λe w'=>e=.returned (.int .i64 (O.bz r kd (l.map λ(k:Nat)=>(k:Int))).1)/\aV w h w' (O.bz r kd (l.map λ(k:Nat)=>(k:Int))).2:=by
 have HB:=Hz B;have HL:=Hz hl;have HF:=Hz hf;have HRD:=Hz hrd;have HA:=Hz ha;have HR:=Hz hroom;have hl12:=(bL hf).2.2.2;have HNO:=Hz (show (O.room (1+(l.length:Int))).1≠0->O.bz r kd (l.map λ(k:Nat)=>(k:Int))=O.room (1+(l.length:Int)) from λh0=>by
  unfold Wo.bz;rw [Zp,if_neg h0])
 have HYES:=Hz (show (O.room (1+(l.length:Int))).1=0->O.bz r kd (l.map λ(k:Nat)=>(k:Int))=(0,(O.room (1+(l.length:Int))).2.lay r kd (l.map λ(k:Nat)=>(k:Int))) from λh0=>by
  unfold Wo.bz;rw [Zp,if_pos h0])
 obtain ⟨⟨c,P⟩,hP⟩:∃ t,O.room (1+(l.length:Int))=t:=⟨_,rfl⟩;unfold gF at HR;rw [hP] at HR HNO HYES hfree;dsimp only at HR HNO HYES hfree;have hw1:IntKind.i64.wrap (1+(l.length:Int))=1+l.length:=IntWalk.i64_in _ (by omega);clear B hl hf hrd ha hroom hP;go_enter Tryz.func29,Tryz.ntmps29;go_wp2_with fail;refine HR.o.mono ?_;rintro e w1 ⟨rfl,ht⟩;by_cases h0:c=0
 ·subst h0;have HE:=Hz (HYES.o rfl);obtain ⟨h1,B1',ep,k1,o1⟩:=ht;have RD1:=Hz (HRD.o.ab k1 (λa e hb=>HA.o a e hb));have HA1:=Hz (show ∀ a,ao=some a->a.block<w.heap.size->¬ h1.Own a.block from λa e hb hn=>by
   rcases o1 _ hn with h2 | h2
   ·exact HA.o a e hb h2
   ·omega)
  have RDL:=Hz (show ∀ a,ao=some a->l≠[]->a.block<w.heap.size from λa e hne=>by
   obtain ⟨g,o,e2,hg,_⟩:=HRD.o (by simpa using hne)
   rw [e] at e2;cases e2;exact hg)
  have B1:=Hz B1';have EP:=Hz ep;have K1:=Hz k1;have O1:=Hz o1;have hfr:=hfree rfl;have hfit:bj kd (l.length:Int)=true/\1+(l.length:Int)<=(P.ar.nur:Int)-P.ar.yng:=⟨HF.o,hfr⟩;have HMK:=Hz (Ar.pV hfit);have hmk1:(P.ar.make kd l.length).1=(P.ar.yng:Int):=by rw [HMK.o]
  have HNU:=Hz (show (P.ar.make kd l.length).2.nur=P.ar.nur by rw [HMK.o]);have q1:=B1'.H.ok.ha.h1;have q2:=B1'.H.ok.ha.h2;have q3:=B1'.H.ok.ha.h3;have q4:=B1'.H.ok.ha.h4;have yl:(P.ar.yng:Int)<=1280:=by omega
  rw [<-ep];obtain ⟨b0,bl⟩:=B1'.pc;have p0:=B1'.H.eJ.1;have pl:=B1'.H.hp.lt;clear B1' k1 o1 hfree HNO HYES hfr hfit q1 q2 q3 q4 ep hw1;go_wp2_with fail;have hmc:=Cs kd l.length w1 B1.o.H.ha (by unfold bm;omega);rw [hmk1] at hmc;refine hmc.mono ?_;rintro e w2 ⟨rfl,ht2⟩;have hin:=B1.o.CL (ku.bZ B1.o.H ht2 HNU.o);have B2:=Hz hin.1;have K2:=Hz hin.2;clear ht2 hin b0 bl p0 pl hmc hmk1;generalize hA2:(P.ar.make kd l.length).2=A2 at *;have HA2:=Hz hA2;clear hA2;go_wp2_with fail;go_loopw [34] (λu wr=>∃ k:Nat,k<=l.length/\u=.int .i64 k/\a8 wr h1 { P with ar:=storesA A2 ((P.ar.yng:Int)+1) ((l.take k).map λ(j:Nat)=>P.a5 j) }/\aa h1.Own w2 wr) (λu _=>l.length-(intOf u).toNat)
  case atStart=>exact ⟨0,Zc _,rfl,B2.o,aa.refl _ _⟩
  case round=>
   obtain ⟨k,hk,rfl,hB,hK⟩:=hrel;have BR:=Hz hB;have KR:=Hz hK;clear hB hK;by_cases hlt:k<l.length
   ·have RDR:=(RD1.o.ab K2.o (λa e hb hn=>by
     by_cases hne:l=[]
     ·subst hne;simp at hlt
     ·exact HA1.o a e (RDL.o a e hne) hn)).ab KR.o (λa e hb hn=>by
     by_cases hne:l=[]
     ·subst hne;simp at hlt
     ·exact HA1.o a e (RDL.o a e hne) hn)
    obtain ⟨gl,ol,rfl,hgl,l0⟩:=CM RDR k hlt;have hm:=HL.o (l.getD k 0) (by rw [Ld,Le hlt];exact Ze _);have htk:((l.take (k+1)).map λ(j:Nat)=>P.a5 (j:Int))=((l.take k).map λ(j:Nat)=>P.a5 (j:Int)) ++ [P.a5 ((l.getD k 0:Nat):Int)]:=by
     rw [List.take_add_one,Le hlt,List.map_append,Ld,Le hlt];rfl
    have HST:=Hz (show storesA A2 ((P.ar.yng:Int)+1) ((l.take (k+1)).map λ(j:Nat)=>P.a5 j)=(storesA A2 ((P.ar.yng:Int)+1) ((l.take k).map λ(j:Nat)=>P.a5 j)).store ((P.ar.yng:Int)+1+k) (P.a5 ((l.getD k 0:Nat):Int)) by
     rw [htk,oP,Zp,Zx,Nat.min_eq_left hk])
    have HXR:=Hz (lp B1.o.H.ok ((l.getD k 0:Nat):Int));generalize l.getD k 0=m at *;obtain ⟨g,o,cap2,hro,hown,p0,p3,pl,gl2,fz,rc⟩:=BR.o.roots;have r0:=rc m hm;have r0:wr.cell? ⟨g,o+m,none⟩=some (.int .i64 (P.a5 (m:Int))):=r0;generalize P.a5 (m:Int)=x at *;obtain ⟨b0,bl⟩:=BR.o.pc;have hmi:(m:Int)<12:=by omega
    have hw1:IntKind.i64.wrap ((P.ar.yng:Int)+1)=P.ar.yng+1:=IntWalk.i64_in _ (by omega);have hw2:IntKind.i64.wrap ((P.ar.yng:Int)+1+(k:Int))=P.ar.yng+1+k:=IntWalk.i64_in _ (by omega);clear hro hown fz rc htk RDR;go_wp2_with fail;refine a6 (ftq [0,1,2,7,8,9,10,11,12,13,18] (.pure 3 (.free 4 (.free 5 (.pure 6 (.pure 14 (.free 15 (.free 16 (.pure 17 (.free 19 (.pure 20 (.run 21 (.swi [] (.fin)))))))))))))) [21] (Fz b0 (Fz p0 (Fz p3 (Fa r0)))) ?_
    iterate 21 refine Wz ?_
    refine aD rfl rfl rfl (λK hK=>?_);unfold ax;go_simp;refine (gR _ x _ (BR.o.same ((Kz wr).drew)).H.ha HXR.o).mono ?_;rintro e w3 ⟨rfl,ht3⟩;refine hK _ _ ?_;clear hK K;refine aC (λ_=>True) trivial (av ?_);have hin:=(BR.o.same ((Kz wr).drew)).CL (ku.bZ (BR.o.same ((Kz wr).drew)).H ht3 (Ar.cZ _ _ _));have BN:=Hz hin.1;have KN:=Hz ((KR.o.drew).trans hin.2);clear ht3 hin b0 bl p0 p3 pl gl2 r0 l0 hgl hw1 hw2;go_wp2_with fail;go_roundw
    case rel=>exact ⟨k+1,hlt,by go_num,by rw [HST.o];exact BN.o,KN.o⟩
    case measure=>simp [intOf];omega
   ·obtain rfl:k=l.length:=by omega
    rw [List.take_length] at BR;obtain ⟨g,o,cap2,hro,hown,p0,p3,pl,gl2,fz,rc⟩:=BR.o.roots;obtain ⟨b0,bl⟩:=BR.o.pc;have hf:=fz (o+r);have hc:=rc r hr;have hri:(r:Int)<12:=by omega
    have HRO:=Hz hro;clear hro hown fz rc;go_wp2_with fail;refine a6 (ftq [0,1,2,7,8] (.pure 3 (.free 4 (.free 5 (.pure 6 (.run 9 (.free 10 (.run 11 (.swi [] (.fin)))))))))) [11] (Fz b0 (Fa p3)) ?_
    iterate 9 refine Wz ?_
    refine aN rfl rfl (λK hK=>?_);unfold ax;go_simp;refine (Au (P.ar.yng:Int) _ (by omega) (by omega)).mono ?_;rintro e w5 ⟨rfl,rfl⟩;refine hK _ _ (λhg=>hg) ?_;clear hK K;refine Wz ?_;refine aD rfl rfl rfl (λK hK=>?_);unfold ax;go_simp;refine hK _ _ ?_;clear hK K;refine aC (λ_=>True) trivial (av ?_);have hin:=BR.o.AA (k:=r) (x:=4*(P.ar.yng:Int)+1) HRO.o hr (by unfold bm;omega);have hlay:P.lay r kd (l.map λ(k:Nat)=>(k:Int))=Wo.j4 { P with ar:=storesA A2 ((P.ar.yng:Int)+1) (l.map λ(j:Nat)=>P.a5 j) } r (4*(P.ar.yng:Int)+1):=by
     have h1:(P.ar.make kd l.length).1=(P.ar.yng:Int):=by rw [HMK.o]
     unfold Wo.lay Wo.j4;rw [Zp,HA2.o,h1,wG (by omega) (by omega),List.map_map]
     rfl
    have TO:=Hz (show aV w h (wr.setCell ⟨g,o+r,none⟩ (.int .i64 (4*(P.ar.yng:Int)+1))).drew (P.lay r kd (l.map λ(k:Nat)=>(k:Int))) by
     rw [hlay]
     exact ⟨h1,hin.1.same ((Kz _).drew),EP.o,K1.o.then (((K2.o.trans KR.o).trans hin.2).drew) O1.o,O1.o⟩)
    clear hin b0 bl p0 p3 pl gl2 hf hc hlay;go_wp2_with fail;go_ret;refine ⟨by rw [HE.o];rfl,?_⟩;rw [HE.o];exact TO.o
 ·have HE:=Hz (HNO.o h0);have hd:(c != 0)=true:=by simpa using h0
  have TO:=Hz ht;clear h0 ht;go_wp2_with fail;go_ret;exact ⟨by rw [HE.o];rfl,by rw [HE.o];exact TO.o⟩
end
end
section
open Go.RowKit
def bT (w:World) (h:HH) (O:Wo) (x:St) (e:Ending) (w':World):Prop:=e=.returned (.int .i64 (O.do x).1)/\aV w h w' (O.do x).2
section
variable {w w':World} {h:HH} {O O':Wo}
theorem yq {A:Ar} (h:A.ok) (x i:Int):bm (A.get x i).1:=by
 unfold Ar.get;split
 ·unfold bm;decide
 ·split
  ·unfold bm;decide
  ·exact h.load _
theorem yt (n:Int) (h:-cG<=n/\n<cG):fU 1 n=(4*n,0):=by unfold fU;rw [if_neg (by decide),if_neg (by decide),if_pos rfl,if_pos h]
theorem zG (xr xa xb xi xn:Int) (B:a8 w h O) :
  Calls Tryz.prog 20 #[.pointer (some ⟨h.p,0,none⟩), .agg #[.int .i64 1, .int .i64 xr, .int .i64 xa, .int .i64 xb, .int .i64 xi, .int .i64 xn]] w (bT w h O ⟨1,xr,xa,xb,xi,xn⟩):=by
 unfold bT;have HB0:=Hz B;have ay:ak (w.alloc (.cells #[.int .i64 1, .int .i64 xr, .int .i64 xa, .int .i64 xb, .int .i64 xi, .int .i64 xn] 26)) w.heap.size [.int .i64 1, .int .i64 xr, .int .i64 xa, .int .i64 xb, .int .i64 xi, .int .i64 xn] 26:=ak.newAt _ rfl rfl;have ka:=(Kz w).alloc (.cells #[.int .i64 1, .int .i64 xr, .int .i64 xa, .int .i64 xb, .int .i64 xi, .int .i64 xn] 26);have s0:=ay.cell 0;have s1:=ay.cell 1;have s2:=ay.cell 2;have s3:=ay.cell 3;have s4:=ay.cell 4;have s5:=ay.cell 5;have sl:=ay.lt;simp only [Lz,aB] at s0 s1 s2 s3 s4 s5;have HSF:=Hz (λw=>dF ⟨1,xr,xa,xb,xi,xn⟩ w);obtain ⟨c,hc⟩:∃ c,bu ⟨1,xr,xa,xb,xi,xn⟩=c:=⟨_,rfl⟩;rw [hc] at HSF;have HC:=Hz hc;have HB:=Hz ay;have KA:=Hz ka;clear ay hc ka B;go_enter Tryz.func20,Tryz.ntmps20;go_wp2_with (refine bD rfl 26 (.tmp 3) rfl [.int .i64 1, .int .i64 xr, .int .i64 xa, .int .i64 xb, .int .i64 xi, .int .i64 xn] (by kernel_rfl) w.heap.size 0 rfl (ae s0 (ae s1 (ae s2 (ae s3 (ae s4 (ae s5 a9)))))) ?_);refine (HSF.o _).mono ?_;rintro e w1 ⟨rfl,hk⟩;have HB1:=Hz ((HB0.o.same KA.o).same hk);have K1:=Hz (KA.o.trans hk);have SB1:=Hz (hk.au HB.o (λh=>h));have SFR:=Hz (show ¬ h.Own w.heap.size from λe=>by have:=HB0.o.aZ e;omega);clear hk s0 s1 s2 s3 s4 s5 sl HSF KA HB;generalize w.heap.size=sb at *;have s0:=SB1.o.cell 0;have s1:=SB1.o.cell 1;have s2:=SB1.o.cell 2;have s3:=SB1.o.cell 3;have s4:=SB1.o.cell 4;have s5:=SB1.o.cell 5;have sl:=SB1.o.lt;simp only [Lz,aB] at s0 s1 s2 s3 s4 s5;by_cases h0:¬ c=0
 ·have HE:=Hz (show O.do ⟨1,xr,xa,xb,xi,xn⟩=(c,O) by unfold Wo.do;rw [HC.o,if_neg h0]);have hd:(c != 0)=true:=by simpa using h0
  clear h0;go_wp2_with fail;go_ret;exact ⟨by rw [HE.o];rfl,by rw [HE.o];exact aV.same HB0.o K1.o⟩
 have h0:c=0:=Zn.1 h0;subst h0;have hr:0<=xr/\xr<12:=(aJ _).1 ((aF HC.o).2.1 (show aP 1%2=1 by decide));obtain ⟨r,rfl⟩:∃ r:Nat,xr=r:=⟨xr.toNat,by omega⟩;have hr12:r<12:=by omega
 clear hr;have hn:-cG<=xn/\xn<cG:=(aF HC.o).2.2.2.2.1 rfl;have HE:=Hz (show O.do ⟨1,r,xa,xb,xi,xn⟩=O.iA r (4*xn,0) by unfold Wo.do;rw [if_pos HC.o];rfl);have HEN:=Hz (yt xn hn);have hx:bm (4*xn):=by unfold bm;have:=hn.1;have:=hn.2;unfold cG at *;omega
 have hn64:bm xn:=by unfold bm;have:=hn.1;have:=hn.2;unfold cG at *;omega
 have HX:=Hz hx;have HN64:=Hz hn64;clear hn hx hn64;go_wp2_with fail;refine (tK 1 xn _ HN64.o.1 HN64.o.2).mono ?_;rintro e w2 ⟨rfl,hk⟩;rw [HEN.o];have HB2:=Hz (HB1.o.same hk);have K2:=Hz (K1.o.trans hk);have SB2:=Hz (hk.au SB1.o (λh=>h));clear hk s0 s1 s2 s3 s4 s5 sl HB1 K1 SB1;have s1:=SB2.o.cell 1;have sl:=SB2.o.lt;simp only [Lz,aB] at s1;go_wp2_with fail;refine (iO r (4*xn) 0 HB2.o hr12 HX.o).mono ?_;rintro e w3 ⟨rfl,ht⟩;have TO:=Hz (aV.aL K2.o ht.to);clear ht s1 sl;go_wp2_with fail;go_ret;exact ⟨by rw [HE.o];rfl,by rw [HE.o];exact TO.o⟩
theorem zH (xr xa xb xi xn:Int) (B:a8 w h O) :
  Calls Tryz.prog 20 #[.pointer (some ⟨h.p,0,none⟩), .agg #[.int .i64 11, .int .i64 xr, .int .i64 xa, .int .i64 xb, .int .i64 xi, .int .i64 xn]] w (bT w h O ⟨11,xr,xa,xb,xi,xn⟩):=by
 unfold bT;have HB0:=Hz B;have ay:ak (w.alloc (.cells #[.int .i64 11, .int .i64 xr, .int .i64 xa, .int .i64 xb, .int .i64 xi, .int .i64 xn] 26)) w.heap.size [.int .i64 11, .int .i64 xr, .int .i64 xa, .int .i64 xb, .int .i64 xi, .int .i64 xn] 26:=ak.newAt _ rfl rfl;have ka:=(Kz w).alloc (.cells #[.int .i64 11, .int .i64 xr, .int .i64 xa, .int .i64 xb, .int .i64 xi, .int .i64 xn] 26);have s0:=ay.cell 0;have s1:=ay.cell 1;have s2:=ay.cell 2;have s3:=ay.cell 3;have s4:=ay.cell 4;have s5:=ay.cell 5;have sl:=ay.lt;simp only [Lz,aB] at s0 s1 s2 s3 s4 s5;have HSF:=Hz (λw=>dF ⟨11,xr,xa,xb,xi,xn⟩ w);obtain ⟨c,hc⟩:∃ c,bu ⟨11,xr,xa,xb,xi,xn⟩=c:=⟨_,rfl⟩;rw [hc] at HSF;have HC:=Hz hc;have HB:=Hz ay;have KA:=Hz ka;clear ay hc ka B;go_enter Tryz.func20,Tryz.ntmps20;go_wp2_with (refine bD rfl 26 (.tmp 3) rfl [.int .i64 11, .int .i64 xr, .int .i64 xa, .int .i64 xb, .int .i64 xi, .int .i64 xn] (by kernel_rfl) w.heap.size 0 rfl (ae s0 (ae s1 (ae s2 (ae s3 (ae s4 (ae s5 a9)))))) ?_);refine (HSF.o _).mono ?_;rintro e w1 ⟨rfl,hk⟩;have HB1:=Hz ((HB0.o.same KA.o).same hk);have K1:=Hz (KA.o.trans hk);have SB1:=Hz (hk.au HB.o (λh=>h));have SFR:=Hz (show ¬ h.Own w.heap.size from λe=>by have:=HB0.o.aZ e;omega);clear hk s0 s1 s2 s3 s4 s5 sl HSF KA HB;generalize w.heap.size=sb at *;have s0:=SB1.o.cell 0;have s1:=SB1.o.cell 1;have s2:=SB1.o.cell 2;have s3:=SB1.o.cell 3;have s4:=SB1.o.cell 4;have s5:=SB1.o.cell 5;have sl:=SB1.o.lt;simp only [Lz,aB] at s0 s1 s2 s3 s4 s5;by_cases h0:¬ c=0
 ·have HE:=Hz (show O.do ⟨11,xr,xa,xb,xi,xn⟩=(c,O) by unfold Wo.do;rw [HC.o,if_neg h0]);have hd:(c != 0)=true:=by simpa using h0
  clear h0;go_wp2_with fail;go_ret;exact ⟨by rw [HE.o];rfl,by rw [HE.o];exact aV.same HB0.o K1.o⟩
 have h0:c=0:=Zn.1 h0;subst h0;have hr:0<=xr/\xr<12:=(aJ _).1 ((aF HC.o).2.1 (show aP 11%2=1 by decide));obtain ⟨r,rfl⟩:∃ r:Nat,xr=r:=⟨xr.toNat,by omega⟩;have hr12:r<12:=by omega
 clear hr;have ha:0<=xa/\xa<12:=(aJ _).1 ((aF HC.o).2.2.1 (show aP 11/2%2=1 by decide));obtain ⟨a,rfl⟩:∃ a:Nat,xa=a:=⟨xa.toNat,by omega⟩;have ha12:a<12:=by omega
 clear ha;have HE:=Hz (show O.do ⟨11,r,a,xb,xi,xn⟩=O.iA r (O.ar.get (O.a5 a) xi) by unfold Wo.do;rw [if_pos HC.o];rfl);obtain ⟨b0,bl⟩:=HB1.o.pc;obtain ⟨g,o,cap,hro,hown,q0,q3,ql,gl,fz,rc⟩:=HB1.o.roots;have ra:=rc a ha12;have ha12i:(a:Int)<12:=by omega
 clear hro hown fz rc;have hget:=qT (O.a5 a) xi (HB1.o.same ((Kz w1).drew)).H;have HYR:=Hz (yq HB1.o.H.ok.ha (O.a5 a) xi);generalize O.a5 (a:Int)=va at *;obtain ⟨⟨y,e⟩,hS⟩:∃ t,O.ar.get va xi=t:=⟨_,rfl⟩;rw [hS] at hget HE HYR;have HGET:=Hz hget;clear hS hget;go_wp2_with fail;refine a6 (ftq [0,1,2,4,5,6,11,15] (.pure 3 (.pure 7 (.free 8 (.free 9 (.pure 10 (.pure 12 (.free 13 (.pure 14 (.pure 16 (.run 17 (.swi [] (ftq [18,19,20,21,22] (.fin)))))))))))))) [17,18,19,20,21,22] (Fz b0 (Fz q3 (Fz ra (Fz s2 (Fa s4))))) ?_
 iterate 17 refine Wz ?_
 refine aD rfl rfl rfl (λK hK=>?_);unfold ax;go_simp;refine HGET.o.mono ?_;rintro e3 w3 ⟨rfl,rfl⟩;refine hK _ _ ?_;clear hK K;refine aC (λ_=>True) trivial ?_
 iterate 5 refine Wz ?_
 refine av ?_;have kd:=(Kz w1).drew;have HB2:=Hz (HB1.o.same kd);have K2:=Hz (K1.o.trans kd);have SB2:=Hz (kd.au SB1.o (λh=>h));clear kd s0 s1 s2 s3 s4 s5 sl HB1 K1 SB1 b0 bl q0 q3 ql gl ra HGET;have s1:=SB2.o.cell 1;have sl:=SB2.o.lt;simp only [Lz,aB] at s1;go_wp2_with fail;refine (iO r y e HB2.o hr12 HYR.o).mono ?_;rintro e' w3 ⟨rfl,ht⟩;have TO:=Hz (aV.aL K2.o ht.to);clear ht s1 sl;go_wp2_with fail;go_ret;exact ⟨by rw [HE.o];rfl,by rw [HE.o];exact TO.o⟩
def gO (h:HH) (O:Wo) (n:Int):Prop:=(∀ w',a8 w' h O->Calls Tryz.prog 56 #[.pointer (some ⟨h.p,0,none⟩), .int .i64 n] w' (gF w' h O n))/\((O.room n).1=0->n<=((O.room n).2.ar.nur:Int)-(O.room n).2.ar.yng)
theorem yu (xr xa xb xi xn:Int) (B:a8 w h O) (hroom:gO h O 3) :
  Calls Tryz.prog 20 #[.pointer (some ⟨h.p,0,none⟩), .agg #[.int .i64 4, .int .i64 xr, .int .i64 xa, .int .i64 xb, .int .i64 xi, .int .i64 xn]] w (bT w h O ⟨4,xr,xa,xb,xi,xn⟩):=by
 unfold bT;have HRM:=Hz hroom;clear hroom;have HB0:=Hz B;have ay:ak (w.alloc (.cells #[.int .i64 4, .int .i64 xr, .int .i64 xa, .int .i64 xb, .int .i64 xi, .int .i64 xn] 26)) w.heap.size [.int .i64 4, .int .i64 xr, .int .i64 xa, .int .i64 xb, .int .i64 xi, .int .i64 xn] 26:=ak.newAt _ rfl rfl;have ka:=(Kz w).alloc (.cells #[.int .i64 4, .int .i64 xr, .int .i64 xa, .int .i64 xb, .int .i64 xi, .int .i64 xn] 26);have s0:=ay.cell 0;have s1:=ay.cell 1;have s2:=ay.cell 2;have s3:=ay.cell 3;have s4:=ay.cell 4;have s5:=ay.cell 5;have sl:=ay.lt;simp only [Lz,aB] at s0 s1 s2 s3 s4 s5;have HSF:=Hz (λw=>dF ⟨4,xr,xa,xb,xi,xn⟩ w);obtain ⟨c,hc⟩:∃ c,bu ⟨4,xr,xa,xb,xi,xn⟩=c:=⟨_,rfl⟩;rw [hc] at HSF;have HC:=Hz hc;have HB:=Hz ay;have KA:=Hz ka;clear ay hc ka B;go_enter Tryz.func20,Tryz.ntmps20;go_wp2_with (refine bD rfl 26 (.tmp 3) rfl [.int .i64 4, .int .i64 xr, .int .i64 xa, .int .i64 xb, .int .i64 xi, .int .i64 xn] (by kernel_rfl) w.heap.size 0 rfl (ae s0 (ae s1 (ae s2 (ae s3 (ae s4 (ae s5 a9)))))) ?_);refine (HSF.o _).mono ?_;rintro e w1 ⟨rfl,hk⟩;have HB1:=Hz ((HB0.o.same KA.o).same hk);have K1:=Hz (KA.o.trans hk);have SB1:=Hz (hk.au HB.o (λh=>h));have SFR:=Hz (show ¬ h.Own w.heap.size from λe=>by have:=HB0.o.aZ e;omega);clear hk s0 s1 s2 s3 s4 s5 sl HSF KA HB;generalize w.heap.size=sb at *;have s0:=SB1.o.cell 0;have s1:=SB1.o.cell 1;have s2:=SB1.o.cell 2;have s3:=SB1.o.cell 3;have s4:=SB1.o.cell 4;have s5:=SB1.o.cell 5;have sl:=SB1.o.lt;simp only [Lz,aB] at s0 s1 s2 s3 s4 s5;by_cases h0:¬ c=0
 ·have HE:=Hz (show O.do ⟨4,xr,xa,xb,xi,xn⟩=(c,O) by unfold Wo.do;rw [HC.o,if_neg h0]);have hd:(c != 0)=true:=by simpa using h0
  clear h0;go_wp2_with fail;go_ret;exact ⟨by rw [HE.o];rfl,by rw [HE.o];exact aV.same HB0.o K1.o⟩
 have h0:c=0:=Zn.1 h0;subst h0;have hr:0<=xr/\xr<12:=(aJ _).1 ((aF HC.o).2.1 (show aP 4%2=1 by decide));obtain ⟨r,rfl⟩:∃ r:Nat,xr=r:=⟨xr.toNat,by omega⟩;have hr12:r<12:=by omega
 clear hr;have ha:0<=xa/\xa<12:=(aJ _).1 ((aF HC.o).2.2.1 (show aP 4/2%2=1 by decide));obtain ⟨a,rfl⟩:∃ a:Nat,xa=a:=⟨xa.toNat,by omega⟩;have ha12:a<12:=by omega
 clear ha;have hb:0<=xb/\xb<12:=(aJ _).1 ((aF HC.o).2.2.2.1 (show aP 4/4%2=1 by decide));obtain ⟨b,rfl⟩:∃ b:Nat,xb=b:=⟨xb.toNat,by omega⟩;have hb12:b<12:=by omega
 clear hb;have HE:=Hz (show O.do ⟨4,r,a,b,xi,xn⟩=O.bz r 1 ([a,b].map λ(k:Nat)=>(k:Int)) by unfold Wo.do;rw [if_pos HC.o];rfl);have ka:=(Kz w1).alloc (.cells #[.int .i64 a, .int .i64 b] 3);have hbl:ak (w1.alloc (.cells #[.int .i64 a, .int .i64 b] 3)) w1.heap.size [.int .i64 a, .int .i64 b] 3:=ak.newAt _ rfl rfl;have hmk:=mI r 1 [a,b] (some ⟨w1.heap.size,0,none⟩) 2 (HB1.o.same ka) hr12 (by intro k hk;simp at hk;omega) (show bj 1 2=true by decide) (Rd.au hbl 0 _ rfl) (λad e hb hn=>by cases e;have:=HB1.o.aZ hn;simp at this) (HRM.o.1 _ (HB1.o.same ka)) HRM.o.2;have HMK:=Hz hmk;have HKA:=Hz ka;clear ka hbl hmk;go_wp2_with fail;refine HMK.o.mono ?_;rintro e w3 ⟨rfl,ht⟩;have TO:=Hz (aV.aL (K1.o.trans HKA.o) ht);clear ht s0 s1 s2 s3 s4 s5 sl;go_wp2_with fail;go_ret;exact ⟨by rw [HE.o];rfl,by rw [HE.o];exact TO.o⟩
end
end
section
open Go.RowKit
def eG (F:Nat->Prop) (p:Nat) (rv wv:Value):Prop:=∀ k,¬ (F k/\aG p rv wv k)
structure eO (P:Program) (p:Nat) (τ:Type) where
 J:World->τ->(Nat->Prop)->Prop
 D:τ->Int->Prop
 DK:τ->Int->Prop
 alive:τ->Int->Bool
 ab:τ->List (Int × Int)->Int->τ × List (Int × Int) × Int
 now:τ->Int->Int
 fa:FuncId
 fk:FuncId
 fn:FuncId
 a1:Array Value
 a2:Array Value
 k1:Array Value
 k2:Array Value
 n1:Array Value
 n2:Array Value
 ea:∀ (args:Array Value) (w:World),(callFunc fa args).run P w=.ok (.enter fa args) w
 ek:∀ (args:Array Value) (w:World),(callFunc fk args).run P w=.ok (.enter fk args) w
 en:∀ (args:Array Value) (w:World),(callFunc fn args).run P w=.ok (.enter fn args) w
 J_keep:∀ {w w' t F S},J w t F->aa S w w'->(∀ k,F k->¬ S k)->J w' t F
 J_lt:∀ {w t F k},J w t F->F k->k<w.heap.size
 cX:∀ (w t F x),J w t F->D t x->Calls P fa (a1.push (.int .i64 x) ++ a2) w λe w'=>e=.returned (.bool (alive t x))/\aa (λ_=>False) w w'
 now_c:∀ (w t F x),J w t F->D t x->Calls P fn (n1.push (.int .i64 x) ++ n2) w λe w'=>e=.returned (.int .i64 (now t x))/\aa (λ_=>False) w w'
 keep_c:∀ (w t F rv wv ai wait x),J w t F->a7 w p rv wv ai wait->eG F p rv wv->DK t x->(∀ e ∈ wait,D t e.1/\D t e.2)->wait.length<=1000000 ->
  Calls P fk (k1.push (.int .i64 x) ++ k2) w λe w'=>e=.returned (.int .i64 (ab t wait x).2.2)/\∃ F',J w' (ab t wait x).1 F'/\a7 w' p rv wv ai (ab t wait x).2.1/\eG F' p rv wv /\
   aa (λk=>F k\/aG p rv wv k) w w'/\∀ k,F' k->F k\/w.heap.size<=k
 DK_D:∀ {t x},DK t x->D t x
 DK_keep:∀ {t wait x y},DK t x->DK t y->DK (ab t wait x).1 y
 D_keep:∀ {t wait x y},DK t x->D t y->D (ab t wait x).1 y
 D_new:∀ {t wait x},DK t x->D (ab t wait x).1 (ab t wait x).2.2
 D_wait:∀ {t wait x},DK t x->(∀ e ∈ wait,D t e.1/\D t e.2)->∀ e ∈ (ab t wait x).2.1,D (ab t wait x).1 e.1/\D (ab t wait x).1 e.2
 keep_len:∀ {t wait x},(ab t wait x).2.1.length=wait.length
def eO.val {P:Program} {p:Nat} {τ:Type} (L:eO P p τ):Value:=
 .agg #[.func (.func L.fa) L.a1 L.a2, .func (.func L.fk) L.k1 L.k2, .func (.func L.fn) L.n1 L.n2]
variable {τ:Type}
theorem uE (a b:List (Int × Int)):aH (a ++ b)=aH a ++ aH b:=by simp [aH]
theorem zI (pre rest:List (Int × Int)) (v:Int × Int) (x:Int):aH (pre ++ (v.1,x) :: rest)=(aH (pre ++ v :: rest)).set (pre.length*2+1) (.int .i64 x):=by
 rw [uE,uE,fF,fF,List.set_append_right _ _ (by rw [cJ];omega),cJ,show pre.length*2+1-pre.length*2=1 by omega]
 rfl
theorem a7.uF {w:World} {p g o cap n:Nat} {rv:Value} {ai pre rest:List (Int × Int)} {v:Int × Int} (x:Int) (h:a7 w p rv (.slice (some ⟨g,o,none⟩) n cap) ai (pre ++ v :: rest)) :
  a7 (w.setCell ⟨g,o+pre.length*2+1,none⟩ (.int .i64 x)) p rv (.slice (some ⟨g,o,none⟩) n cap) ai (pre ++ (v.1,x) :: rest):=by
 have hpg:p≠g:=λe=>h.pw (by subst e;rfl);have hk:=(aa.refl (·=g) w).setCell (p:=⟨g,o+pre.length*2+1,none⟩) (.inl rfl) (.int .i64 x);refine ⟨h.hp.cj (a:=⟨g,_,none⟩) hpg _,h.hr.ab hk (by rintro b hb rfl;exact h.ap b ⟨hb,rfl⟩),?_,h.ap⟩;have hlen:(pre ++ (v.1,x) :: rest).length=(pre ++ v :: rest).length:=by simp
 obtain ⟨g',o',cap',cur,e,hb,h1,h2,h3,h4⟩:=h.hw.laid (by simp;omega);cases e;rw [hlen];refine ⟨by rw [cJ,hlen], .inr ⟨g,o,cap,_,rfl,hb.aE _ _,h1,h2,by simpa using h3,?_⟩⟩;rw [zI,<-h4];apply List.ext_getElem?;intro j;simp only [List.getElem?_take,List.getElem?_drop,List.getElem?_set,List.length_set,Zx,List.length_drop];by_cases hj:j<(pre ++ v :: rest).length*2
 ·rw [if_pos hj,if_pos hj];by_cases e:pre.length*2+1=j
  ·subst e;have hl:(pre ++ v :: rest).length=pre.length+1+rest.length:=by simp;omega
   rw [if_pos (by omega),if_pos rfl,if_pos (by omega),if_pos (by omega)]
  ·rw [if_neg (by omega),if_neg e]
 ·rw [if_neg hj];by_cases e:pre.length*2+1=j
  ·rw [if_pos e,if_neg (by omega)]
  ·rw [if_neg e,if_neg hj]
def fO {P:Program} {p:Nat} (L:eO P p τ) (kp:τ->Int->τ × Int) (t:τ) (F:Nat->Prop) (rv wv:Value) (ai wait:List (Int × Int)) (w wr:World) (k:Nat) (woke:Bool):Prop:=
 ∃ tk Fk pre,pre.length=k/\L.J wr tk Fk/\a7 wr p rv wv ai (pre ++ wait.drop k)/\eG Fk p rv wv/\aa (λb=>F b\/aG p rv wv b) w wr/\(∀ b,Fk b->F b\/w.heap.size<=b) /\
  (∀ e ∈ pre ++ wait.drop k,L.D tk e.1/\L.D tk e.2) /\
  wakeM L.alive kp t wait=((wakeM L.alive kp tk (wait.drop k)).1,pre ++ (wakeM L.alive kp tk (wait.drop k)).2.1,woke || (wakeM L.alive kp tk (wait.drop k)).2.2)
def yv {P:Program} {p:Nat} (L:eO P p τ) (kp:τ->Int->τ × Int) (t:τ) (F:Nat->Prop) (rv wv:Value) (ai wait:List (Int × Int)) (w:World) (e:Ending) (w':World):Prop:=
 e=.returned (.bool (wakeM L.alive kp t wait).2.2)/\∃ F',L.J w' (wakeM L.alive kp t wait).1 F'/\a7 w' p rv wv ai (wakeM L.alive kp t wait).2.1/\eG F' p rv wv/\aa (λb=>F b\/aG p rv wv b) w w'/\(∀ b,F' b->F b\/w.heap.size<=b) /\
  (∀ e ∈ (wakeM L.alive kp t wait).2.1,L.D (wakeM L.alive kp t wait).1 e.1/\L.D (wakeM L.alive kp t wait).1 e.2)
theorem fO.skip {P:Program} {p:Nat} {L:eO P p τ} {kp:τ->Int->τ × Int} {t tk:τ} {F Fk:Nat->Prop} {rv wv:Value} {ai wait pre:List (Int × Int)} {v:Int × Int} {w wr w2:World} {k:Nat} {woke:Bool}
  (hpk:pre.length=k) (hdr:wait.drop k=v :: wait.drop (k+1)) (hJ:L.J wr tk Fk) (hS:a7 wr p rv wv ai (pre ++ v :: wait.drop (k+1))) (hA:eG Fk p rv wv) (hK:aa (λb=>F b\/aG p rv wv b) w wr) (hF:∀ b,Fk b->F b\/w.heap.size<=b)
  (hD:∀ e ∈ pre ++ v :: wait.drop (k+1),L.D tk e.1/\L.D tk e.2)
  (hM:wakeM L.alive kp t wait=((wakeM L.alive kp tk (v :: wait.drop (k+1))).1,pre ++ (wakeM L.alive kp tk (v :: wait.drop (k+1))).2.1,woke || (wakeM L.alive kp tk (v :: wait.drop (k+1))).2.2))
  (hk2:aa (λ_=>False) wr w2) (hc:(L.alive tk v.1 && !L.alive tk v.2)=false):fO L kp t F rv wv ai wait w w2 (k+1) woke:=by
 have e:pre ++ v :: wait.drop (k+1)=(pre ++ [v]) ++ wait.drop (k+1):=by simp
 refine ⟨tk,Fk,pre ++ [v],by simp [hpk],L.J_keep hJ hk2 (λ_ _ h=>h),?_,hA,hK.trans (hk2.mono λ_ _ h=>h.elim),hF,?_,?_⟩
 ·rw [<-e];exact hS.ab hk2 (λ_ _ h=>h)
 ·rw [<-e];exact hD
 ·rw [hM];simp only [wakeM,hc,if_neg (show ¬ (false=true) by decide),List.append_assoc,List.cons_append,List.nil_append]
theorem fO.kept {P:Program} {p:Nat} {L:eO P p τ} {kp:τ->Int->τ × Int} {t tk:τ} {F Fk F2:Nat->Prop} {rv wv:Value} {ai wait pre:List (Int × Int)} {v:Int × Int} {w wr w2:World} {k:Nat} {woke:Bool}
  (hpk:pre.length=k) (hK:aa (λb=>F b\/aG p rv wv b) w wr) (hF:∀ b,Fk b->F b\/w.heap.size<=b)
  (hM:wakeM L.alive kp t wait=((wakeM L.alive kp tk (v :: wait.drop (k+1))).1,pre ++ (wakeM L.alive kp tk (v :: wait.drop (k+1))).2.1,woke || (wakeM L.alive kp tk (v :: wait.drop (k+1))).2.2))
  (hJ:L.J w2 (kp tk v.2).1 F2) (hS:a7 w2 p rv wv ai (pre ++ (v.1,(kp tk v.2).2) :: wait.drop (k+1))) (hA:eG F2 p rv wv) (hk2:aa (λb=>Fk b\/aG p rv wv b) wr w2) (hF2:∀ b,F2 b->Fk b\/wr.heap.size<=b)
  (hD:∀ e ∈ pre ++ (v.1,(kp tk v.2).2) :: wait.drop (k+1),L.D (kp tk v.2).1 e.1/\L.D (kp tk v.2).1 e.2)
  (hc:(L.alive tk v.1 && !L.alive tk v.2)=true):fO L kp t F rv wv ai wait w w2 (k+1) true:=by
 have e:pre ++ (v.1,(kp tk v.2).2) :: wait.drop (k+1)=(pre ++ [(v.1,(kp tk v.2).2)]) ++ wait.drop (k+1):=by simp
 refine ⟨_,F2,pre ++ [(v.1,(kp tk v.2).2)],by simp [hpk],hJ,?_,hA,hK.then hk2 ?_,?_,?_,?_⟩
 ·rw [<-e];exact hS
 ·rintro b (h | h)
  ·rcases hF b h with h | h
   ·exact .inl (.inl h)
   ·exact .inr h
  ·exact .inl (.inr h)
 ·intro b hb;rcases hF2 b hb with h | h
  ·exact hF b h
  ·exact .inr (Za hK.size h)
 ·rw [<-e];exact hD
 ·rw [hM];simp only [wakeM,hc,if_true,List.append_assoc,List.cons_append,List.nil_append,Bool.or_true,Bool.true_or]
theorem CO (p:Nat) (L:eO Tryz.prog p τ) (kp:τ->Int->τ × Int) (hsame:∀ t l x,L.ab t l x=((kp t x).1,l,(kp t x).2)) (t:τ) (F:Nat->Prop) (rv wv:Value) (ai wait:List (Int × Int)) (w:World)
  (hdk:∀ t x,L.D t x->L.alive t x=false->L.DK t x) (hJ:L.J w t F) (h:a7 w p rv wv ai wait) (hap:eG F p rv wv) (hl:wait.length<=1000000) (hD:∀ e ∈ wait,L.D t e.1/\L.D t e.2) :
  Calls Tryz.prog 125 #[.pointer (some ⟨p,0,none⟩),L.val] w λe w'=>yv L kp t F rv wv ai wait w e w':=by
 obtain ⟨wo,wc,rfl,hrd,_,_⟩:=h.hw.rd;have c1:=h.hp.cell 1;simp only [Lz,aB] at c1;have hpl:=h.hp.lt;have H:=Hz h;have HSM:=Hz hsame;have HDK:=Hz hdk;have HJ:=Hz hJ;have HA:=Hz hap;have HD:=Hz hD;clear h hrd hsame hdk hJ hap hD;have ea:=L.ea;have ek:=L.ek;have en:=L.en;generalize hbox:w.alloc (.cells #[.func (.func L.fa) L.a1 L.a2, .func (.func L.fk) L.k1 L.k2, .func (.func L.fn) L.n1 L.n2] 135)=wb;have hkb:aa (λb=>F b\/aG p rv (.slice wo wait.length wc) b) w wb:=by rw [<-hbox];exact (aa.refl _ _).alloc _
 have hbb:ak wb w.heap.size [.func (.func L.fa) L.a1 L.a2, .func (.func L.fk) L.k1 L.k2, .func (.func L.fn) L.n1 L.n2] 135:=by rw [<-hbox];exact ak.newAt _ rfl rfl
 have hszb:wb.heap.size=w.heap.size+1:=by rw [<-hbox];simp
 have hkb0:aa (λ_=>False) w wb:=by rw [<-hbox];exact (aa.refl _ _).alloc _
 have HI:fO L kp t F rv (.slice wo wait.length wc) ai wait wb wb 0 false:=
  ⟨t,F,[],rfl,L.J_keep HJ.o hkb0 (λ_ _ h=>h),H.o.ab hkb0 (λ_ _ h=>h),HA.o,aa.refl _ _,λb hb=>.inl hb,by simpa using HD.o,by simp⟩
 have HKB:=Hz hkb;have HBB:=Hz hbb;have HSZ:=Hz hszb;have HBX:=Hz hbox;clear hkb hbb hszb hkb0 hbox;unfold eO.val;go_enter Tryz.func125,Tryz.ntmps125;go_wp2_with fail;rw [HBX.o];go_loopw [5,14] (λv i wr=>∃ (k:Nat) (woke:Bool),k<=wait.length/\i=.int .i64 k/\v=.bool woke/\fO L kp t F rv (.slice wo wait.length wc) ai wait wb wr k woke) (λ_ i _=>wait.length-(intOf i).toNat)
 case atStart=>exact ⟨0,false,Zc _,rfl,rfl,HI⟩
 case round=>
  clear HI c1;obtain ⟨k,woke,hk,rfl,rfl,tk,Fk,pre,hpk,hJ,hS,hA,hK,hFk,hDk,hM⟩:=hrel;have GJ:=Hz hJ;have GS:=Hz hS;have GA:=Hz hA;have GK:=Hz hK;have GF:=Hz hFk;have GD:=Hz hDk;have GM:=Hz hM;have GP:=Hz hpk;clear hJ hS hA hK hFk hDk hM hpk;by_cases hlt:k<wait.length
  ·have hdr:wait.drop k=wait.getD k (0,0) :: wait.drop (k+1):=by
    rw [List.drop_eq_getElem_cons hlt];simp [List.getD,hlt]
   have hm:=GM.o;have hs:=GS.o;have hd:=GD.o;have HDR:=Hz hdr;rw [hdr] at hm hs hd;have hvd:=hd (wait.getD k (0,0)) (by simp);have hgt:(pre ++ wait.getD k (0,0) :: wait.drop (k+1)).getD k (0,0)=wait.getD k (0,0):=by
    simp [List.getD,GP.o]
   have hln:(pre ++ wait.getD k (0,0) :: wait.drop (k+1)).length=wait.length:=by simp [GP.o];omega
   generalize wait.getD k (0,0)=v at *;obtain ⟨g,o,cap,cur,he,hb,_,_,_,_⟩:=hs.hw.laid (by omega);rw [hln] at he;cases he;obtain ⟨_,_,e',hrd,_,_⟩:=hs.hw.rd;rw [hln] at e';cases e';obtain ⟨g',o',e',hgl,d0,d1⟩:=hrd.fZ k (by omega);cases e';rw [hgt] at d0 d1;have hbw:w.heap.size<wb.heap.size:=by rw [HSZ.o];omega
   have hbn:∀ b,(F b\/aG p rv (.slice (some ⟨g,o,none⟩) wait.length wc) b)->¬ b=w.heap.size:=by
    rintro b (h | h) rfl
    ·have:=L.J_lt HJ.o h;omega
    ·have:=H.o.jX h;omega
   have hbx:ak wr w.heap.size _ _:=GK.o.au HBB.o (λh=>hbn _ h rfl);have HX:=Hz hbx;have HM:=Hz hm;have HS:=Hz hs;have HD:=Hz hd;have HV:=Hz hvd;have HN:=Hz hbn;have b0:=hbx.cell 0;have b1:=hbx.cell 1;have bl:=hbx.lt;simp only [Lz,aB] at b0 b1;clear hm hs hd hvd hbx hbn hb hrd hgt hdr;have ALL:Hd (∀ w2,aa (λ_=>False) wr w2->(L.alive tk v.1 && !L.alive tk v.2)=false->fO L kp t F rv (.slice (some ⟨g,o,none⟩) wait.length wc) ai wait wb w2 (k+1) woke):=λw2 h1 h2=>fO.skip GP.o HDR.o GJ.o HS.o GA.o GK.o GF.o HD.o HM.o h1 h2;go_wp2_with fail;have hk0:=(Kz wr).alloc (.cells #[Value.int IntKind.i64 v.fst,Value.int IntKind.i64 v.snd] 119);refine (L.cX _ tk Fk v.1 (L.J_keep GJ.o hk0 (λ_ _ h=>h)) HV.o.1).mono ?_;rintro e w1 ⟨rfl,hk1⟩;have HK1:=Hz (hk0.trans hk1);have HE1:=Hz (hk1.au (ak.newAt (w:=wr) _ rfl rfl) (λh=>h));have x0:=(HK1.o.au HX.o (λh=>h)).cell 0;have xl:=(HK1.o.au HX.o (λh=>h)).lt;have e1:=HE1.o.cell 1;have el:=HE1.o.lt;simp only [Lz,aB] at x0 e1;clear hk0 hk1;cases ha:L.alive tk v.1
   ·go_wp2_with fail;go_roundw
    case rel=>exact ⟨k+1,woke,by omega,by go_num,rfl,ALL.o _ HK1.o (by rw [ha];rfl)⟩
    case measure=>simp [intOf];omega
   ·go_wp2_with fail;refine (L.cX _ tk Fk v.2 (L.J_keep GJ.o HK1.o (λ_ _ h=>h)) HV.o.2).mono ?_;rintro e w2 ⟨rfl,hk2⟩;have HK2:=Hz (HK1.o.trans hk2);have HE2:=Hz (hk2.au HE1.o (λh=>h));clear x0 xl e1 el;have x0:=(HK2.o.au HX.o (λh=>h)).cell 1;have xl:=(HK2.o.au HX.o (λh=>h)).lt;have e1:=HE2.o.cell 1;have el:=HE2.o.lt;simp only [Lz,aB] at x0 e1;clear hk2;cases hb:L.alive tk v.2
    ·go_wp2_with fail;refine (L.keep_c _ tk Fk rv _ ai _ v.2 (L.J_keep GJ.o HK2.o (λ_ _ h=>h)) (HS.o.ab HK2.o (λ_ _ h=>h)) GA.o (HDK.o _ _ HV.o.2 hb) HD.o (by omega)).mono ?_;rintro e w3 ⟨rfl,F3,hJ3,hS3,hA3,hk3,hF3⟩;have hdk:∀ e ∈ pre ++ v :: wait.drop (k+1),L.D (kp tk v.2).1 e.1/\L.D (kp tk v.2).1 e.2:=by
      intro e he;have:=HD.o e he;have a1:=L.D_keep (wait:=pre ++ v :: wait.drop (k+1)) (HDK.o _ _ HV.o.2 hb) this.1;have a2:=L.D_keep (wait:=pre ++ v :: wait.drop (k+1)) (HDK.o _ _ HV.o.2 hb) this.2;rw [HSM.o] at a1 a2;exact ⟨a1,a2⟩
     have hdn:=L.D_new (wait:=pre ++ v :: wait.drop (k+1)) (HDK.o _ _ HV.o.2 hb);have e3:(L.ab tk (pre ++ v :: wait.drop (k+1)) v.2).2.2=(kp tk v.2).2:=by rw [HSM.o]
     rw [e3];rw [HSM.o] at hJ3 hS3 hdn;replace hJ3:L.J w3 (kp tk v.2).1 F3:=hJ3;replace hS3:a7 w3 p rv (.slice (some ⟨g,o,none⟩) wait.length wc) ai (pre ++ v :: wait.drop (k+1)):=hS3;replace hdn:L.D (kp tk v.2).1 (kp tk v.2).2:=hdn;clear e3;have hpg:p≠g:=λe=>hS3.pw (by subst e;rfl);obtain ⟨g3,o3,cap3,cur3,he3,ew,_,_,_,_⟩:=hS3.hw.laid (by omega);rw [hln] at he3;cases he3;have HS3:=Hz (hS3.uF (kp tk v.2).2);have hk3':aa (λb=>Fk b\/aG p rv (.slice (some ⟨g,o,none⟩) wait.length wc) b) wr w3:=(HK2.o.mono λ_ _ h=>h.elim).trans hk3;have HF3:Hd (∀ b,F3 b->Fk b\/wr.heap.size<=b):=λb hb=>by
      rcases hF3 b hb with h | h
      ·exact .inl h
      ·exact .inr (Za HK2.o.size h)
     have hng:¬ F3 g:=λh=>hA3 g ⟨h, .inr (.inr rfl)⟩;have HJ3:=Hz (L.J_keep hJ3 ((aa.refl (·=g) w3).setCell (p:=⟨g,o+pre.length*2+1,none⟩) (.inl rfl) (.int .i64 (kp tk v.2).2)) (by rintro b hb rfl;exact hng hb));have HK3:=Hz (hk3'.setCell (p:=⟨g,o+pre.length*2+1,none⟩) (.inl (.inr (.inr (.inr rfl)))) (.int .i64 (kp tk v.2).2));have HA3:=Hz hA3;have p1:=hS3.hp.cell 1;have fz:=ew.free (o+k*2+1);obtain ⟨_,_,e3,hrd3,_,_⟩:=hS3.hw.rd;rw [hln] at e3;cases e3;obtain ⟨g3,o3,e3,_,q0,q1⟩:=hrd3.fZ k (by omega);cases e3;have gl:=ew.lt;have pl:=hS3.hp.lt;simp only [Lz,aB] at p1;rw [GP.o] at HJ3 HK3 HS3;have HDN:Hd (∀ e ∈ pre ++ (v.1,(kp tk v.2).2) :: wait.drop (k+1),L.D (kp tk v.2).1 e.1/\L.D (kp tk v.2).1 e.2):=by
      intro e he;simp only [List.mem_append,List.mem_cons] at he;rcases he with he | rfl | he
      ·exact hdk e (by simp [he])
      ·exact ⟨(hdk v (by simp)).1,hdn⟩
      ·exact hdk e (by simp [he])
     have HX3:Hd (w.heap.size<w3.heap.size):=Zd xl hk3.size;have hx3:=HX3.o;clear hrd3 hJ3 hS3 hA3 hk3 hF3 hdk hdn hk3' hng ew x0 xl e1 el;clear HX3;go_wp2_with fail;go_roundw
     case rel=>exact ⟨k+1,true,by omega,by go_num,rfl,fO.kept GP.o GK.o GF.o HM.o HJ3.o HS3.o HA3.o HK3.o HF3.o HDN.o (by rw [ha,hb];rfl)⟩
     case measure=>simp [intOf];omega
    ·go_wp2_with fail;go_roundw
     case rel=>exact ⟨k+1,woke,by omega,by go_num,rfl,ALL.o _ HK2.o (by rw [ha,hb];rfl)⟩
     case measure=>simp [intOf];omega
  ·obtain rfl:k=wait.length:=by omega
   go_wp2_with fail;go_ret;have hm:=GM.o;have hs:=GS.o;have hd:=GD.o;rw [List.drop_length] at hm hs hd;simp only [wakeM,List.append_nil,Bool.or_false] at hm hs hd;refine ⟨by rw [hm];rfl,Fk,by rw [hm];exact GJ.o,by rw [hm];exact hs,GA.o,HKB.o.trans GK.o,λb hb=>?_,by rw [hm];exact hd⟩;rcases GF.o b hb with h | h
   ·exact .inl h
   ·exact .inr (by rw [HSZ.o] at h;omega)
end
section
open Go.RowKit
variable {τ:Type}
def cntF (w:World) (b:Nat):Nat:=match w.heap[b]? with
 | some (.cells c _ _)=>(c.toList.filter λv=>match v with | .bool false=>true | _=>false).length
 | _=>0
theorem nG {w:World} {b:Nat} {l:List It} {T:TypeId} (h:ak w b (l.map λi=>.bool i.2.2) T):cntF w b=cN l:=by
 unfold ak at h;unfold cntF cN;rw [h];simp only [List.filter_map,Zp];congr 2
 funext i
 simp only [Function.comp];cases i.2.2 <;> rfl
def eO.cells {P:Program} {p:Nat} (L:eO P p τ):List Value:=[.func (.func L.fa) L.a1 L.a2, .func (.func L.fk) L.k1 L.k2, .func (.func L.fn) L.n1 L.n2]
structure ez {P:Program} {p:Nat} (L:eO P p τ) (w:World) (F:Nat->Prop) (rv wv:Value) (b0 b1 b2:Nat) (items:List It) (q:List (Int × Int)) (t':τ) (F':Nat->Prop) (wv':Value) (wr:World):Prop where
 hJ:L.J wr t' F'
 hS:a7 wr p rv wv' (items.map (·.1)) q
 hA:eG F' p rv wv'
 hK:aa (λb=>F b\/aG p rv wv b) w wr
 hF:∀ b,F' b->F b\/w.heap.size<=b
 hO:∀ b,aq wv' b->aq wv b\/w.heap.size<=b
 h0:ak wr b0 L.cells 135
 h1:ak wr b1 (items.map λi=>.bool i.2.1) 4
 h2:ak wr b2 (items.map λi=>.bool i.2.2) 4
 n0:¬ F' b0
 n1:¬ F' b1
 n2:¬ F' b2
 g0:w.heap.size<=b0
 g1:w.heap.size<=b1
 g2:w.heap.size<=b2
 b12:b1≠b2
 hq:∀ e ∈ q,L.D t' e.1/\L.D t' e.2
 hr:∀ i ∈ items,L.D t' i.1.1/\L.DK t' i.1.2
theorem a7.oh {w:World} {p b:Nat} {rv wv:Value} {ai wait:List (Int × Int)} {c:List Value} {T:TypeId} (h:a7 w p rv wv ai wait) (hb:ak w b c T) (h1:T≠84) (h2:T≠119):¬ aG p rv wv b:=by
 rintro (rfl | h' | h')
 ·exact hb.ne h.hp h1 rfl
 ·obtain ⟨_,cur,hc⟩:=h.hr.own h';exact hb.ne hc h2 rfl
 ·obtain ⟨_,cur,hc⟩:=h.hw.own h';exact hb.ne hc h2 rfl
section
variable {P:Program} {p:Nat} {L:eO P p τ} {w:World} {F:Nat->Prop} {rv wv:Value} {b0 b1 b2:Nat} {items:List It} {q:List (Int × Int)} {t':τ} {F':Nat->Prop} {wv':Value} {wr:World}
theorem ez.ab {w2:World} (h:ez L w F rv wv b0 b1 b2 items q t' F' wv' wr) (k:aa (λ_=>False) wr w2):ez L w F rv wv b0 b1 b2 items q t' F' wv' w2:=
 ⟨L.J_keep h.hJ k (λ_ _ h=>h),h.hS.ab k (λ_ _ h=>h),h.hA,h.hK.trans (k.mono λ_ _ h=>h.elim),h.hF,h.hO,k.au h.h0 (λh=>h),k.au h.h1 (λh=>h),k.au h.h2 (λh=>h),h.n0,h.n1,h.n2,h.g0,h.g1,h.g2,h.b12,h.hq,h.hr⟩
theorem ez.move {i:It} {a b:List It} (h:ez L w F rv wv b0 b1 b2 (a ++ i :: b) q t' F' wv' wr):ez L w F rv wv b0 b1 b2 (a ++ (i.1,i.2.1,true) :: b) q t' F' wv' (wr.setCell ⟨b2,a.length,none⟩ (.bool true)):=by
 have k:=(aa.refl (·=b2) wr).setCell (p:=⟨b2,a.length,none⟩) (.inl rfl) (.bool true);have hn:¬ aG p rv wv' b2:=h.hS.oh h.h2 (by decide) (by decide);refine ⟨L.J_keep h.hJ k (by rintro b hb rfl;exact h.n2 hb),?_,h.hA,h.hK.setCell (p:=⟨b2,a.length,none⟩) (.inr h.g2) _,h.hF,h.hO,k.au h.h0 (λe=>?_),?_,?_,h.n0,h.n1,h.n2,h.g0,h.g1,h.g2,h.b12,h.hq,?_⟩
 ·have:=h.hS.ab k (by rintro b hb rfl;exact hn hb);simpa using this
 ·subst e;exact h.h0.ne h.h2 (by decide) rfl
 ·have:=k.au h.h1 h.b12;simpa using this
 ·have:=h.h2.aE a.length (.bool true);simpa using this
 ·intro j hj;simp only [List.mem_append,List.mem_cons] at hj;rcases hj with hj | rfl | hj
  ·exact h.hr j (by simp [hj])
  ·exact h.hr i (by simp)
  ·exact h.hr j (by simp [hj])
theorem ez.kept {x:Int} {w2:World} {F2:Nat->Prop} (h:ez L w F rv wv b0 b1 b2 items q t' F' wv' wr) (hx:L.DK t' x)
  (hJ:L.J w2 (L.ab t' q x).1 F2) (hS:a7 w2 p rv wv' (items.map (·.1)) (L.ab t' q x).2.1) (hA:eG F2 p rv wv') (hk:aa (λk=>F' k\/aG p rv wv' k) wr w2) (hF2:∀ k,F2 k->F' k\/wr.heap.size<=k) :
  ez L w F rv wv b0 b1 b2 items (L.ab t' q x).2.1 (L.ab t' q x).1 F2 wv' w2:=by
 have out:∀ {b:Nat} {c:List Value} {T:TypeId},ak wr b c T->¬ F' b->T≠84->T≠119->ak w2 b c T/\¬ F2 b:=λ{b c T} hb hn h1 h2=>
  ⟨hk.au hb (by rintro (h3 | h3);exact hn h3;exact h.hS.oh hb h1 h2 h3),λh3=>by
   rcases hF2 _ h3 with h4 | h4
   ·exact hn h4
   ·have:=hb.lt;omega⟩
 refine ⟨hJ,hS,hA,h.hK.then hk ?_,?_,h.hO,(out h.h0 h.n0 (by decide) (by decide)).1,(out h.h1 h.n1 (by decide) (by decide)).1,(out h.h2 h.n2 (by decide) (by decide)).1,
  (out h.h0 h.n0 (by decide) (by decide)).2,(out h.h1 h.n1 (by decide) (by decide)).2,(out h.h2 h.n2 (by decide) (by decide)).2,h.g0,h.g1,h.g2,h.b12,L.D_wait hx h.hq,λi hi=>⟨L.D_keep hx (h.hr i hi).1,L.DK_keep hx (h.hr i hi).2⟩⟩
 ·rintro b (hb | hb | hb | hb)
  ·rcases h.hF b hb with h1 | h1
   ·exact .inl (.inl h1)
   ·exact .inr h1
  ·exact .inl (.inr (.inl hb))
  ·exact .inl (.inr (.inr (.inl hb)))
  ·rcases h.hO b hb with h1 | h1
   ·exact .inl (.inr (.inr (.inr h1)))
   ·exact .inr h1
 ·intro b hb;rcases hF2 b hb with h1 | h1
  ·exact h.hF b h1
  ·exact .inr (Za h.hK.size h1)
theorem ez.app {e:Int × Int} {w2:World} {v2:Value} (h:ez L w F rv wv b0 b1 b2 items q t' F' wv' wr) (he:L.D t' e.1/\L.D t' e.2)
  (hs:Sl w2 119 2 v2 (q ++ [e]).length (aH (q ++ [e]))) (hk:aa (aq wv') wr w2) (ho:∀ k,aq v2 k->aq wv' k\/wr.heap.size<=k) :
  ez L w F rv wv b0 b1 b2 items (q ++ [e]) t' F' v2 (w2.setCell ⟨p,1,none⟩ v2):=by
 have hkp:=(aa.refl (·=p) w2).setCell (p:=⟨p,1,none⟩) (.inl rfl) v2;have hpw:=h.hS.pw;have hp2:=hk.au h.hS.hp hpw;have hFp:¬ F' p:=λhb=>h.hA p ⟨hb, .inl rfl⟩;have out:∀ {b:Nat} {c:List Value} {T:TypeId},ak wr b c T->T≠84->T≠119->ak (w2.setCell ⟨p,1,none⟩ v2) b c T:=λ{b c T} hb h1 h2=>by
  have hn:=h.hS.oh hb h1 h2;exact hkp.au (hk.au hb (λh3=>hn (.inr (.inr h3)))) (λh3=>hn (.inl h3))
 have hv2p:¬ aq v2 p:=λhb=>by
  obtain ⟨_,cur,hc⟩:=hs.own hb;exact hp2.ne hc (by decide) rfl
 refine ⟨L.J_keep (L.J_keep h.hJ hk (λb hb h1=>h.hA b ⟨hb, .inr (.inr h1)⟩)) hkp (by rintro b hb rfl;exact hFp hb),⟨by simpa using hp2.aE 1 v2,?_,?_,?_⟩,?_,?_,h.hF,?_,out h.h0 (by decide) (by decide),out h.h1 (by decide) (by decide),out h.h2 (by decide) (by decide),
  h.n0,h.n1,h.n2,h.g0,h.g1,h.g2,h.b12,?_,h.hr⟩
 ·exact (h.hS.hr.ab hk (λb hb h1=>h.hS.ap b ⟨hb,h1⟩)).ab hkp (by rintro b hb rfl;exact h.hS.pr hb)
 ·exact hs.ab hkp (by rintro b hb rfl;exact hv2p hb)
 ·rintro b ⟨h1,h2⟩;rcases ho b h2 with h3 | h3
  ·exact h.hS.ap b ⟨h1,h3⟩
  ·have:=(h.hS.hr.own h1).1;omega
 ·rintro b ⟨h1,h2 | h2 | h2⟩
  ·exact h.hA b ⟨h1, .inl h2⟩
  ·exact h.hA b ⟨h1, .inr (.inl h2)⟩
  ·rcases ho b h2 with h3 | h3
   ·exact h.hA b ⟨h1, .inr (.inr h3)⟩
   ·have:=L.J_lt h.hJ h1;omega
 ·refine (h.hK.then hk (λb hb=>?_)).setCell (p:=⟨p,1,none⟩) (.inl (.inr (.inl rfl))) _;rcases h.hO b hb with h1 | h1
  ·exact .inl (.inr (.inr (.inr h1)))
  ·exact .inr h1
 ·intro b hb;rcases ho b hb with h1 | h1
  ·exact h.hO b h1
  ·exact .inr (Za h.hK.size h1)
 ·intro e' he';simp only [List.mem_append,List.mem_singleton] at he';rcases he' with he' | rfl
  ·exact h.hq _ he'
  ·exact he
end
def iP {P:Program} {p:Nat} (L:eO P p τ) (w:World) (F:Nat->Prop) (rv wv:Value) (b0 b1 b2:Nat) (t1:τ) (q1:List (Int × Int)) (items:List It) (N:Nat) (wr:World) (k:Nat) (more:Bool):Prop:=
 ∃ t' q' F' wv' done,done.length=k/\ez L w F rv wv b0 b1 b2 (done ++ items.drop k) q' t' F' wv' wr/\q'.length+cN (done ++ items.drop k)<=N /\
  scanM L.alive L.ab t1 q1 items=((scanM L.alive L.ab t' q' (items.drop k)).1,(scanM L.alive L.ab t' q' (items.drop k)).2.1,done ++ (scanM L.alive L.ab t' q' (items.drop k)).2.2.1,more || (scanM L.alive L.ab t' q' (items.drop k)).2.2.2)
theorem iP.skip {P:Program} {p:Nat} {L:eO P p τ} {w:World} {F:Nat->Prop} {rv wv:Value} {b0 b1 b2:Nat} {t1:τ} {q1:List (Int × Int)} {items:List It} {N:Nat} {wr w2:World} {k:Nat} {more:Bool}
  {t':τ} {q':List (Int × Int)} {F':Nat->Prop} {wv':Value} {done:List It} {i:It} (hd:done.length=k) (hdr:items.drop k=i :: items.drop (k+1)) (hm:ez L w F rv wv b0 b1 b2 (done ++ i :: items.drop (k+1)) q' t' F' wv' wr) (hN:q'.length+cN (done ++ i :: items.drop (k+1))<=N)
  (he:scanM L.alive L.ab t1 q1 items=((scanM L.alive L.ab t' q' (i :: items.drop (k+1))).1,(scanM L.alive L.ab t' q' (i :: items.drop (k+1))).2.1,done ++ (scanM L.alive L.ab t' q' (i :: items.drop (k+1))).2.2.1,more || (scanM L.alive L.ab t' q' (i :: items.drop (k+1))).2.2.2))
  (hk2:aa (λ_=>False) wr w2) (hc:((i.2.1 && !i.2.2) && L.alive t' i.1.1)=false):iP L w F rv wv b0 b1 b2 t1 q1 items N w2 (k+1) more:=by
 have e:done ++ i :: items.drop (k+1)=(done ++ [i]) ++ items.drop (k+1):=by simp
 refine ⟨t',q',F',wv',done ++ [i],by simp [hd],?_,?_,?_⟩
 ·rw [<-e];exact hm.ab hk2
 ·rw [<-e];exact hN
 ·rw [he];simp only [scanM,hc,if_neg (show ¬ (false=true) by decide),List.append_assoc,List.cons_append,List.nil_append]
theorem iP.zJ {P:Program} {p:Nat} {L:eO P p τ} {w:World} {F:Nat->Prop} {rv wv:Value} {b0 b1 b2:Nat} {t1:τ} {q1:List (Int × Int)} {items:List It} {N:Nat} {w2:World} {k:Nat} {more:Bool}
  {t':τ} {q':List (Int × Int)} {F2:Nat->Prop} {v2:Value} {done:List It} {i:It} (hd:done.length=k) (hN:q'.length+cN (done ++ i :: items.drop (k+1))<=N)
  (he:scanM L.alive L.ab t1 q1 items=((scanM L.alive L.ab t' q' (i :: items.drop (k+1))).1,(scanM L.alive L.ab t' q' (i :: items.drop (k+1))).2.1,done ++ (scanM L.alive L.ab t' q' (i :: items.drop (k+1))).2.2.1,more || (scanM L.alive L.ab t' q' (i :: items.drop (k+1))).2.2.2))
  (hm:ez L w F rv wv b0 b1 b2 (done ++ (i.1,i.2.1,true) :: items.drop (k+1)) ((L.ab t' q' i.1.2).2.1 ++ [(i.1.1,(L.ab t' q' i.1.2).2.2)]) (L.ab t' q' i.1.2).1 F2 v2 w2)
  (hc:((i.2.1 && !i.2.2) && L.alive t' i.1.1)=true):iP L w F rv wv b0 b1 b2 t1 q1 items N w2 (k+1) true:=by
 have e:done ++ (i.1,i.2.1,true) :: items.drop (k+1)=(done ++ [(i.1,i.2.1,true)]) ++ items.drop (k+1):=by simp
 refine ⟨(L.ab t' q' i.1.2).1,(L.ab t' q' i.1.2).2.1 ++ [(i.1.1,(L.ab t' q' i.1.2).2.2)],F2,v2,done ++ [(i.1,i.2.1,true)],by simp [hd],?_,?_,?_⟩
 ·rw [<-e];exact hm
 ·rw [<-e];simp only [Zr,Bool.not_eq_true'] at hc;simp only [Zq,L.keep_len,wi,iW,hc.1.2] at hN ⊢;simp at hN ⊢;omega
 ·rw [he];simp only [scanM,hc,if_true,List.append_assoc,List.cons_append,List.nil_append,Bool.or_true,Bool.true_or]
end
section
structure kC (s:Ms) (L:Int):Prop where
 len:(s.wk.length:Int)+s.ep.length<=L
 wb:∀ i ∈ s.wk,0<=i/\i<=1300
 eb:∀ i ∈ s.ep,0<=i/\i<=1300
theorem kC.bZ {s:Ms} {L:Int} (h:kC s L) (A:Ar):kC { s with A:=A } L:=⟨h.len,h.wb,h.eb⟩
theorem kC.more {s:Ms} {L M:Int} (h:kC s L) (hl:L<=M):kC s M:=⟨by have:=h.len;omega,h.wb,h.eb⟩
theorem kC.look {s:Ms} {L:Int} (h:kC s L) {i:Int} (h0:0<=i) (h1:i<=1300):kC (eD s i) (L+1):=by
 have hl:=h.len;have mem:∀ {l:List Int},(∀ j ∈ l,0<=j/\j<=1300)->∀ j ∈ l ++ [i],0<=j/\j<=1300:=λhl j hj=>by
  rcases Zk.1 hj with h | h
  ·exact hl j h
  ·rw [List.mem_singleton] at h;omega
 unfold eD;split
 ·exact ⟨by dsimp only;omega,h.wb,h.eb⟩
 ·split
  ·exact ⟨by simp;omega,mem h.wb,h.eb⟩
  ·split
   ·exact ⟨by simp;omega,h.wb,mem h.eb⟩
   ·exact ⟨by omega,h.wb,h.eb⟩
structure gG (s:Ms) (c:Int):Prop where
 ok:s.A.ok
 ms:kC s (1300+c)
 c0:0<=c
 c1:c<=1300
theorem gG.bZ {s:Ms} {c:Int} {A:Ar} (h:gG s c) (hA:A.ok):gG { s with A:=A } c:=⟨hA,h.ms.bZ A,h.c0,h.c1⟩
theorem rk {s:Ms} {c:Int} (n:Nat) (h:¬ c<s.A.grn):mScan n s c=(s,c):=by
 cases n with
 | zero=>rfl
 | succ n=>unfold mScan;rw [if_neg h]
theorem rm {s:Ms} {c:Int} (n:Nat) (h:c<s.A.grn):mScan (n+1) s c=mScan n (eD s c) (c+(1+(s.A.ah c).2.1)):=by
 rw [mScan,if_pos h]
theorem gG.look {s:Ms} {c:Int} (h:gG s c) (hc:c<s.A.grn):gG (eD s c) (c+(1+(s.A.ah c).2.1)):=by
 have hf:=s.A.aQ c;have h3:=h.ok.h3;have h4:=h.ok.h4;have:=h.c0;exact ⟨(Sm.look h.ok c).ok,(h.ms.look h.c0 h.c1).more (by omega),by omega,by omega⟩
theorem gG.scan:∀ (n:Nat) {s:Ms} {c:Int},gG s c->gG (mScan n s c).1 (mScan n s c).2/\c<=(mScan n s c).2/\(0<n->c<s.A.grn->c+1<=(mScan n s c).2)
 | 0,s,c,h=>⟨h,Int.le_refl _,λh=>by omega⟩
 | n+1,s,c,h=>by
  have hf:=s.A.aQ c;by_cases hc:c<s.A.grn
  ·rw [rm n hc];have ih:=gG.scan n (h.look hc);exact ⟨ih.1,by omega,λ_ _=>by omega⟩
  ·rw [rk _ hc];exact ⟨h,Int.le_refl _,λ_ h=>(hc h).elim⟩
def kx (q:List (Int × Int)):Prop:=∀ e ∈ q,rU e
theorem kx.fy:∀ (l:List (Int × Int)) {A:Ar},kx l->kx (wakeM aX jm A l).2.1
 | [],A,h=>h
 | e :: l,A,h=>by
  have h1:kx l:=λx hx=>h x (by simp [hx]);have h2:=h e (by simp);unfold wakeM;split
  ·intro x hx;rcases Zm.1 hx with rfl | hx
   ·exact ⟨h2.1,iu h2.2⟩
   ·exact kx.fy l h1 x hx
  ·intro x hx;rcases Zm.1 hx with rfl | hx
   ·exact h2
   ·exact kx.fy l h1 x hx
theorem gG.round {d:Md} (h:gG d.s d.c):gG (bJ d).s (bJ d).c/\d.c<=(bJ d).c/\(d.c<d.s.A.grn->d.c+1<=(bJ d).c):=by
 have h1:=gG.scan 2000 h;have h2:=Sm.q7 (mScan 2000 d.s d.c).1.ep h1.1.ok;have h3:=Sm.fy d.q h2.ok;exact ⟨h1.1.bZ h3.ok,h1.2.1,h1.2.2 (by decide)⟩
theorem kx.round {d:Md} (h:kx d.q):kx (bJ d).q:=kx.fy d.q h
theorem kx.drain:∀ (n:Nat) {d:Md},kx d.q->kx (mDrain n d).q
 | 0,d,h=>h
 | n+1,d,h=>by
  unfold mDrain;split
  ·exact kx.drain n h.round
  ·exact h.round
theorem vC {d:Md} (n:Nat) (h:(bJ d).c<(bJ d).s.A.grn):mDrain (n+1) d=mDrain n (bJ d):=by rw [mDrain,if_pos h]
theorem vD {d:Md} (n:Nat) (h:¬ (bJ d).c<(bJ d).s.A.grn):mDrain (n+1) d=bJ d:=by rw [mDrain,if_neg h]
theorem yw {d:Md} {s1:Ms} {c1:Int} {A2 A3:Ar} {q3:List (Int × Int)} {b:Bool} (h1:mScan 2000 d.s d.c=(s1,c1)) (h2:gE s1.A s1.ep=A2) (h3:wakeM aX jm A2 d.q=(A3,q3,b)):bJ d=⟨{ s1 with A:=A3 },c1,q3⟩:=by
 unfold bJ;rw [h1];dsimp only;rw [h2,h3]
end
section
structure dT (A:Ar) (T:Int->Prop):Prop where
 ok:A.ok
 bd:∀ i,T i->0<=i/\i<A.ws.length
 fd:∀ i,T i->∀ x ∈ A.fields i,x%4=1->T (x/4)
 two:∀ i,T i->((A.ah i).1=3\/(A.ah i).1=4)->A.load (i+1) ∈ A.fields i/\A.load (i+2) ∈ A.fields i
def Dm (T:Int->Prop) (x:Int):Prop:=x%4=1->T (x/4)
structure bM (A:Ar) (T:Int->Prop) (s:Gs) (L:Nat):Prop where
 len:s.lv.length=A.ws.length
 st:∀ i ∈ s.st,T i
 ep:∀ i ∈ s.ep,T i/\(A.ah i).1=4
 sum:s.st.length+s.ep.length+bS s.lv<=L
section
variable {A:Ar} {T:Int->Prop} {s:Gs} {L:Nat} {q:List (Int × Int)}
theorem bM.more {M:Nat} (h:bM A T s L) (hl:L<=M):bM A T s M:=⟨h.len,h.st,h.ep,by have:=h.sum;omega⟩
theorem sZ {x:Int} (h:¬ aS s x=true):x%4=1/\aw s.lv (x/4)=false:=by
 unfold aS at h;by_cases h1:x%4=1
 ·refine ⟨h1,?_⟩;simpa [h1] using h
 ·exact absurd (by simp [h1]) h
theorem bM.mark {x:Int} (h:bM A T s L) (H:dT A T) (hx:Dm T x):bM A T (cP s x) L/\jM (cP s x)=jM s/\(cP s x).ep=s.ep:=by
 unfold cP;split
 ·exact ⟨h,rfl,rfl⟩
 ·rename_i hn;obtain ⟨h1,h2⟩:=sZ hn;have hT:=hx h1;obtain ⟨b0,b1⟩:=H.bd _ hT;have hf:s.lv.getD (x/4).toNat false=false:=by
   unfold aw at h2;simpa [b0] using h2
  have hs:=nz (l:=s.lv) (i:=(x/4).toNat) (by rw [h.len];omega) hf;refine ⟨⟨by simp [h.len],λi hi=>?_,h.ep,?_⟩,?_,rfl⟩
  ·rcases Zk.1 hi with hi | hi
   ·exact h.st i hi
   ·rw [List.mem_singleton.1 hi];exact hT
  ·have:=h.sum;simp only [Zq,List.length_cons,List.length_nil];omega
  ·unfold jM;simp only [Zq,List.length_cons,List.length_nil];omega
theorem bM.marks (H:dT A T):∀ (l:List Int) {s:Gs},bM A T s L->(∀ x ∈ l,Dm T x)->bM A T (eL s l) L/\jM (eL s l)=jM s/\(eL s l).ep=s.ep
 | [],s,h,_=>⟨h,rfl,rfl⟩
 | x :: l,s,h,hl=>by
  obtain ⟨h1,e1,p1⟩:=h.mark H (hl x (by simp));obtain ⟨h2,e2,p2⟩:=bM.marks H l h1 (λy hy=>hl y (by simp [hy]));exact ⟨h2,e2.trans e1,p2.trans p1⟩
theorem bM.look {i:Int} (h:bM A T s L) (H:dT A T) (hi:T i):bM A T (jy A s i) (L+1)/\jM (jy A s i)=jM s:=by
 unfold jy;split
 ·obtain ⟨h1,e1,-⟩:=bM.marks H (A.fields i) h (λx hx=>H.fd i hi x hx);exact ⟨h1.more (by omega),e1⟩
 ·split
  ·rename_i h3;obtain ⟨h1,e1,-⟩:=h.mark H (x:=A.load (i+2)) (H.fd i hi _ (H.two i hi (.inl h3)).2);exact ⟨h1.more (by omega),e1⟩
  ·split
   ·rename_i h4;refine ⟨⟨h.len,h.st,λj hj=>?_,?_⟩,rfl⟩
    ·rcases Zk.1 hj with hj | hj
     ·exact h.ep j hj
     ·rw [List.mem_singleton.1 hj];exact ⟨hi,h4⟩
    ·have:=h.sum;simp only [Zq,List.length_cons,List.length_nil];omega
   ·exact ⟨h.more (by omega),rfl⟩
theorem bM.drop (h:bM A T s L) (hne:s.st≠[]):bM A T { s with st:=s.st.dropLast } (L-1)/\jM { s with st:=s.st.dropLast } + 1=jM s/\T (s.st.getLastD 0):=by
 obtain ⟨hm,he⟩:=oM hne;have hl:s.st.dropLast.length+1=s.st.length:=by
  rw [List.length_dropLast];have:=List.length_pos_iff.2 hne;omega
 refine ⟨⟨h.len,λi hi=>h.st i (List.dropLast_subset _ hi),h.ep,?_⟩,?_,h.st _ hm⟩
 ·have:=h.sum;dsimp only;omega
 ·unfold jM;dsimp only;omega
theorem bM.pop (h:bM A T s L) (H:dT A T) (hne:s.st≠[]):bM A T (i7 A s) L/\jM (i7 A s)+1=jM s:=by
 obtain ⟨h1,e1,hT⟩:=h.drop hne;obtain ⟨h2,e2⟩:=h1.look H hT;have:=h.sum;have hp:=List.length_pos_iff.2 hne;exact ⟨h2.more (by omega),by unfold i7;omega⟩
theorem bM.oN (H:dT A T):∀ (n:Nat) {s:Gs},bM A T s L->jM s<n->bM A T (jPops A n s) L/\(jPops A n s).st=[]/\jM (jPops A n s)<=jM s
 | 0,s,h,hm=>by omega
 | n+1,s,h,hm=>by
  unfold jPops;split
  ·rename_i he;exact ⟨h,he,Zb _⟩
  ·rename_i hne;obtain ⟨h1,e1⟩:=h.pop H hne;obtain ⟨h2,e2,e3⟩:=bM.oN H n h1 (by omega);exact ⟨h2,e2,by omega⟩
theorem bM.uj {i:Int} (h:bM A T s L) (H:dT A T) (hi:T i/\(A.ah i).1=4):bM A T (fL A s i) L/\jM (fL A s i)=jM s/\(fL A s i).ep=s.ep:=by
 unfold fL;split
 ·exact h.mark H (H.fd i hi.1 _ (H.two i hi.1 (.inr hi.2)).2)
 ·exact ⟨h,rfl,rfl⟩
theorem bM.nu (H:dT A T):∀ (l:List Int) {s:Gs},bM A T s L->(∀ i ∈ l,T i/\(A.ah i).1=4)->bM A T (iz A s l) L/\jM (iz A s l)=jM s
 | [],s,h,_=>⟨h,rfl⟩
 | i :: l,s,h,hl=>by
  obtain ⟨h1,e1,-⟩:=h.uj H (hl i (by simp));obtain ⟨h2,e2⟩:=bM.nu H l h1 (λj hj=>hl j (by simp [hj]));exact ⟨h2,e2.trans e1⟩
theorem bM.fy (H:dT A T):∀ (q:List (Int × Int)) {s:Gs},bM A T s L->(∀ e ∈ q,Dm T e.1/\Dm T e.2)->bM A T (wakeM aS lN s q).1 L/\jM (wakeM aS lN s q).1=jM s
 | [],s,h,_=>⟨h,rfl⟩
 | e :: q,s,h,hq=>by
  unfold wakeM;split
  ·obtain ⟨h1,e1,-⟩:=h.mark H (hq e (by simp)).2;obtain ⟨h2,e2⟩:=bM.fy H q (s:=(lN s e.2).1) h1 (λf hf=>hq f (by simp [hf]));exact ⟨h2,e2.trans e1⟩
  ·exact bM.fy H q h (λf hf=>hq f (by simp [hf]))
theorem yx {l:List Int} {k:Nat} (h:k<l.length):iz A s (l.take (k+1))=fL A (iz A s (l.take k)) (l.getD k 0):=by
 unfold iz;rw [<-List.take_append_getElem h,List.foldl_append,Ld,Le h];rfl
theorem pM {l:List Int} {k:Nat} (h:k<l.length):eL s (l.take (k+1))=cP (eL s (l.take k)) (l.getD k 0):=by
 unfold eL;rw [<-List.take_append_getElem h,List.foldl_append,Ld,Le h];rfl
theorem bM.round (h:bM A T s L) (H:dT A T) (hq:∀ e ∈ q,Dm T e.1/\Dm T e.2) (hm:jM s<2000):bM A T (dv A q s) L/\jM (dv A q s)<=jM s/\((dv A q s).st≠[]->bS (dv A q s).lv<bS (jPops A 2000 s).lv)/\jM (jPops A 2000 s)<=jM s:=by
 obtain ⟨h1,e1,m1⟩:=bM.oN H 2000 h hm;obtain ⟨h2,m2⟩:=bM.nu H (jPops A 2000 s).ep h1 h1.ep;obtain ⟨h3,m3⟩:=bM.fy H q h2 hq;refine ⟨h3,?_,λhne=>?_,m1⟩
 ·unfold dv;omega
 ·have:=List.length_pos_iff.2 hne;have e0:(jPops A 2000 s).st.length=0:=by rw [e1];rfl
  have m4:(dv A q s).st.length+bS (dv A q s).lv=(jPops A 2000 s).st.length+bS (jPops A 2000 s).lv:=m3.trans m2;clear m1 m2 m3;omega
theorem rp (x:Int) (h:bM A T s L) (H:dT A T) (hx:Dm T x):bS (cP s x).lv<=bS s.lv:=by
 have:=(h.mark H hx).2.1;unfold cP at this ⊢;split
 ·exact Zb _
 ·rename_i hn;rw [if_neg hn] at this;unfold jM at this;simp only [Zq,List.length_cons,List.length_nil] at this;dsimp only;omega
theorem pN (H:dT A T):∀ (l:List Int) {s:Gs},bM A T s L->(∀ x ∈ l,Dm T x)->bS (eL s l).lv<=bS s.lv
 | [],s,h,_=>Zb _
 | x :: l,s,h,hl=>Za (pN H l (h.mark H (hl x (by simp))).1 (λy hy=>hl y (by simp [hy]))) (rp x h H (hl x (by simp)))
theorem xA {i:Int} (h:bM A T s L) (H:dT A T) (hi:T i):bS (jy A s i).lv<=bS s.lv:=by
 unfold jy;split
 ·exact pN H _ h (λx hx=>H.fd i hi x hx)
 ·split
  ·rename_i h3;exact rp _ h H (H.fd i hi _ (H.two i hi (.inl h3)).2)
  ·split
   ·exact Zb _
   ·exact Zb _
theorem yy (h:bM A T s L) (H:dT A T) (hne:s.st≠[]):bS (i7 A s).lv<=bS s.lv:=by
 obtain ⟨h1,e1,hT⟩:=h.drop hne;exact xA h1 H hT
theorem nH (H:dT A T):∀ (n:Nat) {s:Gs},bM A T s L->bS (jPops A n s).lv<=bS s.lv
 | 0,s,h=>Zb _
 | n+1,s,h=>by
  unfold jPops;split
  ·exact Zb _
  ·rename_i hne;exact Za (nH H n (h.pop H hne).1) (yy h H hne)
theorem vE (h:bM A T s L) (H:dT A T) (hq:∀ e ∈ q,Dm T e.1/\Dm T e.2) (hm:jM s<2000):bS (dv A q s).lv<=bS s.lv:=by
 obtain ⟨h1,e1,m1⟩:=bM.oN H 2000 h hm;obtain ⟨h2,m2⟩:=bM.nu H (jPops A 2000 s).ep h1 h1.ep;obtain ⟨h3,m3⟩:=bM.fy H q h2 hq;have e0:(jPops A 2000 s).st.length=0:=by rw [e1];rfl
 have m4:(dv A q s).st.length+bS (dv A q s).lv=(jPops A 2000 s).st.length+bS (jPops A 2000 s).lv:=m3.trans m2;have:=nH H 2000 h;omega
theorem zK (s:Gs) (x:Int):(cP s x).ep=s.ep:=by unfold cP;split <;> rfl
theorem wH (A:Ar):∀ (l:List Int) (s:Gs),(iz A s l).ep=s.ep
 | [],s=>rfl
 | i :: l,s=>by
  show (iz A (fL A s i) l).ep=_
  rw [wH A l];unfold fL;split
  ·exact zK _ _
  ·rfl
end
theorem aI.shut {O:Wo} {W:Wd} {φ:Int->Int} (R:aI O W φ):dT O.ar (λp=>∃ i,W.live i/\φ i=p):=by
 have key:∀ i,W.live i->∀ x ∈ O.ar.fields (φ i), ∃ v ∈ (W.th i).fs,x=az φ v:=λi hi x hx=>by
  unfold Ar.fields at hx;rw [R.th i hi] at hx;simp only [List.mem_map,List.mem_range] at hx;obtain ⟨j,hj,rfl⟩:=hx;have hj':j<(W.th i).fs.length:=by omega
  exact ⟨(W.th i).fs[j],Ze _,R.fl i hi j _ (Le hj')⟩
 refine ⟨R.ho.ha,?_,?_,?_⟩
 ·rintro p ⟨i,hi,rfl⟩;have h1:=R.ho.ha.h1;have h2:=R.ho.ha.h2;have h3:=R.ho.ha.h3;cases ho:(W.th i).aK
  ·have:=Tile.mem R.ty _ (R.iny i hi ho);have:=O.ar.aQ (φ i);omega
  ·have:=Tile.mem R.tz _ (R.ino i hi ho);have:=O.ar.aQ (φ i);omega
 ·rintro p ⟨i,hi,rfl⟩ x hx h1;obtain ⟨v,hv,rfl⟩:=key i hi x hx;have hok:=R.hw.tv i hi v hv;have h3:=(fX hok).1 h1;refine ⟨v.2,Wd.aY hok h3,?_⟩;rw [bK φ h3];omega
 ·rintro p ⟨i,hi,rfl⟩ h34;rw [R.th i hi] at h34;have hf:=R.hw.tk i hi;have h2:(W.th i).fs.length=2:=by
   unfold bj at hf;simp at hf;dsimp only at h34;rcases hf with (hf | hf) | hf <;> omega
  unfold Ar.fields;rw [R.th i hi];simp only [h2];exact ⟨Zi.2 ⟨0,by simp,by simp⟩,Zi.2 ⟨1,by simp,by congr 1;omega⟩⟩
end
section
open Go.RowKit
variable {τ:Type}
theorem Bt (p:Nat) (L:eO Tryz.prog p τ) (kp:τ->Int->τ × Int) (hsame:∀ t l x,L.ab t l x=((kp t x).1,l,(kp t x).2)) (t:τ) (F:Nat->Prop) (rv wv:Value) (ai wait:List (Int × Int)) (w:World)
  (hdk:∀ t x,L.D t x->L.alive t x=false->L.DK t x) (hJ:L.J w t F) (h:a7 w p rv wv ai wait) (hap:eG F p rv wv) (hl:wait.length<=1000000) (hD:∀ e ∈ wait,L.D t e.1/\L.D t e.2) :
  Calls Tryz.prog 125 #[.pointer (some ⟨p,0,none⟩), .agg #[.func (.func L.fa) L.a1 L.a2, .func (.func L.fk) L.k1 L.k2, .nilFunc]] w λe w'=>yv L kp t F rv wv ai wait w e w':=by
 obtain ⟨wo,wc,rfl,hrd,_,_⟩:=h.hw.rd;have c1:=h.hp.cell 1;simp only [Lz,aB] at c1;have hpl:=h.hp.lt;have H:=Hz h;have HSM:=Hz hsame;have HDK:=Hz hdk;have HJ:=Hz hJ;have HA:=Hz hap;have HD:=Hz hD;clear h hrd hsame hdk hJ hap hD;have ea:=L.ea;have ek:=L.ek;have en:=L.en;generalize hbox:w.alloc (.cells #[.func (.func L.fa) L.a1 L.a2, .func (.func L.fk) L.k1 L.k2, .nilFunc] 135)=wb;have hkb:aa (λb=>F b\/aG p rv (.slice wo wait.length wc) b) w wb:=by rw [<-hbox];exact (aa.refl _ _).alloc _
 have hbb:ak wb w.heap.size [.func (.func L.fa) L.a1 L.a2, .func (.func L.fk) L.k1 L.k2, .nilFunc] 135:=by rw [<-hbox];exact ak.newAt _ rfl rfl
 have hszb:wb.heap.size=w.heap.size+1:=by rw [<-hbox];simp
 have hkb0:aa (λ_=>False) w wb:=by rw [<-hbox];exact (aa.refl _ _).alloc _
 have HI:fO L kp t F rv (.slice wo wait.length wc) ai wait wb wb 0 false:=
  ⟨t,F,[],rfl,L.J_keep HJ.o hkb0 (λ_ _ h=>h),H.o.ab hkb0 (λ_ _ h=>h),HA.o,aa.refl _ _,λb hb=>.inl hb,by simpa using HD.o,by simp⟩
 have HKB:=Hz hkb;have HBB:=Hz hbb;have HSZ:=Hz hszb;have HBX:=Hz hbox;clear hkb hbb hszb hkb0 hbox;go_enter Tryz.func125,Tryz.ntmps125;go_wp2_with fail;rw [HBX.o];go_loopw [5,14] (λv i wr=>∃ (k:Nat) (woke:Bool),k<=wait.length/\i=.int .i64 k/\v=.bool woke/\fO L kp t F rv (.slice wo wait.length wc) ai wait wb wr k woke) (λ_ i _=>wait.length-(intOf i).toNat)
 case atStart=>exact ⟨0,false,Zc _,rfl,rfl,HI⟩
 case round=>
  clear HI c1;obtain ⟨k,woke,hk,rfl,rfl,tk,Fk,pre,hpk,hJ,hS,hA,hK,hFk,hDk,hM⟩:=hrel;have GJ:=Hz hJ;have GS:=Hz hS;have GA:=Hz hA;have GK:=Hz hK;have GF:=Hz hFk;have GD:=Hz hDk;have GM:=Hz hM;have GP:=Hz hpk;clear hJ hS hA hK hFk hDk hM hpk;by_cases hlt:k<wait.length
  ·have hdr:wait.drop k=wait.getD k (0,0) :: wait.drop (k+1):=by
    rw [List.drop_eq_getElem_cons hlt];simp [List.getD,hlt]
   have hm:=GM.o;have hs:=GS.o;have hd:=GD.o;have HDR:=Hz hdr;rw [hdr] at hm hs hd;have hvd:=hd (wait.getD k (0,0)) (by simp);have hgt:(pre ++ wait.getD k (0,0) :: wait.drop (k+1)).getD k (0,0)=wait.getD k (0,0):=by
    simp [List.getD,GP.o]
   have hln:(pre ++ wait.getD k (0,0) :: wait.drop (k+1)).length=wait.length:=by simp [GP.o];omega
   generalize wait.getD k (0,0)=v at *;obtain ⟨g,o,cap,cur,he,hb,_,_,_,_⟩:=hs.hw.laid (by omega);rw [hln] at he;cases he;obtain ⟨_,_,e',hrd,_,_⟩:=hs.hw.rd;rw [hln] at e';cases e';obtain ⟨g',o',e',hgl,d0,d1⟩:=hrd.fZ k (by omega);cases e';rw [hgt] at d0 d1;have hbw:w.heap.size<wb.heap.size:=by rw [HSZ.o];omega
   have hbn:∀ b,(F b\/aG p rv (.slice (some ⟨g,o,none⟩) wait.length wc) b)->¬ b=w.heap.size:=by
    rintro b (h | h) rfl
    ·have:=L.J_lt HJ.o h;omega
    ·have:=H.o.jX h;omega
   have hbx:ak wr w.heap.size _ _:=GK.o.au HBB.o (λh=>hbn _ h rfl);have HX:=Hz hbx;have HM:=Hz hm;have HS:=Hz hs;have HD:=Hz hd;have HV:=Hz hvd;have HN:=Hz hbn;have b0:=hbx.cell 0;have b1:=hbx.cell 1;have bl:=hbx.lt;simp only [Lz,aB] at b0 b1;clear hm hs hd hvd hbx hbn hb hrd hgt hdr;have ALL:Hd (∀ w2,aa (λ_=>False) wr w2->(L.alive tk v.1 && !L.alive tk v.2)=false->fO L kp t F rv (.slice (some ⟨g,o,none⟩) wait.length wc) ai wait wb w2 (k+1) woke):=λw2 h1 h2=>fO.skip GP.o HDR.o GJ.o HS.o GA.o GK.o GF.o HD.o HM.o h1 h2;go_wp2_with fail;have hk0:=(Kz wr).alloc (.cells #[Value.int IntKind.i64 v.fst,Value.int IntKind.i64 v.snd] 119);refine (L.cX _ tk Fk v.1 (L.J_keep GJ.o hk0 (λ_ _ h=>h)) HV.o.1).mono ?_;rintro e w1 ⟨rfl,hk1⟩;have HK1:=Hz (hk0.trans hk1);have HE1:=Hz (hk1.au (ak.newAt (w:=wr) _ rfl rfl) (λh=>h));have x0:=(HK1.o.au HX.o (λh=>h)).cell 0;have xl:=(HK1.o.au HX.o (λh=>h)).lt;have e1:=HE1.o.cell 1;have el:=HE1.o.lt;simp only [Lz,aB] at x0 e1;clear hk0 hk1;cases ha:L.alive tk v.1
   ·go_wp2_with fail;go_roundw
    case rel=>exact ⟨k+1,woke,by omega,by go_num,rfl,ALL.o _ HK1.o (by rw [ha];rfl)⟩
    case measure=>simp [intOf];omega
   ·go_wp2_with fail;refine (L.cX _ tk Fk v.2 (L.J_keep GJ.o HK1.o (λ_ _ h=>h)) HV.o.2).mono ?_;rintro e w2 ⟨rfl,hk2⟩;have HK2:=Hz (HK1.o.trans hk2);have HE2:=Hz (hk2.au HE1.o (λh=>h));clear x0 xl e1 el;have x0:=(HK2.o.au HX.o (λh=>h)).cell 1;have xl:=(HK2.o.au HX.o (λh=>h)).lt;have e1:=HE2.o.cell 1;have el:=HE2.o.lt;simp only [Lz,aB] at x0 e1;clear hk2;cases hb:L.alive tk v.2
    ·go_wp2_with fail;refine (L.keep_c _ tk Fk rv _ ai _ v.2 (L.J_keep GJ.o HK2.o (λ_ _ h=>h)) (HS.o.ab HK2.o (λ_ _ h=>h)) GA.o (HDK.o _ _ HV.o.2 hb) HD.o (by omega)).mono ?_;rintro e w3 ⟨rfl,F3,hJ3,hS3,hA3,hk3,hF3⟩;have hdk:∀ e ∈ pre ++ v :: wait.drop (k+1),L.D (kp tk v.2).1 e.1/\L.D (kp tk v.2).1 e.2:=by
      intro e he;have:=HD.o e he;have a1:=L.D_keep (wait:=pre ++ v :: wait.drop (k+1)) (HDK.o _ _ HV.o.2 hb) this.1;have a2:=L.D_keep (wait:=pre ++ v :: wait.drop (k+1)) (HDK.o _ _ HV.o.2 hb) this.2;rw [HSM.o] at a1 a2;exact ⟨a1,a2⟩
     have hdn:=L.D_new (wait:=pre ++ v :: wait.drop (k+1)) (HDK.o _ _ HV.o.2 hb);have e3:(L.ab tk (pre ++ v :: wait.drop (k+1)) v.2).2.2=(kp tk v.2).2:=by rw [HSM.o]
     rw [e3];rw [HSM.o] at hJ3 hS3 hdn;replace hJ3:L.J w3 (kp tk v.2).1 F3:=hJ3;replace hS3:a7 w3 p rv (.slice (some ⟨g,o,none⟩) wait.length wc) ai (pre ++ v :: wait.drop (k+1)):=hS3;replace hdn:L.D (kp tk v.2).1 (kp tk v.2).2:=hdn;clear e3;have hpg:p≠g:=λe=>hS3.pw (by subst e;rfl);obtain ⟨g3,o3,cap3,cur3,he3,ew,_,_,_,_⟩:=hS3.hw.laid (by omega);rw [hln] at he3;cases he3;have HS3:=Hz (hS3.uF (kp tk v.2).2);have hk3':aa (λb=>Fk b\/aG p rv (.slice (some ⟨g,o,none⟩) wait.length wc) b) wr w3:=(HK2.o.mono λ_ _ h=>h.elim).trans hk3;have HF3:Hd (∀ b,F3 b->Fk b\/wr.heap.size<=b):=λb hb=>by
      rcases hF3 b hb with h | h
      ·exact .inl h
      ·exact .inr (Za HK2.o.size h)
     have hng:¬ F3 g:=λh=>hA3 g ⟨h, .inr (.inr rfl)⟩;have HJ3:=Hz (L.J_keep hJ3 ((aa.refl (·=g) w3).setCell (p:=⟨g,o+pre.length*2+1,none⟩) (.inl rfl) (.int .i64 (kp tk v.2).2)) (by rintro b hb rfl;exact hng hb));have HK3:=Hz (hk3'.setCell (p:=⟨g,o+pre.length*2+1,none⟩) (.inl (.inr (.inr (.inr rfl)))) (.int .i64 (kp tk v.2).2));have HA3:=Hz hA3;have p1:=hS3.hp.cell 1;have fz:=ew.free (o+k*2+1);obtain ⟨_,_,e3,hrd3,_,_⟩:=hS3.hw.rd;rw [hln] at e3;cases e3;obtain ⟨g3,o3,e3,_,q0,q1⟩:=hrd3.fZ k (by omega);cases e3;have gl:=ew.lt;have pl:=hS3.hp.lt;simp only [Lz,aB] at p1;rw [GP.o] at HJ3 HK3 HS3;have HDN:Hd (∀ e ∈ pre ++ (v.1,(kp tk v.2).2) :: wait.drop (k+1),L.D (kp tk v.2).1 e.1/\L.D (kp tk v.2).1 e.2):=by
      intro e he;simp only [List.mem_append,List.mem_cons] at he;rcases he with he | rfl | he
      ·exact hdk e (by simp [he])
      ·exact ⟨(hdk v (by simp)).1,hdn⟩
      ·exact hdk e (by simp [he])
     have HX3:Hd (w.heap.size<w3.heap.size):=Zd xl hk3.size;have hx3:=HX3.o;clear hrd3 hJ3 hS3 hA3 hk3 hF3 hdk hdn hk3' hng ew x0 xl e1 el;clear HX3;go_wp2_with fail;go_roundw
     case rel=>exact ⟨k+1,true,by omega,by go_num,rfl,fO.kept GP.o GK.o GF.o HM.o HJ3.o HS3.o HA3.o HK3.o HF3.o HDN.o (by rw [ha,hb];rfl)⟩
     case measure=>simp [intOf];omega
    ·go_wp2_with fail;go_roundw
     case rel=>exact ⟨k+1,woke,by omega,by go_num,rfl,ALL.o _ HK2.o (by rw [ha,hb];rfl)⟩
     case measure=>simp [intOf];omega
  ·obtain rfl:k=wait.length:=by omega
   go_wp2_with fail;go_ret;have hm:=GM.o;have hs:=GS.o;have hd:=GD.o;rw [List.drop_length] at hm hs hd;simp only [wakeM,List.append_nil,Bool.or_false] at hm hs hd;refine ⟨by rw [hm];rfl,Fk,by rw [hm];exact GJ.o,by rw [hm];exact hs,GA.o,HKB.o.trans GK.o,λb hb=>?_,by rw [hm];exact hd⟩;rcases GF.o b hb with h | h
   ·exact .inl h
   ·exact .inr (by rw [HSZ.o] at h;omega)
end
section
theorem uG {f:List Int} {sz:Int->Int}:∀ {l:List Int} {a b:Int} {A:Ar} (k:Nat),fN sz (eE f) l a b->uv sz A.ws.length l a->(∀ p ∈ l,A.aM p=true/\1+(A.ah p).2.1=sz p)->l.Nodup->(∀ p,0<=sz p)->k<l.length ->
  ((l.take k).foldl (bx f) A).ah (l.getD k 0)=A.ah (l.getD k 0)/\((l.take k).foldl (bx f) A).ws.length=A.ws.length/\(∀ x ∈ ((l.take k).foldl (bx f) A).ws,x ∈ A.ws) /\
   ((l.take k).foldl (bx f) A).nur=A.nur/\((l.take k).foldl (bx f) A).yng=A.yng/\((l.take k).foldl (bx f) A).grn=A.grn /\
   0<=eE f (l.getD k 0)/\eE f (l.getD k 0)+sz (l.getD k 0)<=A.ws.length/\0<=l.getD k 0/\l.getD k 0+sz (l.getD k 0)<=A.ws.length
 | [],_,_,_,k,_,_,_,_,_,hk=>by simp at hk
 | p :: l,a,b,A,0,hs,hd,hz,hn,h0,_=>by
  obtain ⟨d0,dp,d1,d2,d3,d4⟩:=hd;have e:eE f p=a:=hs.1;simp only [List.take_zero,List.foldl_nil,List.getD_cons_zero];exact ⟨by trivial,by trivial,λ_ h=>h,by trivial,by trivial,by trivial,by omega,by omega,dp,d1⟩
 | p :: l,a,b,A,k+1,hs,hd,hz,hn,h0,hk=>by
  obtain ⟨d0,dp,d1,d2,d3,d4⟩:=hd;have hp:=hz p (by simp);rw [List.nodup_cons] at hn;obtain ⟨k1,k2,k3,k4,k5,k6⟩:=pL (A:=A) (f:=f) (p:=p) (a:=a) hs.1 d0 dp (by rw [hp.2];exact d1) (by rw [hp.2];exact d2);rw [hp.2] at k2;have huse:∀ x,(bx f A p).aM x=A.aM x:=λx=>by unfold Ar.aM Ar.aA Ar.aK;rw [k4,k5,k6]
  have same:∀ q ∈ l,(bx f A p).ah q=A.ah q:=λq hq=>by
   have h:=hz q (by simp [hq]);have hq0:0<=q:=by
    have:=h.1;unfold Ar.aM at this;rw [Bool.or_eq_true,bU,dq] at this;omega
   have e:(bx f A p).load q=A.load q:=by
    rw [jP h.1,jP (by rw [huse];exact h.1),k2 q hq0,if_neg];have:=d3 q hq;have:=h0 q;have h1:=A.aQ q;omega
   exact cR e
  have hz':∀ q ∈ l,(bx f A p).aM q=true/\1+((bx f A p).ah q).2.1=sz q:=λq hq=>by
   have h:=hz q (by simp [hq]);exact ⟨by rw [huse];exact h.1,by rw [same q hq];exact h.2⟩
  have hk':k<l.length:=by simpa using hk
  obtain ⟨m1,m2,m3,m4,m5,m6,m7,m8,m9,m10⟩:=uG (f:=f) (sz:=sz) (l:=l) (a:=a+sz p) (b:=b) (A:=bx f A p) k hs.2 (by rw [k1];exact d4) hz' hn.2 h0 hk';have hm:l.getD k 0 ∈ l:=by rw [Ld,Le hk'];exact Ze _
  simp only [List.take_succ_cons,List.foldl_cons,List.getD_cons_succ];rw [k1] at m2 m8 m10;exact ⟨m1.trans (same _ hm),m2,λx hx=>k3 x (m3 x hx),m4.trans k4,m5.trans k5,m6.trans k6,m7,m8,m9,m10⟩
section
variable {O:Wo} {W:Wd} {φ:Int->Int}
def Wo.dm (O:Wo) (x:Int):Prop:=x%4=1->0<=x/4/\x/4<O.ar.ws.length
theorem aI.pB (R:aI O W φ) {i:Int} (hi:W.live i):0<=φ i/\φ i+1+(W.th i).fs.length<=O.ar.ws.length:=by
 have h1:=R.ho.ha.h1;have h2:=R.ho.ha.h2;have h3:=R.ho.ha.h3;cases ho:(W.th i).aK
 ·have:=Tile.mem R.ty _ (R.iny i hi ho);rw [R.th i hi] at this;dsimp only at this;omega
 ·have:=Tile.mem R.tz _ (R.ino i hi ho);rw [R.th i hi] at this;dsimp only at this;omega
theorem aI.CP (R:aI O W φ) {v:Vl} (hv:W.cI v):O.dm (az φ v):=λh=>by
 have h3:=(fX hv).1 h;have:=R.pB (Wd.aY hv h3);rw [bK φ h3,show (4*φ v.2+1)/4=φ v.2 by omega];omega
theorem aI.uH (R:aI O W φ) {v:Vl} (hv:W.cI v):Dm (λp=>∃ i,W.live i/\φ i=p) (az φ v):=λh=>by
 have h3:=(fX hv).1 h;refine ⟨v.2,Wd.aY hv h3,?_⟩;rw [bK φ h3];omega
theorem aI.AB (R:aI O W φ):∀ x ∈ O.rt,Dm (λp=>∃ i,W.live i/\φ i=p) x:=λx hx=>by
 rw [R.rt] at hx;obtain ⟨v,hv,rfl⟩:=Zi.1 hx;exact R.uH (R.hw.rv v hv)
theorem aI.xB (R:aI O W φ) {e:Int × Int} (he:W.dL e):Dm (λp=>∃ i,W.live i/\φ i=p) (bs φ e).1/\Dm (λp=>∃ i,W.live i/\φ i=p) (bs φ e).2:=by
 rw [dR];exact ⟨R.uH (v:=(3,e.1)) (.inr (.inr (.inr ⟨rfl,he.1⟩))),R.uH (v:=(3,e.2)) (.inr (.inr (.inr ⟨rfl,he.2.2⟩)))⟩
theorem aI.DN (R:aI O W φ):∀ e ∈ O.rg,Dm (λp=>∃ i,W.live i/\φ i=p) e.1/\Dm (λp=>∃ i,W.live i/\φ i=p) e.2:=λe he=>by
 rw [R.rg] at he;obtain ⟨g,hg,rfl⟩:=Zi.1 he;exact R.xB (R.hw.gv g hg)
theorem aI.DO (R:aI O W φ):∀ e ∈ O.wt,Dm (λp=>∃ i,W.live i/\φ i=p) e.1/\Dm (λp=>∃ i,W.live i/\φ i=p) e.2:=λe he=>by
 rw [R.wt] at he;obtain ⟨g,hg,rfl⟩:=Zi.1 he;exact R.xB (R.hw.wv g hg)
theorem Dm.dm (R:aI O W φ) {x:Int} (h:Dm (λp=>∃ i,W.live i/\φ i=p) x):O.dm x:=λh1=>by
 obtain ⟨i,hi,e⟩:=h h1;have:=R.pB hi;omega
theorem aI.CQ (R:aI O W φ) {e:Int × Int} (he:W.dL e):O.dm (bs φ e).1/\O.dm (bs φ e).2:=⟨(R.xB he).1.dm R,(R.xB he).2.dm R⟩
theorem aI.Bu (R:aI O W φ):∀ e ∈ bq aS fM (ck O).1 (ck O).2.2,O.dm e.1/\O.dm e.2:=λe he=>by
 obtain ⟨P,hq,hI⟩:=R.jo;obtain ⟨m,hfst,hcnt,hits⟩:=Wd.eR R.hw true;unfold bq at he;obtain ⟨i,hi,rfl⟩:=Zi.1 he;have hi:=(Zo.1 hi).1;rw [hI] at hi;obtain ⟨j,hj,rfl⟩:=Zi.1 hi;have h1:(j.1,j.2.1) ∈ (W.pass true).2.2.map (λi=>(i.1,i.2.1)):=Zi.2 ⟨j,hj,rfl⟩;rw [hits] at h1;obtain ⟨g,hg,e2⟩:=Zi.1 h1;have e3:g=j.1:=congrArg (λp:(Int × Int) × Bool=>p.1) e2;have:=R.hw.gv g hg;rw [e3] at this;exact R.CQ this
theorem aI.Bv (R:aI O W φ):∀ e ∈ bt aS fM (ck O).1 (ck O).2.1,O.dm e.1/\O.dm e.2:=λe he=>by
 obtain ⟨P,hq,hI⟩:=R.jo;unfold bt at he;obtain ⟨i,hi,rfl⟩:=Zi.1 he;have hi:=(Zo.1 hi).1;rw [hq] at hi;obtain ⟨j,hj,rfl⟩:=Zi.1 hi;exact R.CQ (P.ok j hj)
theorem aI.DP (R:aI O W φ):∀ x ∈ O.rt,O.dm x:=λx hx=>(R.AB x hx).dm R
structure Ek (O:Wo):Prop where
 all0:0<=(dM O).2
 all1:(O.ar.nur:Int)+(dM O).2<=O.ar.ws.length
 turn:∀ k,k<(bW O).length->∀ A i,((bW O).take k).foldl (dZ (ck O).1 (dM O).1) O.ar=A->(bW O).getD k 0=i ->
  A.ok/\0<=i/\i<O.ar.ws.length/\(∀ j:Int,0<=j->j<(A.ah i).2.1->A.aM (i+1+j)=true)/\((A.ah i).1=4->0<(A.ah i).2.1)/\∀ j:Int,0<=j->j<(A.ah i).2.1->O.dm (A.load (i+1+j))
 tok:(dS O).ok
 tlen:(dS O).ws.length=O.ar.ws.length
 slide:∀ k,k<(bW O).length->∀ A i,((bW O).take k).foldl (bx (dM O).1) (dS O)=A->(bW O).getD k 0=i ->
  A.ok/\A.ws.length=O.ar.ws.length/\0<=i/\i+1+(A.ah i).2.1<=O.ar.ws.length/\0<=eE (dM O).1 i/\eE (dM O).1 i+1+(A.ah i).2.1<=O.ar.ws.length
theorem aI.half (R:aI O W φ) (hno:¬ (ed O).1≠0):Ek O:=by
 have hsy:=R.sy;have hso:=R.so;have hnur:=R.nur;have hlen:=R.len;obtain ⟨P,hq,hI⟩:=R.jo;have PL:=R.zF;generalize Exists.choose _=N at PL;have hokO:=R.ho.ha;have b1:=hokO.h1;have b2:=hokO.h2;have b3:=hokO.h3;have b4:=hokO.h4;have hallN:(dM O).2<=(O.ar.ws.length:Int)-O.ar.nur:=by
  unfold ed at hno;by_cases h:(dM O).2 > ((O.ar.grn:Int)-O.ar.nur)+((O.ar.ws.length:Int)-O.ar.grn)
  ·rw [if_pos h] at hno;exact (hno (show (3:Int)≠0 by decide)).elim
  ·omega
 have h0:∀ p,0<=(λp=>1+(O.ar.ah p).2.1) p:=λp=>by have:=O.ar.aQ p;dsimp only;omega
 have hall0:=fN.le h0 PL.sit;have hsl:=PL.slid hallN;have hsit:=PL.sit;have hTu:dS O=(bW O).foldl (dZ (ck O).1 (dM O).1) O.ar:=rfl;generalize hf:(dM O).1=f at *;generalize hall:(dM O).2=all at *;generalize hs:(ck O).1=s at *;generalize his:(W.pass true).1=is at *;have lvN:∀ {i},i ∈ N->W.live i:=λhi=>P.M.sl _ ((PL.nm _).1 hi);have thN:∀ {i},i ∈ N->(O.ar.ah (φ i))=((W.th i).k,((W.th i).fs.length:Int),0):=λhi=>R.th _ (lvN hi);have place:∀ {i},i ∈ N->(O.ar.nur:Int)<=di f φ i/\di f φ i+(1+(W.th i).fs.length)<=O.ar.nur+all:=λ{i} hi=>by
  have:=fN.mem h0 hsit (φ i) (by rw [<-PL.eq];exact Zi.2 ⟨i,hi,rfl⟩);rw [thN hi] at this;exact this
 have T:Tn O W φ s f is:=⟨λi hi=>P.M.sl i hi,λv hv=>P.M.alive R hv,λi hi=>by have:=place ((PL.nm i).2 hi);omega⟩;have hlenN:N.length=(bW O).length:=by rw [<-PL.eq,Zp]
 obtain ⟨t1,t2,t3,t4,t5,t6,-⟩:=T.turns R N PL.nd (λi hi=>(PL.nm i).1 hi) hokO rfl rfl rfl rfl (λ_ _ _ _ _=>rfl);rw [PL.eq,<-hTu] at t1 t2 t3 t4 t5 t6;have use0:∀ q,(dS O).aM q=O.ar.aM q:=λq=>by unfold Ar.aM Ar.aA Ar.aK;rw [t2,t3,t4]
 refine ⟨by omega,by omega,λk hk A i hA hi=>?_,t1,t5,λk hk A i hA hi=>?_⟩
 all_goals (try rw [hs] at hA);rw [hf] at hA
 ·have hkN:k<N.length:=by omega
  have hgi:i=φ (N.getD k 0):=by
   rw [<-hi,<-PL.eq,Ld,Zw,Le hkN,Ld,Le hkN];rfl
  have hmN:N.getD k 0 ∈ N:=by rw [Ld,Le hkN];exact Ze _
  have hnot:¬ N.getD k 0 ∈ N.take k:=λh=>by
   have e:N=N.take k ++ N.drop k:=(List.take_append_drop k N).symm;have hnd:=PL.nd;rw [e,List.nodup_append] at hnd;refine hnd.2.2 _ h _ ?_ rfl;rw [List.drop_eq_getElem_cons hkN,Ld,Le hkN];exact List.mem_cons_self
  obtain ⟨u1,u2,u3,u4,u5,-,u7⟩:=T.turns R (N.take k) (PL.nd.sublist (List.take_sublist k N)) (λi hi=>(PL.nm i).1 (List.mem_of_mem_take hi)) hokO rfl rfl rfl rfl (λ_ _ _ _ _=>rfl);rw [List.map_take,PL.eq,hA] at u1 u2 u3 u4 u5 u7;generalize N.getD k 0=n at *;subst hgi;have hl:=lvN hmN;have hld:=u7 n hl hnot;have h00:=hld 0 (by omega) (by omega);rw [Int.add_zero] at h00;have hth:A.ah (φ n)=((W.th n).k,((W.th n).fs.length:Int),0):=by rw [iI h00];exact thN hmN
  have hbd:=R.pB hl;rw [hth];dsimp only;refine ⟨u1,hbd.1,by omega,λj j0 j1=>?_,λh4=>?_,λj j0 j1=>?_⟩
  ·have:A.aM (φ n+1+j)=O.ar.aM (φ n+1+j):=by unfold Ar.aM Ar.aA Ar.aK;rw [u2,u3,u4]
   rw [this,Int.add_assoc];exact R.use hl (by omega) (by omega)
  ·obtain ⟨a,b,e⟩:=i3 (Wd.two R.hw hl (.inr (.inl h4)));rw [e];simp
  ·have hv:(W.th n).fs[j.toNat]? = some (W.th n).fs[j.toNat]:=Le (by omega);have hlv:=hld (1+j) (by omega) (by omega);rw [<-Int.add_assoc] at hlv;rw [hlv];have:=R.fl n hl _ _ hv;rw [show ((j.toNat:Nat):Int)=j by omega] at this;rw [this];exact R.CP (R.hw.tv n hl _ (Zh hv))
 ·have hus:∀ {i},i ∈ N->(dS O).aM (φ i)=true:=λ{i} hi=>by
   rw [use0];have:=R.use (lvN hi) (j:=0) (by omega) (by omega);rwa [Int.add_zero] at this
  obtain ⟨m1,m2,m3,m4,m5,m6,m7,m8,m9,m10⟩:=uG (f:=f) (sz:=λp=>1+(O.ar.ah p).2.1) (l:=bW O) (A:=dS O) k hsit (by rw [t5];exact hsl) (λp hp=>by
   rw [<-PL.eq] at hp;obtain ⟨i,hi,rfl⟩:=Zi.1 hp;refine ⟨hus hi,?_⟩
   rw [cR (t6 i hi).1]) ((nD R).filter _) h0 hk
  rw [hA] at m1 m2 m3 m4 m5 m6;rw [hi] at m1 m7 m8 m9 m10;rw [t5] at m2 m8 m10
  try dsimp only at m8 m10
  have hthi:(dS O).ah i=O.ar.ah i:=by
   have hmem:i ∈ bW O:=by rw [<-hi,Ld,Le hk];exact Ze _
   rw [<-PL.eq] at hmem;obtain ⟨n,hn,rfl⟩:=Zi.1 hmem;exact cR (t6 n hn).1
  rw [m1,hthi];have hokA:A.ok:=⟨by rw [m5,m4,t3,t2];exact b1,by rw [m4,m6,t2,t4];exact b2,by rw [m6,t4,m2];exact b3,by rw [m2];exact b4,λx hx=>t1.hw x (m3 x hx)⟩;rw [hf];exact ⟨hokA,m2,m9,by omega,m7,by omega⟩
end
end
section
open Go.RowKit
inductive rq where
 | free (i:Nat) (r:rq)
 | three (i:Nat) (t1:RO) (j:Nat) (t2:RO) (k:Nat) (t3:RO)
def rq.size:rq->Nat
 | .free _ r=>r.size+1
 | .three _ t _ _ _ _=>t.size+1
section
variable {P:Program} {ops:Array Oper} {md:Region.Mode}
def ro3B (md:Region.Mode) (ops:Array Oper):rq->Array Bool->Bool
 | .free i r,listed=>(Region.ready md ops listed).contains i && Region.free md ops listed i && ro3B md ops r (listed.setIfInBounds i true)
 | .three i t1 j t2 k t3,listed=>Region.ready md ops listed == [i,j,k] && t1.size == t2.size && t1.size == t3.size && roB md ops t1 [] (listed.setIfInBounds i true) && roB md ops t2 [] (listed.setIfInBounds j true) && roB md ops t3 [] (listed.setIfInBounds k true)
def rr (P:Program) (ops:Array Oper) (Q:Act->World->Prop):rq->Act->World->Prop
 | .free i r,a,w=>∃ o v,ops[i]? = some o/\ft P ops (λ_=>True) o v a/\rr P ops Q r (a.put o.dst v) w
 | .three i t1 j t2 k t3,a,w=>gOp P ops i (λa' w'=>jE P ops Q t1 [] (λ_=>True) a' w') a w/\gOp P ops j (λa' w'=>jE P ops Q t2 [] (λ_=>True) a' w') a w/\gOp P ops k (λa' w'=>jE P ops Q t3 [] (λ_=>True) a' w') a w
theorem ru {Q:Act->World->Prop} (hs:Region.noSelect ops=true):∀ (t:rq) (listed:Array Bool) (a:Act) (w:World),jD md ops listed ->
  ro3B md ops t listed=true->rr P ops Q t a w->wpAnyH P md ops (λ_=>True) [] (λ_=>True) Q t.size listed a w
 | .free i r,listed,a,w,hS,hB,h=>by
  simp only [ro3B,Zr] at hB;obtain ⟨⟨hr,hf⟩,hB'⟩:=hB;obtain ⟨o,v,ho,hy,hn⟩:=h;have hr':i ∈ Region.ready md ops listed:=by simpa using hr
  refine wpAnyH_first ho (Region.noSelect_spec hs) (.inr (.inr λ_=>trivial)) r.size listed a w trivial hS (Region.free_spec ho hf) hr' hy ?_;exact ru hs r _ _ w (hS.next hr') hB' hn
 | .three i t1 j t2 k t3,listed,a,w,hS,hB,h=>by
  simp only [ro3B,Zr,beq_iff_eq] at hB;obtain ⟨⟨⟨⟨⟨hr,h12⟩,h13⟩,sw⟩,vO⟩,CT⟩:=hB;refine ⟨(λh0=>by rw [hr] at h0;cases h0),λm hm=>?_⟩;have hin:m ∈ Region.ready md ops listed:=hm;rw [hr] at hm;have hm:m=i\/m=j\/m=k:=by simpa using hm
  rcases hm with rfl | rfl | rfl
  ·exact eP (λa' w' hn=>⟨λh=>h,λ_ h=>h,eI hs t1 [] _ _ a' w' (hS.next hin) trivial (.inl trivial) sw hn.raw⟩) h.1
  ·show gOp P ops m (λa' w'=>(True->True)/\(([]:List Nat).contains m=false->True->True)/\wpAnyH P md ops (λ_=>True) [] (λ_=>True) Q t1.size (listed.setIfInBounds m true) a' w') a w
   rw [h12];exact eP (λa' w' hn=>⟨λh=>h,λ_ h=>h,eI hs t2 [] _ _ a' w' (hS.next hin) trivial (.inl trivial) vO hn.raw⟩) h.2.1
  ·show gOp P ops m (λa' w'=>(True->True)/\(([]:List Nat).contains m=false->True->True)/\wpAnyH P md ops (λ_=>True) [] (λ_=>True) Q t1.size (listed.setIfInBounds m true) a' w') a w
   rw [h13];exact eP (λa' w' hn=>⟨λh=>h,λ_ h=>h,eI hs t3 [] _ _ a' w' (hS.next hin) trivial (.inl trivial) CT hn.raw⟩) h.2.2
structure tD (P:Program) (ops:Array Oper) (Q:Act->World->Prop) (t:rq) (a:Act) (w:World):Prop where
 raw:rr P ops Q t a w
theorem tu {id:Nat} {Q:Exit->Act->World->Prop} {a:Act} {w:World} {l:List Oper} (t:rq) (hm:P.follows .mixedOrders=true)
  (hB:(Region.noSelect l.toArray && t.size == l.toArray.size && ro3B .any l.toArray t (Array.replicate l.toArray.size false))=true)
  (h:tD P l.toArray (λa' w'=>Q .normal a' w') t a w.drew):(Code.region id l.toArray true).wp P Q a w:=by
 simp only [Zr,beq_iff_eq] at hB;obtain ⟨⟨hs,hl⟩,hB⟩:=hB;refine wp_region_any hm ?_;have hshut:jD .any l.toArray (Array.replicate l.toArray.size false):=by
  intro j o ho hx;have h0:(Array.replicate l.toArray.size false).getD j false=false:=by
   rw [Array.getD_eq_getD_getElem?,Array.getElem?_replicate];split <;> rfl
  rw [h0] at hx;cases hx
 have:=ru (md:=.any) hs t _ a w.drew hshut hB h.raw;rw [hl] at this;exact mR (λ_ _ h=>h) _ _ _ _ this
variable {Q:Act->World->Prop} {i:Nat} {r:rq} {a:Act} {w:World} {o:Oper}
theorem xC (ho:ops[i]? = some o) (hw:Region.wanted o (yielded ops a.tmps)=true) (v:Value)
  (h:∀ w',bA v w' ((execOp a.eval o).run P w')) (hn:∀ K:Act->Prop,(∀ a',tD P ops Q r a' w->K a')->K (a.put o.dst v)):tD P ops Q (.free i r) a w:=
 ⟨⟨o,v,ho, .inl ⟨hw,λw' _=>h w'⟩,hn (λa'=>rr P ops Q r a' w) (λ_ h=>h.raw)⟩⟩
theorem vF {j k:Nat} {t1 t2 t3:RO} {o2 o3:Oper} (h1:ops[i]? = some o) (w1:Region.wanted o (yielded ops a.tmps)=true) (h2:ops[j]? = some o2) (w2:Region.wanted o2 (yielded ops a.tmps)=true) (h3:ops[k]? = some o3) (w3:Region.wanted o3 (yielded ops a.tmps)=true)
  (g1:∀ K:Act->World->Prop,(∀ a' w',jE P ops Q t1 [] (λ_=>True) a' w'->K a' w')->ax P o a w K)
  (g2:∀ K:Act->World->Prop,(∀ a' w',jE P ops Q t2 [] (λ_=>True) a' w'->K a' w')->ax P o2 a w K)
  (g3:∀ K:Act->World->Prop,(∀ a' w',jE P ops Q t3 [] (λ_=>True) a' w'->K a' w')->ax P o3 a w K):tD P ops Q (.three i t1 j t2 k t3) a w:=
 ⟨⟨jF h1 w1 (g1 _ (λ_ _ h=>h)),jF h2 w2 (g2 _ (λ_ _ h=>h)),jF h3 w3 (g3 _ (λ_ _ h=>h))⟩⟩
end
end
section
section
variable {O:Wo} {W:Wd} {φ:Int->Int}
theorem aI.zL (R:aI O W φ):(O.ar.nur:Int)-O.ar.yng=W.most-W.aA:=by rw [R.nur,R.sy]
end
structure Wd.bC (W:Wd):Prop where
 k:∀ i,W.live i->(W.th i).k=1\/(W.th i).k=2
 g:W.ai=[]
 w:W.wait=[]
section
variable {W:Wd}
theorem Wd.nI (n o:Int):(Wd.new n o).bC:=⟨λi hi=>by
 obtain ⟨h0,h1,_⟩:=hi
 simp [Wd.new] at h1;omega,rfl,rfl⟩
theorem Wd.bC.put (h:W.bC) {r k:Int} {l:List Vl} (hk:k=1\/k=2):(W.put r k l).bC:=by
 refine ⟨λi hi=>?_,h.g,h.w⟩;rcases Wd.fW hi with h1 | rfl
 ·rw [Wd.iN h1.1 h1.2.1];exact h.k i h1
 ·rw [Wd.dt];exact hk
theorem Wd.bC.bF (h:W.bC) (r:Int) (v:Vl):(W.bF r v).bC:=⟨h.k,h.g,h.w⟩
theorem Wd.bC.cK (h:W.bC) {j:Int} {fs:List Vl} (hj:W.live j):(W.cK j fs).bC:=by
 refine ⟨λi hi=>?_,h.g,h.w⟩;rw [Wd.fq hj] at hi;rw [Wd.sN hj hi.1];exact h.k i hi
theorem Wd.bC.guard (h:W.bC) (hok:W.ok) (k:Int):W.guard k<0:=by
 unfold Wd.guard;split
 ·omega
 ·rename_i hn;have hl:=Wd.dg (W:=W) (k:=k) hok (λhh=>hn (.inl hh));rcases h.k _ hl with h1 | h1
  ·exact (hn (.inr (by rw [h1];decide))).elim
  ·exact (hn (.inr (by rw [h1];decide))).elim
theorem Wd.jq (h:W.bC) {i:Int} (hi:W.live i):W.gr i=((W.th i).k,(W.th i).fs):=by
 unfold Wd.gr;rw [if_neg (by rcases h.k i hi with e | e <;> rw [e] <;> decide),List.append_nil]
theorem pO {is:List Bool} {i:Nat} {t:Th} (h:is.getD i false=true) (hk:t.k=1\/t.k=2):(dB is i t).fs=t.fs/\(dB is i t).k=t.k:=by
 unfold dB;rw [if_pos h];dsimp only;rw [if_neg (λe=>by rcases hk with h1 | h1 <;> (rw [h1] at e;exact absurd e.1 (by decide))),if_neg (λe=>by rcases hk with h1 | h1 <;> (rw [h1] at e;exact absurd e.1 (by decide)))];exact ⟨rfl,rfl⟩
theorem Wd.bC.after (h:W.bC) (hok:W.ok) (major:Bool):(W.after major).bC:=by
 have hm:=Wd.eR hok major;have hrg:(W.pass major).2.2=[]:=by
  unfold Wd.pass dw;rw [h.g];rfl
 have hwt:(W.pass major).2.1=[]:=by
  unfold Wd.pass dw;rw [h.g,h.w];rfl
 refine ⟨λi hi=>?_,?_,?_⟩
 ·rw [Wd.fg hok] at hi;rw [Wd.jL hok hi];exact h.k i (hm.1.live i hi)
 ·show bq _ _ _ _=[]
  rw [hrg];rfl
 ·show bt _ _ _ _=[]
  rw [hwt];rfl
theorem Wd.bC.cut (h:W.bC) (hok:W.ok) (major:Bool):(W.cut major).2.bC:=by
 unfold Wd.cut;split
 ·exact h
 ·split
  ·exact h
  ·exact h.after hok major
end
end
section
section
variable {O:Wo} {W:Wd} {φ:Int->Int}
theorem qn (W:Wd) (r:Int) (v:Vl):(W.bF r v).T.length=W.T.length:=rfl
theorem qo (W:Wd) (i:Int) (fs:List Vl):(W.cK i fs).T.length=W.T.length:=by simp [Wd.cK]
theorem Wd.bC.s9 (h:W.bC) (hok:W.ok) (major:Bool) {i:Int} (hi:aw (W.pass major).1 i=true) {v:Vl} (hv:v ∈ (W.th i).fs) (h3:v.1=3):aw (W.pass major).1 v.2=true:=by
 have m:=(Wd.eR hok major).1;refine m.shut i v.2 hi ?_;have hl:=m.live i hi;have e:v=(3,v.2):=by cases v;dsimp only at h3;subst h3;rfl
 exact .inl ⟨h.k i hl,by rw [<-e];exact hv⟩
theorem Wd.bC.xD (h:W.bC) (hok:W.ok) (major:Bool):(W.after major).view=W.view:=by
 have m:=(Wd.eR hok major).1;have hs:=h.after hok major
 show gB (W.after major).gr (W.after major).roots=_
 show gB (W.after major).gr W.roots=_
 refine pI (P:=λi=>aw (W.pass major).1 i=true) (λi hi=>?_) (λi hi v hv h3=>?_) (λu hu h3=>?_)
 ·have hl:=m.live i hi;have hla:=(Wd.fg hok (major:=major)).2 hi;rw [Wd.jq hs hla,Wd.jq h hl,Wd.gD hl.1 hl.2.1];have:=pO (is:=(W.pass major).1) (i:=i.toNat) (t:=W.th i) (by rw [c8 hl.1];exact hi) (h.k i hl);rw [this.1,this.2]
 ·rw [Wd.jq h (m.live i hi)] at hv;exact h.s9 hok major hi hv h3
 ·refine m.first _ (Wd.gC.2 ?_)
  have hl:=Wd.aY (hok.rv u hu) h3;have e:u=(3,u.2):=by cases u;dsimp only at h3;subst h3;rfl
  exact ⟨hl.1,hl.2.1, .inr (by rw [<-e];exact hu)⟩
theorem Wd.bC.zM (h:W.bC) (hok:W.ok) (major:Bool):(W.cut major).2.view=W.view:=by
 unfold Wd.cut;split
 ·rfl
 ·split
  ·rfl
  ·exact h.xD hok major
end
end
section
section
variable {O:Wo} {W:Wd} {φ:Int->Int}
theorem Wd.zN (W:Wd) (major:Bool):(W.cut major).2.most=W.most/\(W.cut major).2.grow=W.grow:=by
 unfold Wd.cut;split
 ·exact ⟨rfl,rfl⟩
 ·split <;> exact ⟨rfl,rfl⟩
theorem Wd.Bw (W:Wd) (major:Bool):(W.cut major).2.T.length=W.T.length:=by
 unfold Wd.cut;split
 ·rfl
 ·split
  ·rfl
  ·exact Wd.ko
theorem aI.Bx (R:aI O W φ):((O.ar.grn-O.ar.nur:Nat):Int)=W.cD:=by
 have h:=R.ho.ha.h2;rw [<-R.so];omega
end
end
section
open Go.RowKit
section
variable {w w':World} {O O':Wo} {W W':Wd}
end
end
section
open Go.RowKit Go.ChangeShapes Go.WideShapes Go.Deep Go.Joins
theorem Rd.uI {w:World} {a:Addr} {xs:List Value} (h:∀ j u,xs[j]? = some u->w.cell? (a.add j)=some u):Rd w (some a) xs:=by
 intro hx;have hl:0<xs.length:=by cases xs with | nil=>exact (hx rfl).elim | cons _ _=>simp
 obtain ⟨b,off,spot⟩:=a;have h0:=h 0 xs[0] (by simp [hl]);have hspot:spot=none:=by simpa [Addr.add] using World.cell?_spot h0
 subst hspot;refine ⟨b,off,rfl,World.block_lt_of_cell? _ _ h0,λj hj=>?_⟩;have:=h j xs[j] (by simp [hj]);rw [fw] at this;rw [this];simp [hj]
theorem eH {n:Int} (h:(Lit.int .i64 n).wf=true):-9223372036854775808<=n/\n<=9223372036854775807:=by
 simp [Lit.wf,IntKind.min,IntKind.max,IntKind.bits,IntKind.signed] at h;omega
section
variable {H:Type} {enc:TypeId × Value->H} {P:Program} {w:World} {base:Nat} {spare:Nat->Bool} {held:Bool}
def AD (c:Value):Prop:=∃ n:Int,c=.int .i64 n/\-9223372036854775808<=n/\n<=9223372036854775807
def Flat (enc:TypeId × Value->H) (P:Program) (w:World) (base:Nat) (spare:Nat->Bool) (held:Bool) (e:TypeId):Prop:=
 ∀ fuel cs x,DataW.trod enc P w base spare held fuel e cs=some x->cs.length=P.cellsOf e/\∀ c ∈ cs,AD c
theorem dh {e:TypeId} (he:P.underlying e=some (.int .i64)) (hC:P.cellsOf e=1):Flat enc P w base spare held e:=by
 intro fuel cs x h;obtain ⟨n,rfl,_,hn⟩:=DataW.trod_int he h;refine ⟨by simp [hC],?_⟩;intro c hc;simp at hc;subst hc;exact ⟨n,rfl,eH hn⟩
def CU (P:Program) (e:TypeId) (fs:Array Field):Bool:=
 (List.range (P.cellsOf e)).all λj=>fs.toList.any λf=>decide (f.offset<=j) && decide (j<f.offset+P.cellsOf f.type)
theorem mC {e:TypeId} {fs:Array Field} (he:P.underlying e=some (.struct fs)) (hcov:CU P e fs=true)
  (hf:∀ (i:Nat) (f:Field),fs[i]? = some f->Flat enc P w base spare held f.type):Flat enc P w base spare held e:=by
 intro fuel cs x h;obtain ⟨ys,n,_,hy,hlen,hyl,hg⟩:=DataW.trod_struct he h;refine ⟨hlen,?_⟩;intro c hc;obtain ⟨j,hj,rfl⟩:=List.getElem_of_mem hc;have hcj:=List.all_eq_true.1 hcov j (List.mem_range.2 (by omega));obtain ⟨f,hfm,hfj⟩:=List.any_eq_true.1 hcj;simp only [Zr,decide_eq_true_eq] at hfj;obtain ⟨i,hi,hif⟩:=List.getElem_of_mem hfm;have hfi:fs[i]? = some f:=by
  rw [<-Array.getElem?_toList,Le hi,hif]
 have h1:=hg i f hfi;have hys:ys[i]? = some (ys[i]'(by rw [hyl];simpa using hi)):=Le _;rw [hys] at h1;have h2:=(hf i f hfi n _ _ h1).2;refine h2 _ ?_;rw [List.mem_iff_getElem?];refine ⟨j-f.offset,?_⟩;rw [List.getElem?_take,if_pos (by omega),List.getElem?_drop,show f.offset+(j-f.offset)=j by omega];simp [hj]
theorem DS {t e:TypeId} {k:Nat} (ht:P.underlying t=some (.array k e)) (hC:P.cellsOf t=k*P.cellsOf e) (he:Flat enc P w base spare held e):Flat enc P w base spare held t:=by
 intro fuel cs x h;obtain ⟨ys,n,_,hy,hlen,hyl,hg⟩:=DataW.trod_array ht h;refine ⟨hlen,?_⟩;intro c hc;obtain ⟨j,hj,rfl⟩:=List.getElem_of_mem hc;rw [hlen,hC] at hj;have hpos:0<P.cellsOf e:=by
  apply Nat.pos_of_ne_zero;intro h0;rw [h0] at hj;simp at hj
 have hi:j/P.cellsOf e<k:=Nat.div_lt_of_lt_mul (by rwa [Nat.mul_comm] at hj);have h1:=hg _ hi;have hys:ys[j/P.cellsOf e]? = some (ys[j/P.cellsOf e]'(by omega)):=Le _;rw [hys] at h1;have h2:=(he n _ _ h1).2;refine h2 _ ?_;rw [List.mem_iff_getElem?];refine ⟨j%P.cellsOf e,?_⟩;rw [List.getElem?_take,if_pos (Nat.mod_lt _ hpos),List.getElem?_drop,Nat.mul_comm,Nat.div_add_mod];simp
theorem uJ {r:Reach} {b0:Nat} {t e:TypeId} {C:Nat} {v:Value} {d:DataW H} {p:List MemPlace} (ht:P.underlying t=some (.slice e)) (hC:P.cellsOf e=C) (hpos:0<C) (he:Flat enc P w base spare held e)
  (hv:Value.okWide P w r b0 t v) (h:DataW.Trod enc P w base spare held t v d p) :
  ∃ (ao:Option Addr) (cap n:Nat) (xs:List Value),v=.slice ao n cap/\xs.length=n*C/\Rd w ao xs/\n<=maxLen/\∀ c ∈ xs,AD c:=by
 obtain ⟨a0,len0,cap0,rfl⟩:=okWide_slice ht hv;obtain ⟨fuel,hf⟩:=h;rcases open_slice ht hf with ⟨hcs,_⟩ | ⟨a,l,c,m,n,D,Pl,hcs,_,hl,hm,hmm,_,hi⟩
 ·simp [Value.cells] at hcs;obtain ⟨rfl,rfl,rfl⟩:=hcs;exact ⟨none,0,0,[],rfl,by simp,Rd.nil _ _,Zc _,by simp⟩
 ·simp [Value.cells] at hcs;obtain ⟨rfl,rfl,rfl⟩:=hcs;have hle:len0<=m:=by rw [hmm];split <;> omega
  have key:∀ j,j<len0*C->∃ u,w.cell? (a.add j)=some u/\AD u:=by
   intro j hj;have hi':j/C<len0:=Nat.div_lt_of_lt_mul (by rwa [Nat.mul_comm] at hj);obtain ⟨cs',h1,h2⟩:=hi (j/C) (by omega);obtain ⟨hlen,hall⟩:=he _ _ _ h2;obtain ⟨_,hcl,hat⟩:=World.cells?_some h1;have hr:j%C<cs'.length:=by rw [hlen,hC];exact Nat.mod_lt _ hpos
   have:=hat (j%C) (by rw [hC];exact Nat.mod_lt _ hpos);rw [Go.Deep.add_add,hC,Nat.mul_comm,Nat.div_add_mod,Le hr] at this;exact ⟨_,this,hall _ (Ze hr)⟩
  refine ⟨some a,cap0,len0,(List.range (len0*C)).map λj=>(w.cell? (a.add j)).getD undef,rfl,by simp,?_,Za hl hm,?_⟩
  ·refine Rd.uI ?_;intro j u hu;simp only [Zw,Option.map_eq_some_iff] at hu;obtain ⟨j',hj',rfl⟩:=hu;have hjl:=(Zj.1 hj').1;have:j=j':=by
    rw [Le hjl] at hj';simpa using hj'
   subst this;obtain ⟨u,hu,_⟩:=key j (by simpa using hjl);rw [hu];rfl
  ·intro c hc;simp only [List.mem_map,List.mem_range] at hc;obtain ⟨j,hj,rfl⟩:=hc;obtain ⟨u,hu,h64⟩:=key j hj;rw [hu];exact h64
theorem nJ:∀ {xs:List Value},(∀ c ∈ xs,AD c)->∃ l:List Int,xs=l.map (Value.int .i64)/\∀ x ∈ l,-9223372036854775808<=x/\x<=9223372036854775807
 | [],_=>⟨[],rfl,by simp⟩
 | c :: xs,h=>by
  obtain ⟨n,rfl,hn⟩:=h c (by simp);obtain ⟨l,rfl,hl⟩:=nJ (xs:=xs) (λc hc=>h c (List.mem_cons_of_mem _ hc));exact ⟨n :: l,rfl,by intro x hx;rcases Zm.1 hx with rfl | hx;exact hn;exact hl x hx⟩
theorem El {r:Reach} {b0:Nat} {t e:TypeId} {v:Value} {d:DataW H} {p:List MemPlace} (ht:P.underlying t=some (.slice e)) (he:P.underlying e=some (.int .i64)) (hC:P.cellsOf e=1)
  (hv:Value.okWide P w r b0 t v) (h:DataW.Trod enc P w base spare held t v d p) :
  ∃ (ao:Option Addr) (cap:Nat) (l:List Int),v=.slice ao l.length cap/\Rd w ao (l.map (Value.int .i64))/\l.length<=maxLen/\∀ x ∈ l,-9223372036854775808<=x/\x<=9223372036854775807:=by
 obtain ⟨ao,cap,n,xs,rfl,hl,hr,hm,h64⟩:=uJ ht hC (by omega) (dh he hC) hv h;obtain ⟨l,rfl,hb⟩:=nJ h64;simp at hl;subst hl;exact ⟨ao,cap,l,rfl,hr,hm,hb⟩
theorem Em {r:Reach} {b0:Nat} {t:TypeId} {f0 f1:Field} {v:Value} {d:DataW H} {p:List MemPlace} (hs:P.underlying t=some (.struct #[f0,f1])) (hone:oneCellFields P #[f0,f1]=true) (hC:P.cellsOf t=2)
  (h0:P.underlying f0.type=some (.int .i64)) (h1:P.underlying f1.type=some (.int .i64))
  (hv:Value.okWide P w r b0 t v) (h:DataW.Trod enc P w base spare held t v d p) :
  ∃ a:Int × Int,v=.agg #[.int .i64 a.1, .int .i64 a.2]/\(-9223372036854775808<=a.1/\a.1<=9223372036854775807)/\-9223372036854775808<=a.2/\a.2<=9223372036854775807:=by
 obtain ⟨c0,c1,y0,y1,m,rfl,_,_,hy0,hy1⟩:=open_agg2 hs hone hC hv h;obtain ⟨a,ea,_,wa⟩:=DataW.trod_int h0 hy0;obtain ⟨b,eb,_,wb⟩:=DataW.trod_int h1 hy1;simp at ea eb;subst ea;subst eb;exact ⟨(a,b),rfl,eH wa,eH wb⟩
end
end
section
open Go.RowKit Go.ChangeShapes Go.WideShapes Go.ChangeAt Go.Joins
section
variable {H:Type} {enc:TypeId × Value->H} {P:Program} {w:World} {base:Nat} {spare:Nat->Bool} {held:Bool}
theorem uK {r:Reach} {b0:Nat} {t e:TypeId} {C:Nat} {v:Value} {d:DataW H} {p:List MemPlace} (ht:P.underlying t=some (.slice e)) (hC:P.cellsOf e=C) (hpos:0<C) (he:Flat enc P w base spare held e)
  (hv:Value.okWide P w r b0 t v) (h:DataW.Trod enc P w base spare held t v d p) :
  ∃ (ao:Option Addr) (cap m:Nat) (l:List Int),v=.slice ao m cap/\Rd w ao (l.map (Value.int .i64))/\l.length=m*C/\m<=maxLen/\∀ x ∈ l,-9223372036854775808<=x/\x<=9223372036854775807:=by
 obtain ⟨ao,cap,n,xs,rfl,hl,hr,hm,h64⟩:=uJ ht hC hpos he hv h;obtain ⟨l,rfl,hb⟩:=nJ h64;exact ⟨ao,cap,n,l,rfl,hr,by simpa using hl,hm,hb⟩
theorem En {r:Reach} {b n c:Nat} {t e:TypeId} {a:Addr} (ht:P.underlying t=some (.slice e)) (hv:Value.okWide P w r b t (.slice (some a) n c)):a.block<w.heap.size:=by
 simp only [Value.okWide,ht,Cell.okWide,Cell.ok] at hv;obtain ⟨_,_,_,_,row,cells,hs,_⟩:=hv;unfold World.shape? at hs;cases hb:w.heap[a.block]? with
 | none=>rw [hb] at hs;simp at hs
 | some o=>exact (Array.getElem?_eq_some_iff.1 hb).1
end
end
section
open Go.ChangeShapes Go.WideShapes Go.ChangeAt Go.RowKit Go.Joins
section
variable {H:Type} {enc:TypeId × Value->H} {w:World} {base:Nat} {spare:Nat->Bool} {held:Bool}
theorem zO {P:Program} {r:Reach} {b0:Nat} {t:TypeId} {fs:Array Field} {v:Value} {d:DataW H} {p:List MemPlace} (hs:P.underlying t=some (.struct fs)) (hfl:Flat enc P w base spare held t)
  (hv:Value.okWide P w r b0 t v) (h:DataW.Trod enc P w base spare held t v d p) :
  ∃ l:List Int,v=.agg (l.map (Value.int .i64)).toArray/\l.length=P.cellsOf t/\∀ x ∈ l,bm x:=by
 obtain ⟨cs,rfl,hsz⟩:=okWide_struct hs hv;obtain ⟨fuel,hf⟩:=h;obtain ⟨h1,h2⟩:=hfl fuel _ _ hf;obtain ⟨l,hl,hb⟩:=nJ h2;refine ⟨l,?_,?_,hb⟩
 ·rw [<-hl];simp [Value.cells]
 ·have:=congrArg List.length hl;rw [h1] at this;simpa using this.symm
theorem yz:Flat enc Tryz.prog w base spare held 26:=by
 refine mC Tryz.underlying26 (by kernel_rfl) ?_;intro i f hf
 match i with
 | 0=>simp at hf;subst hf;exact (dh Tryz.underlying3 (by kernel_rfl))
 | 1=>simp at hf;subst hf;exact (dh Tryz.underlying3 (by kernel_rfl))
 | 2=>simp at hf;subst hf;exact (dh Tryz.underlying3 (by kernel_rfl))
 | 3=>simp at hf;subst hf;exact (dh Tryz.underlying3 (by kernel_rfl))
 | 4=>simp at hf;subst hf;exact (dh Tryz.underlying3 (by kernel_rfl))
 | 5=>simp at hf;subst hf;exact (dh Tryz.underlying2 (by kernel_rfl))
 | i+6=>simp at hf
theorem Eo {r:Reach} {b0:Nat} {v:Value} {d:DataW H} {p:List MemPlace} (hv:Value.okWide Tryz.prog w r b0 26 v) (h:DataW.Trod enc Tryz.prog w base spare held 26 v d p) :
  ∃ x:St,v=.agg #[.int .i64 x.k, .int .i64 x.r, .int .i64 x.a, .int .i64 x.b, .int .i64 x.i, .int .i64 x.n]/\bm x.n:=by
 obtain ⟨l,e,hl,hb⟩:=zO Tryz.underlying26 yz hv h;have hc:Tryz.prog.cellsOf 26=6:=by kernel_rfl
 rw [hc] at hl
 match l,hl with
 | [k,r,a,b,i,n],_=>exact ⟨⟨k,r,a,b,i,n⟩,e,hb n (by simp)⟩
end
end
section
open Go.RowKit
def sw:Wo:=((Wo.new 16 8).do ⟨1,0,0,0,0,7⟩).2
def vO:Wo:=(sw.do ⟨4,1,0,0,0,0⟩).2
def CT:Wo:=(vO.do ⟨11,2,1,0,2,0⟩).2
theorem ay:((Wo.new 16 8).do ⟨1,0,0,0,0,7⟩).1=0:=by decide +kernel
theorem bG:(sw.do ⟨4,1,0,0,0,0⟩).1=0:=by decide +kernel
theorem ew:(vO.do ⟨11,2,1,0,2,0⟩).1=1:=by decide +kernel
theorem Eb:3<=(sw.ar.nur:Int)-sw.ar.yng:=by decide +kernel
theorem eh:CT.view.2=[(1,[(1,7),(1,7)])]:=by decide +kernel
section
variable {w w':World}
structure HM (w0 w:World) (p:Nat) (h:HH) (O:Wo):Prop where
 B:a8 w h O
 e:h.p=p
 K:aa (λ_=>False) w0 w
 own:∀ k,h.Own k->w0.heap.size<=k
theorem HM.to {w0:World} {p:Nat} {h:HH} {O O':Wo} (M:HM w0 w p h O) (t:aV w h w' O'):∃ h',HM w0 w' p h' O':=by
 obtain ⟨h',H',e',k',o'⟩:=t;refine ⟨h',H',e'.trans M.e,M.K.then k' (λb hb=>.inr (M.own b hb)),λb hb=>?_⟩;rcases o' b hb with h1 | h1
 ·exact M.own b h1
 ·have:=M.K.size;omega
theorem HM.same {w0:World} {p:Nat} {h:HH} {O:Wo} (M:HM w0 w p h O) (k:aa (λ_=>False) w w'):HM w0 w' p h O:=⟨M.B.same k,M.e,M.K.trans k,M.own⟩
theorem HM.pc {w0:World} {p:Nat} {h:HH} {O:Wo} (M:HM w0 w p h O):w.cell? ⟨p,0,none⟩=some (.pointer (some ⟨h.a.p,0,none⟩))/\p<w.heap.size:=by
 have:=M.B.pc;rw [M.e] at this;exact this
end
end
section
open Go.RowKit
section
variable {p g:Nat} {A:Ar}
end
def iQ (n o:Int):Int × Int:=if Ar.fits n o=true then (0,0) else (1,-1)
theorem AE (a b:Int) (w:World) :
  Calls Tryz.prog 16 #[.int .i64 a, .int .i64 b] w λe w'=>e=.returned (.agg #[.int .i64 a, .int .i64 b])/\aa (λ_=>False) w w':=by
 go_enter Tryz.func16,Tryz.ntmps16;go_wp2_with fail;exact bodyPost_ret (v:=.agg #[.int .i64 a, .int .i64 b]) (by simp [results,Tryz.results16,go_sem]) rfl ⟨rfl,(aa.refl _ _).alloc _⟩
theorem vG (n o:Int) (w:World) :
  Calls Tryz.prog 8 #[.int .i64 n, .int .i64 o] w λe w'=>e=.returned (.agg #[.int .i64 (iQ n o).1, .int .i64 (iQ n o).2])/\aa (λ_=>False) w w':=by
 cases hf:Ar.fits n o
 ·have HE:=Hz (show iQ n o=(1,-1) by unfold iQ;rw [hf];rfl);have hc:n<16\/256<n\/o<0\/1024<o:=by
   by_cases h1:16<=n
   ·by_cases h2:n<=256
    ·by_cases h3:0<=o
     ·by_cases h4:o<=1024
      ·simp [Ar.fits,h1,h2,h3,h4] at hf
      ·omega
     ·omega
    ·omega
   ·omega
  clear hf;by_cases c1:n<16
  ·have d1:decide (n<16)=true:=by simpa using c1
   clear hc;go_enter Tryz.func8,Tryz.ntmps8;go_wp2_with fail;refine (AE 1 (-1) _).mono ?_;rintro e w1 ⟨rfl,hk⟩;have hka:=(Kz w).alloc (.cells #[.int .i64 0, .int .i64 0] 33);have hb:=hk.au (show ak (w.alloc (.cells #[.int .i64 0, .int .i64 0] 33)) w.heap.size [.int .i64 0, .int .i64 0] 33 from ak.newAt _ rfl rfl) (λh=>h);have HKA:=Hz (hka.trans hk);have HB:=Hz hb;have l0:=hb.cell 0;have l1:=hb.cell 1;have ll:=hb.lt;have f0:=hb.free 0;have f1:=hb.free 1;simp only [Lz,aB] at l0 l1;clear hk hka hb;go_wp2_with fail;have ew:=(HB.o.aE 0 (.int .i64 1)).aE 1 (.int .i64 (-1));have x0:=ew.cell 0;have x1:=ew.cell 1;simp only [Zu,Zv,Lz,aB] at x0 x1;refine bodyPost_ret (v:=.agg #[.int .i64 1, .int .i64 (-1)]) (by simp [results,Tryz.results8,go_sem,x0,x1]) rfl ⟨by rw [HE.o],?_⟩;exact (HKA.o.setCell (p:=⟨w.heap.size,0,none⟩) (.inr (Zb _)) _).setCell (p:=⟨w.heap.size,1,none⟩) (.inr (Zb _)) _
  have d1:decide (n<16)=false:=by simpa using c1
  by_cases c2:256<n
  ·have d2:decide (256<n)=true:=by simpa using c2
   clear hc;go_enter Tryz.func8,Tryz.ntmps8;go_wp2_with fail;refine (AE 1 (-1) _).mono ?_;rintro e w1 ⟨rfl,hk⟩;have hka:=(Kz w).alloc (.cells #[.int .i64 0, .int .i64 0] 33);have hb:=hk.au (show ak (w.alloc (.cells #[.int .i64 0, .int .i64 0] 33)) w.heap.size [.int .i64 0, .int .i64 0] 33 from ak.newAt _ rfl rfl) (λh=>h);have HKA:=Hz (hka.trans hk);have HB:=Hz hb;have l0:=hb.cell 0;have l1:=hb.cell 1;have ll:=hb.lt;have f0:=hb.free 0;have f1:=hb.free 1;simp only [Lz,aB] at l0 l1;clear hk hka hb;go_wp2_with fail;have ew:=(HB.o.aE 0 (.int .i64 1)).aE 1 (.int .i64 (-1));have x0:=ew.cell 0;have x1:=ew.cell 1;simp only [Zu,Zv,Lz,aB] at x0 x1;refine bodyPost_ret (v:=.agg #[.int .i64 1, .int .i64 (-1)]) (by simp [results,Tryz.results8,go_sem,x0,x1]) rfl ⟨by rw [HE.o],?_⟩;exact (HKA.o.setCell (p:=⟨w.heap.size,0,none⟩) (.inr (Zb _)) _).setCell (p:=⟨w.heap.size,1,none⟩) (.inr (Zb _)) _
  have d2:decide (256<n)=false:=by simpa using c2
  by_cases c3:o<0
  ·have d3:decide (o<0)=true:=by simpa using c3
   clear hc;go_enter Tryz.func8,Tryz.ntmps8;go_wp2_with fail;refine (AE 1 (-1) _).mono ?_;rintro e w1 ⟨rfl,hk⟩;have hka:=(Kz w).alloc (.cells #[.int .i64 0, .int .i64 0] 33);have hb:=hk.au (show ak (w.alloc (.cells #[.int .i64 0, .int .i64 0] 33)) w.heap.size [.int .i64 0, .int .i64 0] 33 from ak.newAt _ rfl rfl) (λh=>h);have HKA:=Hz (hka.trans hk);have HB:=Hz hb;have l0:=hb.cell 0;have l1:=hb.cell 1;have ll:=hb.lt;have f0:=hb.free 0;have f1:=hb.free 1;simp only [Lz,aB] at l0 l1;clear hk hka hb;go_wp2_with fail;have ew:=(HB.o.aE 0 (.int .i64 1)).aE 1 (.int .i64 (-1));have x0:=ew.cell 0;have x1:=ew.cell 1;simp only [Zu,Zv,Lz,aB] at x0 x1;refine bodyPost_ret (v:=.agg #[.int .i64 1, .int .i64 (-1)]) (by simp [results,Tryz.results8,go_sem,x0,x1]) rfl ⟨by rw [HE.o],?_⟩;exact (HKA.o.setCell (p:=⟨w.heap.size,0,none⟩) (.inr (Zb _)) _).setCell (p:=⟨w.heap.size,1,none⟩) (.inr (Zb _)) _
  have d3:decide (o<0)=false:=by simpa using c3
  have d4:decide (1024<o)=true:=by simp;omega
  clear hc;go_enter Tryz.func8,Tryz.ntmps8;go_wp2_with fail;refine (AE 1 (-1) _).mono ?_;rintro e w1 ⟨rfl,hk⟩;have hka:=(Kz w).alloc (.cells #[.int .i64 0, .int .i64 0] 33);have hb:=hk.au (show ak (w.alloc (.cells #[.int .i64 0, .int .i64 0] 33)) w.heap.size [.int .i64 0, .int .i64 0] 33 from ak.newAt _ rfl rfl) (λh=>h);have HKA:=Hz (hka.trans hk);have HB:=Hz hb;have l0:=hb.cell 0;have l1:=hb.cell 1;have ll:=hb.lt;have f0:=hb.free 0;have f1:=hb.free 1;simp only [Lz,aB] at l0 l1;clear hk hka hb;go_wp2_with fail;have ew:=(HB.o.aE 0 (.int .i64 1)).aE 1 (.int .i64 (-1));have x0:=ew.cell 0;have x1:=ew.cell 1;simp only [Zu,Zv,Lz,aB] at x0 x1;refine bodyPost_ret (v:=.agg #[.int .i64 1, .int .i64 (-1)]) (by simp [results,Tryz.results8,go_sem,x0,x1]) rfl ⟨by rw [HE.o],?_⟩;exact (HKA.o.setCell (p:=⟨w.heap.size,0,none⟩) (.inr (Zb _)) _).setCell (p:=⟨w.heap.size,1,none⟩) (.inr (Zb _)) _
 ·have HE:=Hz (show iQ n o=(0,0) by unfold iQ;rw [hf];rfl);simp [Ar.fits] at hf;have d1:decide (n<16)=false:=by simp;omega
  have d2:decide (256<n)=false:=by simp;omega
  have d3:decide (o<0)=false:=by simp;omega
  have d4:decide (1024<o)=false:=by simp;omega
  clear hf;go_enter Tryz.func8,Tryz.ntmps8;go_wp2_with fail;refine bodyPost_ret (v:=.agg #[.int .i64 0, .int .i64 0]) (by simp [results,Tryz.results8,go_sem]) rfl ⟨?_,(aa.refl _ _).alloc _⟩;rw [HE.o]
end
section
open Go.RowKit
theorem Rd.nth {w:World} {ao:Option Addr} {l:List Int} (h:Rd w ao (l.map (Value.int .i64))) (i:Nat) (hi:i<l.length) :
  ∃ g o,ao=some ⟨g,o,none⟩/\g<w.heap.size/\w.cell? ⟨g,o+i,none⟩=some (.int .i64 (l.getD i 0)):=by
 obtain ⟨g,o,rfl,hg,hc⟩:=h (by intro e;simp at e;subst e;simp at hi);refine ⟨g,o,rfl,hg,?_⟩;rw [hc i (by simpa using hi)];simp [List.getD,hi]
theorem uL (a b:Option Addr) (ca cb:Nat) (l:List Int) (w:World) (h1:Rd w a (l.map (Value.int .i64))) (h2:Rd w b (l.map (Value.int .i64))) (hl:l.length<=1000000) :
  Calls Tryz.prog 10 #[.slice a l.length ca, .slice b l.length cb] w λe w'=>e=.returned (.bool true)/\aa (λ_=>False) w w':=by
 have H1:=Hz h1;have H2:=Hz h2;clear h1 h2;go_enter Tryz.func10,Tryz.ntmps10;go_wp2_with fail;go_loopw [5] (λi wr=>∃ k:Nat,k<=l.length/\i=.int .i64 k/\aa (λ_=>False) w wr) (λi _=>l.length-(intOf i).toNat)
 case atStart=>exact ⟨0,Zc _,rfl,aa.refl _ _⟩
 case round=>
  obtain ⟨k,hk,rfl,hkk⟩:=hrel;have HK:=Hz hkk;clear hkk;by_cases hlt:k<l.length
  ·obtain ⟨g,o,rfl,hgl,d0⟩:=(H1.o.ab HK.o (λ_ _ _ h=>h)).nth k hlt;obtain ⟨g',o',rfl,hgl',e0⟩:=(H2.o.ab HK.o (λ_ _ _ h=>h)).nth k hlt;generalize l.getD k 0=v at *;go_wp2_with fail;refine a6 (ftq [0,1,2,4,5,6] (.pure 3 (.pure 7 (.free 8 (.fin))))) [] (Fz d0 (Fa e0)) ?_
   iterate 9 refine Wz ?_
   refine av ?_;go_wp2_with fail;go_roundw
   case rel=>exact ⟨k+1,by omega,by go_num,HK.o.drew⟩
   case measure=>simp [intOf];omega
  ·obtain rfl:k=l.length:=by omega
   go_wp2_with fail;go_ret;exact ⟨rfl,HK.o⟩
def Ec:Ar:=((Ar.new 16 8).make 1 2).2
def Ed:Ar:=(Ec.make 2 12).2
def Ee:Ar:=(Ed.make 5 0).2
def CV:Ar:=(Ee.copy 0).2
theorem b1:((Ar.new 16 8).make 1 2).1=0:=by decide +kernel
theorem b2:(Ec.make 2 12).1=3:=by decide +kernel
theorem b3:(Ed.make 5 0).1=-1:=by decide +kernel
theorem b4:(Ee.copy 0).1=16:=by decide +kernel
theorem b5:CV.ah 16=(1,2,0):=by decide +kernel
theorem b6:CV.aO=([0,3],[16]):=by decide +kernel
theorem b7:CV.load 1=2:=by decide +kernel
end
section
open Go.RowKit
theorem CW {l:List Int} {k:Nat} {n:Int} (h:k<l.length) (e:l.getD k 0=n):n ∈ l:=by
 simp [List.getD,h] at e;exact e ▸ Ze h
theorem zP {l:List Int} {k:Nat} {n:Int} (h:k<l.length) (hno:n ∉ l.take k) (e:l.getD k 0≠n):n ∉ l.take (k+1):=by
 rw [List.take_succ_eq_append_getElem h];simp only [List.getD,h,Le,Option.getD_some] at e;simp only [List.mem_append,List.mem_singleton];rintro (h1 | h1)
 ·exact hno h1
 ·exact e h1.symm
theorem Ep (ao:Option Addr) (cap:Nat) (l:List Int) (n:Int) (w:World) (h:Rd w ao (l.map (Value.int .i64))) (hl:l.length<=9223372036854775806) :
  Calls Tryz.prog 9 #[.slice ao l.length cap, .int .i64 n] w λe w'=>e=.returned (.bool (decide (n ∈ l)))/\w=w':=by
 have HR:=Hz h;clear h;go_enter Tryz.func9,Tryz.ntmps9
 go_wp2
 go_loop [5] (λi=>∃ k:Nat,k<=l.length/\i=.int .i64 k/\n ∉ l.take k) (λi=>l.length-(intOf i).toNat)
 case atStart=>exact ⟨0,Zc _,rfl,by simp⟩
 case round=>
  obtain ⟨k,hk,rfl,hno⟩:=hrel;have HN:=Hz hno;clear hno;by_cases hlt:k<l.length
  ·obtain ⟨g,o,rfl,hc⟩:=HR.o.int k hlt;generalize hv:l.getD k 0=v at *;have HV:=Hz hv;clear hv;by_cases e:v=n
   ·have he:(v == n)=true:=by simpa using e
    go_wp2
    go_ret;exact ⟨de (decide_eq_true (CW hlt (by rw [HV.o];exact e))).symm,rfl⟩
   ·have he:(v == n)=false:=by simpa using e
    go_wp2
    go_round
    case rel=>exact ⟨k+1,by omega,by go_num,zP hlt HN.o (by rw [HV.o];exact e)⟩
    case measure=>simp [intOf];omega
  ·go_wp2
   go_ret;exact ⟨de (decide_eq_false (by have h:=HN.o;rw [List.take_of_length_le (by omega)] at h;exact h)).symm,rfl⟩
end
section
open Go.RowKit
structure CX where
 mb:Nat
 wb:Nat
 vb:Nat
 fb:Nat
section
variable {w w':World} {g:CX} {W:Wd} {rv mv nv:Value} {F:Nat->Prop} {s:VS}
end
end
section
open Go.RowKit
section
variable {w w':World} {g:CX} {W:Wd} {rv mv nv:Value} {F:Nat->Prop} {s:VS}
section
variable {ao:Option Addr} {fs:List Vl} {w1 wr w2 wa:World} {xb rb tb:Nat} {tc xc rc:List Value} {lv lv2 mv' nv':Value} {l:List Vl} {F':Nat->Prop} {s2:VS} {v:Vl}
end
theorem CY {G:Gr} {U:List Int} (I:vX G U) {n:Nat} {x:Int} {s:VS} (hx:x ∈ U) (j:Nat) (h:dI U (s.1 ++ [x])<=n) (hc:(s.1 ++ [x]).length+dI U (s.1 ++ [x])<=5000) :
  dI U (NS G n x s j).2.1<=n/\(NS G n x s j).2.1.length+dI U (NS G n x s j).2.1<=5000:=by
 unfold NS;obtain ⟨m,hm⟩:=lD (lE G n) ((G x).2.take j) (s.1 ++ [x],s.2 ++ [((G x).1,[])]);have h1:=rS U (s.1 ++ [x]) m;have h2:=iG (f:=valM G n) (U:=U) (kM I n) ((G x).2.take j) (s.1 ++ [x],s.2 ++ [((G x).1,[])]) (λv hv=>I.shut x hx v (List.mem_of_mem_take hv));rw [hm] at h2 ⊢;dsimp only at h2 ⊢;exact ⟨by omega,by omega⟩
end
end
section
open Go.RowKit
section
variable {w:World} {g:CX} {W:Wd} {tb:Nat}
variable {wr w2:World} {rv mv nv:Value} {F:Nat->Prop} {s s2:VS} {l:List Vl}
end
def TR (W:Wd) (k:Nat):List Vl × VS:=fldM (valM W.gr 5000) (W.roots.take k) ([],[])
theorem Bz {W:Wd} {k:Nat} (h:k<W.roots.length):TR W (k+1)=((TR W k).1 ++ [(valM W.gr 5000 (W.roots.getD k (0,0)) (TR W k).2).1],(valM W.gr 5000 (W.roots.getD k (0,0)) (TR W k).2).2):=by
 unfold TR;have e:W.roots[k]? = some (W.roots.getD k (0,0)):=by rw [Le h];simp [List.getD,h]
 rw [List.take_add_one,e,Option.toList_some,mU]
 rfl
theorem CZ {W:Wd} {k:Nat} (h:k<=W.roots.length):(TR W k).1.length=k:=by
 unfold TR;rw [mV,Zx];omega
theorem AF {W:Wd} (h:W.ok) (k:Nat):dI W.all (TR W k).2.1<=5000/\(TR W k).2.1.length+dI W.all (TR W k).2.1<=5000:=by
 have I:=Wd.sJ h;unfold TR;have h1:=Wd.r8 h;have h2:=rT W.all;have h3:=iG (f:=valM W.gr 5000) (U:=W.all) (kM I 5000) (W.roots.take k) ([],[]) (λv hv h3=>Wd.jO.2 (Wd.aY (h.rv v (List.mem_of_mem_take hv)) h3));simp only [List.length_nil] at h3;exact ⟨by omega,by omega⟩
end
end Go.Proofs.YtjifdalflepcoadGreat
