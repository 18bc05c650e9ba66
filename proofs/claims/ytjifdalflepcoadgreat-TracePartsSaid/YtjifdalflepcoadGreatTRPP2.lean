/-
  Parts of the proof, merged: what the functions do, and plain laws.
-/
import Derived.Deep.LoopGhost
import Derived.Laws.EntriesVeiled
import Derived.Test.YtjifdalflepcoadGreatTRPP1
set_option maxHeartbeats 16000000
set_option maxRecDepth 100000
set_option linter.unusedVariables false
set_option linter.unusedSimpArgs false
namespace Go.Proofs.YtjifdalflepcoadGreat
section
def gX (M:List Int) (v:Vl):Vl:=eX (λx=>((M.idxOf x:Nat):Int)) v
def rZ (M:List Int) (n:Nd):Nd:=(n.1,n.2.map (gX M))
theorem ue {M m:List Int} {v:Vl} (h:v.1=3->v.2 ∈ M):gX (M ++ m) v=gX M v:=by
 unfold gX eX;by_cases h3:v.1=3
 ·rw [if_pos h3,if_pos h3];dsimp only;rw [List.idxOf_append,if_pos (h h3)]
 ·rw [if_neg h3,if_neg h3]
theorem ug {M m:List Int} {l:List Vl} (h:∀ v ∈ l,v.1=3->v.2 ∈ M):l.map (gX (M ++ m))=l.map (gX M):=
 Zf λv hv=>ue (h v hv)
structure Told (G:Gr) (L:List Vl) (s s':VS):Prop where
 pre:∃ m,s'.1=s.1 ++ m
 len:s'.2.length=s'.1.length
 nodup:s.1.Nodup->s'.1.Nodup
 met:∀ v ∈ L,v.1=3->v.2 ∈ s'.1
 shut:∀ (k:Nat) (x:Int),s.1.length<=k->s'.1[k]? = some x->∀ v ∈ (G x).2,v.1=3->v.2 ∈ s'.1
 node:∀ (k:Nat) (x:Int),s.1.length<=k->s'.1[k]? = some x->s'.2[k]? = some (rZ s'.1 (G x))
 ab:∀ k,k<s.1.length->s'.2[k]? = s.2[k]?
 led:∀ (k:Nat) (x:Int),s.1.length<=k->s'.1[k]? = some x->((3,x):Vl) ∈ L\/∃ (j:Nat) (y:Int),s.1.length<=j/\j<k/\s'.1[j]? = some y/\((3,x):Vl) ∈ (G y).2
theorem Told.refl (G:Gr) {L:List Vl} {s:VS} (hl:s.2.length=s.1.length) (hm:∀ v ∈ L,v.1=3->v.2 ∈ s.1):Told G L s s:=
 have no:∀ (k:Nat) (x:Int),s.1.length<=k->s.1[k]? = some x->False:=λk x h1 h2=>by
  rw [List.getElem?_eq_none h1] at h2;cases h2
 ⟨⟨[],by simp⟩,hl,λh=>h,hm,λk x h1 h2=>(no k x h1 h2).elim,λk x h1 h2=>(no k x h1 h2).elim,λ_ _=>rfl,λk x h1 h2=>(no k x h1 h2).elim⟩
theorem jv {α:Type} {a m:List α} {k:Nat} (h:k<a.length):(a ++ m)[k]? = a[k]? := List.getElem?_append_left h
theorem Told.then {G:Gr} {L L':List Vl} {s t u:VS} (A:Told G L s t) (B:Told G L' t u):Told G (L ++ L') s u:=by
 obtain ⟨m,hm⟩:=A.pre;obtain ⟨m',hm'⟩:=B.pre;have hsub:∀ x ∈ t.1,x ∈ u.1:=λx hx=>by rw [hm'];simp [hx]
 have ht:s.1.length<=t.1.length:=by rw [hm];simp
 refine ⟨⟨m ++ m',by rw [hm',hm];simp⟩,B.len,λh=>B.nodup (A.nodup h),λv hv h3=>?_,λk x hk hx v hv h3=>?_,λk x hk hx=>?_,λk hk=>?_,λk x hk hx=>?_⟩
 ·rcases Zk.1 hv with h | h
  ·exact hsub _ (A.met v h h3)
  ·exact B.met v h h3
 ·by_cases hlt:k<t.1.length
  ·rw [hm',jv hlt] at hx;exact hsub _ (A.shut k x hk hx v hv h3)
  ·exact B.shut k x (by omega) hx v hv h3
 ·by_cases hlt:k<t.1.length
  ·have hx':t.1[k]? = some x:=by rw [hm',jv hlt] at hx;exact hx
   rw [B.ab k hlt,A.node k x hk hx'];unfold rZ;rw [hm',ug (A.shut k x hk hx')]
  ·exact B.node k x (by omega) hx
 ·rw [B.ab k (by omega),A.ab k hk]
 ·by_cases hlt:k<t.1.length
  ·have hx':t.1[k]? = some x:=by rw [hm',jv hlt] at hx;exact hx
   rcases A.led k x hk hx' with h | ⟨j,y,h1,h0,h2,h3⟩
   ·exact .inl (by simp [h])
   ·exact .inr ⟨j,y,h1,h0,by rw [hm',jv (by omega)];exact h2,h3⟩
  ·rcases B.led k x (by omega) hx with h | ⟨j,y,h1,h0,h2,h3⟩
   ·exact .inl (by simp [h])
   ·exact .inr ⟨j,y,by omega,h0,h2,h3⟩
theorem oH {G:Gr} {U:List Int} {n:Nat} {f:Vl->VS->Vl × VS}
  (h:∀ v s,(v.1=3->v.2 ∈ U)->dI U s.1<=n->s.2.length=s.1.length->Told G [v] s (f v s).2/\(f v s).1=gX (f v s).2.1 v) :
  ∀ (l:List Vl) (s:VS),(∀ v ∈ l,v.1=3->v.2 ∈ U)->dI U s.1<=n->s.2.length=s.1.length->Told G l s (fldM f l s).2/\(fldM f l s).1=l.map (gX (fldM f l s).2.1)
 | [],s,_,_,hl=>⟨Told.refl G hl (λv hv=>by cases hv),rfl⟩
 | v :: l,s,hL,hn,hl=>by
  obtain ⟨A,e⟩:=h v s (hL v (by simp)) hn hl;obtain ⟨m,hm⟩:=A.pre;have:=rS U s.1 m;obtain ⟨B,e2⟩:=oH h l (f v s).2 (λu hu=>hL u (by simp [hu])) (by rw [hm];omega) A.len;refine ⟨A.then B,?_⟩;simp only [fldM,Zs];obtain ⟨m',hm'⟩:=B.pre;have h1:gX (fldM f l (f v s).2).2.1 v=gX (f v s).2.1 v:=by rw [hm'];exact ue (A.met v (by simp))
  rw [h1,<-e,<-e2]
theorem yd {G:Gr} {U:List Int} (I:vX G U):∀ (n:Nat) (v:Vl) (s:VS),(v.1=3->v.2 ∈ U)->dI U s.1<=n->s.2.length=s.1.length ->
  Told G [v] s (valM G n v s).2/\(valM G n v s).1=gX (valM G n v s).2.1 v:=by
 intro n
 induction n with
 | zero=>
  intro v s hv hn hl;by_cases h3:v.1=3
  ·have hm:=qc (Nat.le_zero.1 hn) (hv h3);rw [fV G _ h3 hm];refine ⟨Told.refl G hl (λu hu h=>by rw [List.mem_singleton.1 hu];exact hm),?_⟩;simp [gX,eX,h3,ij]
  ·rw [dK G _ _ h3];exact ⟨Told.refl G hl (λu hu h=>absurd (by rw [<-List.mem_singleton.1 hu];exact h) h3),by simp [gX,eX,h3]⟩
 | succ n ih=>
  intro v s hv hn hl;by_cases h3:v.1=3
  ·by_cases hm:v.2 ∈ s.1
   ·rw [fV G _ h3 hm];refine ⟨Told.refl G hl (λu hu h=>by rw [List.mem_singleton.1 hu];exact hm),?_⟩;simp [gX,eX,h3,ij]
   ·have hu:=lC (hv h3) hm;obtain ⟨A,e⟩:=oH ih (G v.2).2 (s.1 ++ [v.2],s.2 ++ [((G v.2).1,[])]) (I.shut _ (hv h3)) (Nat.le_of_lt_succ (Zd hu hn)) (by simp [hl]);obtain ⟨m,hmm⟩:=A.pre;dsimp only at hmm;rw [eQ G n h3 hm];have hat:(fldM (valM G n) (G v.2).2 (s.1 ++ [v.2],s.2 ++ [((G v.2).1,[])])).2.1[s.1.length]? = some v.2:=by rw [hmm];simp
    have hlt:s.1.length<(fldM (valM G n) (G v.2).2 (s.1 ++ [v.2],s.2 ++ [((G v.2).1,[])])).2.1.length:=by rw [hmm];simp
    refine ⟨⟨⟨v.2 :: m,by dsimp only;rw [hmm];simp⟩,by dsimp only;rw [List.length_set];exact A.len,λh=>A.nodup (by
      rw [List.nodup_append]
      exact ⟨h,by simp,λa ha b hb e=>hm (by rw [<-List.mem_singleton.1 hb,<-e];exact ha)⟩),λu hu h=>?_,λk x hk hx u hu h=>?_,λk x hk hx=>?_,λk hk=>?_,λk x hk hx=>?_⟩,?_⟩
    ·rw [List.mem_singleton.1 hu];dsimp only;rw [hmm];simp
    ·by_cases he:k=s.1.length
     ·subst he;dsimp only at hx ⊢;rw [hat] at hx;cases hx;exact A.met u hu h
     ·exact A.shut k x (by simp;omega) hx u hu h
    ·dsimp only at hx ⊢;by_cases he:k=s.1.length
     ·subst he;rw [hat] at hx;cases hx;rw [List.getElem?_set_self (by rw [A.len];exact hlt)];unfold rZ;rw [<-e]
     ·rw [List.getElem?_set_ne (by omega)];exact A.node k x (by simp;omega) hx
    ·dsimp only;rw [List.getElem?_set_ne (by omega),A.ab k (by simp;omega)];dsimp only;rw [List.getElem?_append_left (by omega)]
    ·dsimp only at hx ⊢;by_cases he:k=s.1.length
     ·subst he;rw [hat] at hx;cases hx;left;rw [List.mem_singleton,<-h3]
     ·right;rcases A.led k x (by simp;omega) hx with h | ⟨j,y,h1,h0,h2,h4⟩
      ·exact ⟨s.1.length,v.2,Zb _,by omega,hat,h⟩
      ·exact ⟨j,y,by simp at h1;omega,h0,h2,h4⟩
    ·dsimp only;unfold gX eX;rw [if_pos h3,hmm];dsimp only;rw [List.idxOf_append,if_pos (by simp),List.idxOf_append,if_neg hm];simp [ij]
  ·rw [dK G _ _ h3];exact ⟨Told.refl G hl (λu hu h=>absurd (by rw [<-List.mem_singleton.1 hu];exact h) h3),by simp [gX,eX,h3]⟩
def lI (G:Gr) (roots:List Vl):List Int:=(fldM (valM G deep) roots ([],[])).2.1
theorem xm {G:Gr} {U:List Int} (I:vX G U) (hU:U.length<=deep) {roots:List Vl} (hr:∀ v ∈ roots,v.1=3->v.2 ∈ U) :
  gB G roots=(roots.map (gX (lI G roots)),(lI G roots).map λx=>rZ (lI G roots) (G x))/\(lI G roots).Nodup/\(∀ v ∈ roots,v.1=3->v.2 ∈ lI G roots) /\
  (∀ x ∈ lI G roots, ∀ v ∈ (G x).2,v.1=3->v.2 ∈ lI G roots)/\∀ (k:Nat) (x:Int),(lI G roots)[k]? = some x->((3,x):Vl) ∈ roots\/∃ (j:Nat) (y:Int),j<k/\(lI G roots)[j]? = some y/\((3,x):Vl) ∈ (G y).2:=by
 obtain ⟨A,e⟩:=oH (yd I deep) roots ([],[]) hr (Za (rT U) hU) rfl;unfold gB;have hM:lI G roots=(fldM (valM G deep) roots ([],[])).2.1:=rfl;rw [<-hM] at e;refine ⟨Prod.ext e ?_,A.nodup (by simp),A.met,λx hx v hv h3=>?_,λk x hx=>?_⟩
 ·refine List.ext_getElem? λk=>?_;dsimp only;rw [Zw,hM];cases hk:(fldM (valM G deep) roots ([],[])).2.1[k]? with
  | none=>
   rw [List.getElem?_eq_none_iff] at hk;rw [List.getElem?_eq_none (by rw [A.len];exact hk)];rfl
  | some x=>rw [A.node k x (by simp) hk];rfl
 ·obtain ⟨k,hk,rfl⟩:=List.mem_iff_getElem.1 hx;exact A.shut k _ (by simp) (Le hk) v hv h3
 ·rcases A.led k x (by simp) hx with h | ⟨j,y,h1,h0,h2,h3⟩
  ·exact .inl h
  ·exact .inr ⟨j,y,h0,h2,h3⟩
end
section
structure aI (O:Wo) (W:Wd) (φ:Int->Int):Prop where
 ho:O.ok
 hw:W.ok
 ty:Tile O.ar O.ar.aO.1 0 O.ar.yng
 tz:Tile O.ar O.ar.aO.2 O.ar.nur O.ar.grn
 inj:∀ i j,W.live i->W.live j->φ i=φ j->i=j
 onto:∀ p,p ∈ O.ar.aO.1\/p ∈ O.ar.aO.2->∃ i,W.live i/\φ i=p
 iny:∀ i,W.live i->(W.th i).aK=false->φ i ∈ O.ar.aO.1
 ino:∀ i,W.live i->(W.th i).aK=true->φ i ∈ O.ar.aO.2
 th:∀ i,W.live i->O.ar.ah (φ i)=((W.th i).k,((W.th i).fs.length:Int),0)
 fl:∀ i,W.live i->∀ (j:Nat) (v:Vl),(W.th i).fs[j]? = some v->O.ar.load (φ i+1+j)=az φ v
 rt:O.rt=W.roots.map (az φ)
 rg:O.rg=W.ai.map (bs φ)
 wt:O.wt=W.wait.map (bs φ)
 nur:(O.ar.nur:Int)=W.most
 len:(O.ar.ws.length:Int)=W.most+W.grow
 cl:O.cd.length=gL W.grow
 card:∀ i,W.live i->(W.th i).aK=true->∀ v ∈ (W.th i).fs,v.1=3->(W.th v.2).aK=false->du O.ar.nur O.cd (φ i)=true
section
variable {O:Wo} {W:Wd} {φ:Int->Int}
theorem bU {A:Ar} {i:Int}:A.aA i=true↔0<=i/\i<A.yng:=by simp [Ar.aA]
theorem dq {A:Ar} {i:Int}:A.aK i=true↔(A.nur:Int)<=i/\i<A.grn:=by simp [Ar.aK]
theorem Tile.qi {A:Ar} {l:List Int} (h:Tile A l 0 A.yng) {p:Int} (hp:p ∈ l) {j:Int} (h0:0<=j) (h1:j<=(A.ah p).2.1):A.aA (p+j)=true:=by
 have:=Tile.mem h p hp;rw [bU];omega
theorem Tile.uh {A:Ar} {l:List Int} (h:Tile A l A.nur A.grn) {p:Int} (hp:p ∈ l) {j:Int} (h0:0<=j) (h1:j<=(A.ah p).2.1):A.aK (p+j)=true:=by
 have:=Tile.mem h p hp;rw [dq];omega
theorem aI.aA (R:aI O W φ) {i:Int} (hi:W.live i) (ho:(W.th i).aK=false) {j:Int} (h0:0<=j) (h1:j<=(W.th i).fs.length):O.ar.aA (φ i+j)=true:=
 R.ty.qi (R.iny i hi ho) h0 (by rw [R.th i hi];exact h1)
theorem aI.aK (R:aI O W φ) {i:Int} (hi:W.live i) (ho:(W.th i).aK=true) {j:Int} (h0:0<=j) (h1:j<=(W.th i).fs.length):O.ar.aK (φ i+j)=true:=
 R.tz.uh (R.ino i hi ho) h0 (by rw [R.th i hi];exact h1)
theorem ui {A:Ar} (h:A.ok) {i:Int} (hy:A.aA i=true):A.aK i=false:=by
 have:=h.h1;rw [bU] at hy;cases ho:A.aK i
 ·rfl
 ·rw [dq] at ho;omega
theorem aI.bU (R:aI O W φ) {i:Int} (hi:W.live i):O.ar.aA (φ i)=true↔(W.th i).aK=false:=by
 constructor
 ·intro h;cases ho:(W.th i).aK
  ·rfl
  ·have:=R.aK hi ho (j:=0) (by omega) (by omega);rw [Int.add_zero,ui R.ho.ha h] at this;cases this
 ·intro h;have:=R.aA hi h (j:=0) (by omega) (by omega);rwa [Int.add_zero] at this
theorem aI.dq (R:aI O W φ) {i:Int} (hi:W.live i):O.ar.aK (φ i)=true↔(W.th i).aK=true:=by
 constructor
 ·intro h;cases ho:(W.th i).aK
  ·have:=(R.bU hi).2 ho;rw [ui R.ho.ha this] at h;cases h
  ·rfl
 ·intro h;have:=R.aK hi h (j:=0) (by omega) (by omega);rwa [Int.add_zero] at this
theorem aI.use (R:aI O W φ) {i:Int} (hi:W.live i) {j:Int} (h0:0<=j) (h1:j<=(W.th i).fs.length):O.ar.aM (φ i+j)=true:=by
 unfold Ar.aM;rw [Bool.or_eq_true];cases ho:(W.th i).aK
 ·exact .inl (R.aA hi ho h0 h1)
 ·exact .inr (R.aK hi ho h0 h1)
theorem aI.place (R:aI O W φ) {i:Int} (hi:W.live i):0<=φ i/\φ i<1280/\φ i<O.ar.ws.length:=by
 have:=R.use hi (j:=0) (by omega) (by omega);rw [Int.add_zero] at this;have:=R.ho.ha.ju this;have:=R.ho.ha.h4;omega
theorem lJ {l:List Int} {f:Int->Int} (h:l.Pairwise λp q=>p+1+f p<=q) {p q:Int} (hp:p ∈ l) (hq:q ∈ l):p=q\/p+1+f p<=q\/q+1+f q<=p:=by
 induction h with
 | nil=>cases hp
 | cons h1 _ ih=>
  rcases Zm.1 hp with rfl | hp'
  ·rcases Zm.1 hq with rfl | hq'
   ·exact .inl rfl
   ·exact .inr (.inl (h1 q hq'))
  ·rcases Zm.1 hq with rfl | hq'
   ·exact .inr (.inr (h1 p hp'))
   ·exact ih hp' hq'
theorem aI.apart (R:aI O W φ) {i j:Int} (hi:W.live i) (hj:W.live j) (h:i≠j):φ i+1+(W.th i).fs.length<=φ j\/φ j+1+(W.th j).fs.length<=φ i:=by
 have hne:φ i≠φ j:=λe=>h (R.inj i j hi hj e);have h1:=R.ho.ha.h1;have ti:=R.th i hi;have tj:=R.th j hj;cases oi:(W.th i).aK <;> cases oj:(W.th j).aK
 ·have:=lJ (f:=λp=>(O.ar.ah p).2.1) R.ty.apart (R.iny i hi oi) (R.iny j hj oj);rw [ti,tj] at this;dsimp only at this;omega
 ·have a:=R.ty.mem _ (R.iny i hi oi);have b:=R.tz.mem _ (R.ino j hj oj);rw [ti] at a;dsimp only at a;omega
 ·have a:=R.tz.mem _ (R.ino i hi oi);have b:=R.ty.mem _ (R.iny j hj oj);rw [tj] at b;dsimp only at b;omega
 ·have:=lJ (f:=λp=>(O.ar.ah p).2.1) R.tz.apart (R.ino i hi oi) (R.ino j hj oj);rw [ti,tj] at this;dsimp only at this;omega
theorem Tile.nodup {A:Ar} {l:List Int} {a b:Int} (h:Tile A l a b):l.Nodup:=by
 refine List.Pairwise.imp ?_ h.apart;intro p q hpq e;have:=A.aQ p;omega
theorem sR (h:∀ i j,W.live i->W.live j->φ i=φ j->i=j):∀ (l:List (Int × Int)),(∀ e ∈ l,W.dL e)->∀ i,W.live i->fG (l.map (bs φ)) (4*φ i+1)=(dY l i).map λx=>4*φ x+1
 | [],_,_,_=>rfl
 | e :: l,hl,i,hi=>by
  have ih:=sR h l (λe he=>hl e (by simp [he])) i hi;have he:=hl e (by simp);unfold fG dY at *;simp only [Zs,List.filter_cons];by_cases c:e.1=i
  ·have c':(bs φ e).1=4*φ i+1:=by simp [bs,c]
   rw [if_pos (by simpa using c'),if_pos (by simpa using c)];simp only [Zs,ih];simp [bs]
  ·have c':¬ (bs φ e).1=4*φ i+1:=by
    intro h';simp only [bs] at h';exact c (h _ _ he.1 hi (by omega))
   rw [if_neg (by simpa using c'),if_neg (by simpa using c)];exact ih
theorem aI.fields (R:aI O W φ) {i:Int} (hi:W.live i):O.ar.fields (φ i)=(W.th i).fs.map (az φ):=by
 unfold Ar.fields;rw [R.th i hi];apply List.ext_getElem
 ·simp
 ·intro k h1 h2;simp only [Zp,List.length_range] at h1 h2;simp only [List.getElem_map,List.getElem_range];exact R.fl i hi k _ (Le (by simpa using h2))
theorem aI.Ez (R:aI O W φ):xZ W.gr O.gr W.live φ:=by
 refine ⟨R.inj,λi hi=>?_,λi hi v hv h3=>?_⟩
 ·unfold Wo.gr Wd.gr;dsimp only;rw [R.th i hi,R.fields hi];dsimp only;refine Prod.ext rfl ?_;dsimp only;rw [List.map_append,List.map_map];congr 1
  ·refine Zf λv hv=>?_;exact sQ (R.hw.tv i hi v hv)
  ·by_cases hk:(W.th i).k=5
   ·rw [if_pos hk,if_pos hk,R.wt,sR R.inj W.wait R.hw.wv i hi,List.map_map,List.map_map];refine Zf λx hx=>?_;simp only [Function.comp];unfold dA eX;rw [if_pos (by omega),if_pos rfl]
    show ((3:Int),(4*φ x+1)/4)=(3,φ x)
    rw [show (4*φ x+1)/4=φ x by omega]
   ·rw [if_neg hk,if_neg hk];rfl
 ·unfold Wd.gr at hv;dsimp only at hv;rcases Zk.1 hv with h1 | h1
  ·exact Wd.aY (R.hw.tv i hi v h1) h3
  ·split at h1
   ·obtain ⟨x,hx,rfl⟩:=Zi.1 h1;unfold dY at hx;obtain ⟨e,he,rfl⟩:=Zi.1 hx;exact (R.hw.wv e (Zo.1 he).1).2.2
   ·cases h1
theorem aI.view (R:aI O W φ):O.view=W.view:=by
 unfold Wo.view Wd.view;rw [R.rt,List.map_map];have:W.roots.map (dA ∘ az φ)=W.roots.map (eX φ):=Zf λv hv=>sQ (R.hw.rv v hv);rw [this];exact sF R.Ez (λu hu h3=>Wd.aY (R.hw.rv u hu) h3)
def Wd.idx (W:Wd) (aK:Bool):List Int:=((List.range W.T.length).map (Int.ofNat ·)).filter λi=>!(W.th i).dead && ((W.th i).aK == aK)
theorem Wd.dr {W:Wd} {b:Bool} {i:Int}:i ∈ W.idx b↔W.live i/\(W.th i).aK=b:=by
 unfold Wd.idx Wd.live;simp only [List.mem_filter,List.mem_map,List.mem_range,Zr,Bool.not_eq_true',beq_iff_eq];constructor
 ·rintro ⟨⟨n,hn,rfl⟩,h1,h2⟩;exact ⟨⟨Int.natCast_nonneg n,Int.ofNat_lt.2 hn,h1⟩,h2⟩
 ·rintro ⟨⟨h0,h1,h2⟩,h3⟩;have h4:i.toNat<W.T.length:=by omega
  have h5:((i.toNat:Nat):Int)=i:=by omega
  exact ⟨⟨i.toNat,h4,h5⟩,h2,h3⟩
theorem jw (n:Nat):((List.range n).map (Int.ofNat ·)).Nodup:=by
 rw [List.Nodup,List.pairwise_map];refine List.Pairwise.imp ?_ (List.nodup_range (n:=n));intro a b h e;exact h (Int.ofNat.inj e)
theorem Wd.sS (W:Wd) (b:Bool):(W.idx b).Nodup:=(jw _).filter _
theorem nr {l m:List Int} (h:l.Perm m):l.sum=m.sum:=by
 induction h with
 | nil=>rfl
 | cons x _ ih=>simp [ih]
 | swap x y l=>simp;omega
 | trans _ _ ih1 ih2=>exact ih1.trans ih2
theorem xo {l:List Int} (h:∀ x ∈ l,0<=x):0<=l.sum:=by
 induction l with
 | nil=>simp
 | cons a l ih=>simp only [List.sum_cons];have:=h a (by simp);have:=ih (λx hx=>h x (by simp [hx]));omega
theorem pA {f:Int->Int} (h0:∀ i,0<=f i):∀ {l m:List Int},l.Nodup->(∀ i ∈ l,i ∈ m)->(l.map f).sum<=(m.map f).sum
 | [],m,_,_=>by simpa using xo (l:=m.map f) (λx hx=>by obtain ⟨i,_,rfl⟩:=Zi.1 hx;exact h0 i)
 | a :: l,m,hn,hs=>by
  have ha:=hs a (by simp);have hp:m.Perm (a :: m.erase a):=List.perm_cons_erase ha;rw [nr (hp.map f)];simp only [Zs,List.sum_cons];rw [List.nodup_cons] at hn;have:=pA h0 (l:=l) (m:=m.erase a) hn.2 (λi hi=>(List.mem_erase_of_ne (λe=>hn.1 (by rw [<-e];exact hi))).2 (hs i (by simp [hi])));omega
theorem jx {p:Int->Bool} {f:Int->Int}:∀ (l:List Int),((l.filter p).map f).sum=(l.map λi=>if p i then f i else 0).sum
 | []=>rfl
 | a :: l=>by
  simp only [List.filter_cons,Zs,List.sum_cons];cases h:p a
  ·simp [jx l]
  ·simp [jx l]
theorem xp (W:Wd) (p:Th->Bool):eu W.T p=(((List.range W.T.length).map (Int.ofNat ·)).map λi=>if p (W.th i) then (W.th i).words else 0).sum:=by
 unfold eu;congr 1;apply List.ext_getElem
 ·simp
 ·intro k h1 h2;simp only [Zp] at h1;simp only [List.getElem_map,List.getElem_range];have e:W.th (Int.ofNat k)=W.T[k]:=by
   unfold Wd.th;rw [Ld,show (Int.ofNat k).toNat=k from rfl,Le h1];rfl
  rw [e]
theorem Wd.lg (W:Wd) (b:Bool):((W.idx b).map λi=>(W.th i).words).sum=eu W.T λt=>!t.dead && (t.aK == b):=by
 rw [xp];unfold Wd.idx;rw [jx]
theorem sT {φ:Int->Int} {l:List Int} (h:l.Nodup) (inj:∀ i ∈ l, ∀ j ∈ l,φ i=φ j->i=j):(l.map φ).Nodup:=by
 rw [List.Nodup,List.pairwise_map];refine List.Pairwise.imp_of_mem ?_ h;intro a b ha hb hne e;exact hne (inj a ha b hb e)
theorem aI.CB (R:aI O W φ):O.ar.aO.1.Perm ((W.idx false).map φ):=by
 rw [List.perm_ext_iff_of_nodup R.ty.nodup (sT (W.sS _) (λi hi j hj e=>R.inj i j (Wd.dr.1 hi).1 (Wd.dr.1 hj).1 e))];intro p;constructor
 ·intro hp;obtain ⟨i,hi,rfl⟩:=R.onto p (.inl hp);have:=R.ty.qi hp (j:=0) (by omega) (R.ho.ha |> λ_=>(O.ar.aQ (φ i)).1);rw [Int.add_zero] at this;exact Zi.2 ⟨i,Wd.dr.2 ⟨hi,(R.bU hi).1 this⟩,rfl⟩
 ·intro hp;obtain ⟨i,hi,rfl⟩:=Zi.1 hp;exact R.iny i (Wd.dr.1 hi).1 (Wd.dr.1 hi).2
theorem aI.qZ (R:aI O W φ):O.ar.aO.2.Perm ((W.idx true).map φ):=by
 rw [List.perm_ext_iff_of_nodup R.tz.nodup (sT (W.sS _) (λi hi j hj e=>R.inj i j (Wd.dr.1 hi).1 (Wd.dr.1 hj).1 e))];intro p;constructor
 ·intro hp;obtain ⟨i,hi,rfl⟩:=R.onto p (.inr hp);have:=R.tz.uh hp (j:=0) (by omega) (O.ar.aQ (φ i)).1;rw [Int.add_zero] at this;exact Zi.2 ⟨i,Wd.dr.2 ⟨hi,(R.dq hi).1 this⟩,rfl⟩
 ·intro hp;obtain ⟨i,hi,rfl⟩:=Zi.1 hp;exact R.ino i (Wd.dr.1 hi).1 (Wd.dr.1 hi).2
theorem aI.sy (R:aI O W φ):(O.ar.yng:Int)=W.aA:=by
 have h1:=R.ty.sum;rw [nr (R.CB.map _),List.map_map] at h1;have e:(W.idx false).map ((λp=>1+(O.ar.ah p).2.1) ∘ φ)=(W.idx false).map λi=>(W.th i).words:=
  Zf λi hi=>by simp only [Function.comp];rw [R.th i (Wd.dr.1 hi).1];rfl
 rw [e,Wd.lg] at h1;unfold Wd.aA;rw [h1];have:(λt:Th=>!t.dead && (t.aK == false))=λt:Th=>!t.dead && !t.aK:=by funext t;cases t.aK <;> rfl
 rw [this];omega
theorem aI.so (R:aI O W φ):(O.ar.grn:Int)-O.ar.nur=W.cD:=by
 have h1:=R.tz.sum;rw [nr (R.qZ.map _),List.map_map] at h1;have e:(W.idx true).map ((λp=>1+(O.ar.ah p).2.1) ∘ φ)=(W.idx true).map λi=>(W.th i).words:=
  Zf λi hi=>by simp only [Function.comp];rw [R.th i (Wd.dr.1 hi).1];rfl
 rw [e,Wd.lg] at h1;unfold Wd.cD;rw [h1];have:(λt:Th=>!t.dead && (t.aK == true))=λt:Th=>!t.dead && t.aK:=by funext t;cases t.aK <;> rfl
 rw [this];omega
end
end
section
section
variable {O:Wo} {W:Wd} {φ ψ:Int->Int}
theorem Tile.aO {A:Ar} (h:A.ok) {Y Z:List Int} (hy:Tile A Y 0 A.yng) (hz:Tile A Z A.nur A.grn):A.aO=(Y,Z):=by
 have:=h.h1;have:=h.h2;have:=h.h3;have:=h.h4;unfold Ar.aO;rw [hy.list (by omega),hz.list (by omega)]
theorem eC {v:Vl} (h:v.1=3->ψ v.2=φ v.2):az ψ v=az φ v:=by
 unfold az;by_cases h3:v.1=3
 ·rw [if_pos h3,if_pos h3,h h3]
 ·rw [if_neg h3,if_neg h3]
theorem qj (R:aI O W φ) {v:Vl} (hv:W.cI v):bm (az φ v):=by
 unfold bm;rcases hv with h | h | h | h
 ·have e:az φ v=2:=by simp [az,h.1]
  rw [e];decide
 ·have e:az φ v=4*v.2:=by simp [az,h.1]
  have:=h.2;unfold cG at this;rw [e];omega
 ·have e:az φ v=3:=by simp [az,h.1]
  rw [e];decide
 ·rw [bK φ h.1];have:=R.place h.2;omega
theorem aI.new {n o:Int} (h:Ar.fits n o=true):aI (Wo.new n o) (Wd.new n o) id:=by
 have h':=h;simp [Ar.fits] at h';have no:∀ i,¬ (Wd.new n o).live i:=λi hi=>by have:=hi.2.1;have:=hi.1;simp [Wd.new] at *;omega
 have hok:(Wo.new n o).ok:=by
  refine ⟨Ar.ki h,by simp [Wo.new],λx hx=>?_,λe he=>by simp [Wo.new] at he,λe he=>by simp [Wo.new] at he,by simp [Wo.new],?_⟩
  ·simp [Wo.new] at hx;subst hx;unfold bm;omega
  ·simp [Wo.new,gL];omega
 have t1:Tile (Wo.new n o).ar [] 0 (Wo.new n o).ar.yng:=by simp [Wo.new,Ar.new,Tile]
 have t2:Tile (Wo.new n o).ar [] (Wo.new n o).ar.nur (Wo.new n o).ar.grn:=by simp [Wo.new,Ar.new,Tile]
 have ht:=Tile.aO hok.ha t1 t2;refine ⟨hok,Wd.ki (by omega) (by omega) (by omega) (by omega),by rw [ht];exact t1,by rw [ht];exact t2,λi j hi=>(no i hi).elim,λp hp=>?_,λi hi=>(no i hi).elim,λi hi=>(no i hi).elim,λi hi=>(no i hi).elim,λi hi=>(no i hi).elim,?_,rfl,rfl,?_,?_,?_,λi hi=>(no i hi).elim⟩
 ·rw [ht] at hp;simp at hp
 ·simp [Wo.new,Wd.new,az]
 ·simp [Wo.new,Ar.new,Wd.new];omega
 ·simp [Wo.new,Ar.new,Wd.new];omega
 ·simp [Wo.new,Wd.new]
theorem aI.bF (R:aI O W φ) {v:Vl} (hv:W.cI v) (r:Int):aI { O with rt:=O.rt.set r.toNat (az φ v) } (W.bF r v) φ:=by
 refine ⟨⟨R.ho.ha,by simpa using R.ho.h12,λx hx=>?_,R.ho.hg,R.ho.hw,R.ho.hq,R.ho.hc⟩,R.hw.bF hv r,R.ty,R.tz,R.inj,R.onto,R.iny,R.ino,R.th,R.fl,?_,R.rg,R.wt,R.nur,R.len,R.cl,R.card⟩
 ·rcases List.mem_or_eq_of_mem_set hx with h1 | rfl
  ·exact R.ho.hR x h1
  ·exact qj R hv
 ·show O.rt.set r.toNat (az φ v)=(W.roots.set r.toNat v).map (az φ)
  rw [R.rt,List.map_set]
def lK (n y:Int) (φ:Int->Int) (i:Int):Int:=if i=n then y else φ i
theorem cR {A B:Ar} {p:Int} (h:B.load p=A.load p):B.ah p=A.ah p:=by unfold Ar.ah;rw [h]
theorem aI.put (R:aI O W φ) {A':Ar} {k r:Int} {l:List Vl} (hA:A'.ok) (h1:A'.nur=O.ar.nur) (h2:A'.grn=O.ar.grn) (h3:A'.ws.length=O.ar.ws.length) (h4:(A'.yng:Int)=O.ar.yng+(1+l.length))
  (hq:∀ q,O.ar.aM q=true->A'.load q=O.ar.load q) (ht:A'.ah O.ar.yng=(k,(l.length:Int),0)) (hl:∀ (j:Nat) (v:Vl),l[j]? = some v->A'.load (O.ar.yng+1+j)=az φ v)
  (hok:∀ v ∈ l,W.cI v) (hf:bj k l.length=true) :
  aI { O with ar:=A',rt:=O.rt.set r.toNat (4*O.ar.yng+1) } (W.put r k l) (lK W.T.length O.ar.yng φ):=by
 have hroom:1+(l.length:Int)<=W.most-W.aA:=by
  have:=hA.h1;have:=R.sy;have:=R.nur;omega
 have aK:∀ {i},W.live i->¬ i=(W.T.length:Int):=λhi e=>by have:=hi.2.1;omega
 have fe:∀ {i},W.live i->(lK W.T.length O.ar.yng φ) i=φ i:=λhi=>if_neg (aK hi);have fn:(lK W.T.length O.ar.yng φ) (W.T.length:Int)=O.ar.yng:=if_pos rfl;have ee:∀ {v},W.cI v->az (lK W.T.length O.ar.yng φ) v=az φ v:=λhv=>eC (λh3=>fe (Wd.aY hv h3));have thp:∀ p,O.ar.aM p=true->A'.ah p=O.ar.ah p:=λp hp=>cR (hq p hp);have tho:∀ {i},W.live i->(W.put r k l).th i=W.th i:=λhi=>Wd.iN hi.1 hi.2.1;have useY:∀ p ∈ O.ar.aO.1,O.ar.aM p=true:=λp hp=>by
  have:=R.ty.qi hp (j:=0) (by omega) (O.ar.aQ p).1;rw [Int.add_zero] at this;unfold Ar.aM;rw [this];rfl
 have useO:∀ p ∈ O.ar.aO.2,O.ar.aM p=true:=λp hp=>by
  have:=R.tz.uh hp (j:=0) (by omega) (O.ar.aQ p).1;rw [Int.add_zero] at this;unfold Ar.aM;rw [this];simp
 have t1:Tile A' (O.ar.aO.1 ++ [(O.ar.yng:Int)]) 0 A'.yng:=by
  refine Tile.app (Tile.congr (λp hp=>thp p (useY p hp)) R.ty) ⟨rfl,by rw [ht],?_⟩;rw [ht]
  show (O.ar.yng:Int)+1+l.length=A'.yng
  omega
 have t2:Tile A' O.ar.aO.2 A'.nur A'.grn:=by rw [h1,h2];exact Tile.congr (λp hp=>thp p (useO p hp)) R.tz
 have hth:=Tile.aO hA t1 t2;have nl:(W.put r k l).live W.T.length:=by
  refine ⟨by omega,by simp [Wd.put];omega,?_⟩;rw [Wd.dt]
 have lt:∀ {i},W.live i->φ i≠O.ar.yng:=λ{i} hi e=>by
  have:=R.use hi (j:=0) (by omega) (by omega);rw [Int.add_zero] at this;unfold Ar.aM at this;have h1':=R.ho.ha.h1;have h5:=hA.h1;rw [h1] at h5;rw [Bool.or_eq_true,Go.Proofs.YtjifdalflepcoadGreat.bU,Go.Proofs.YtjifdalflepcoadGreat.dq] at this;omega
 refine ⟨⟨hA,by simpa using R.ho.h12,λx hx=>?_,R.ho.hg,R.ho.hw,R.ho.hq,R.ho.hc⟩,R.hw.put hf hok hroom,by rw [hth];exact t1,by rw [hth];exact t2,λi j hi hj e=>?_,λp hp=>?_,λi hi ho=>?_,λi hi ho=>?_,λi hi=>?_,λi hi j v hv=>?_,?_,?_,?_,?_,?_,R.cl,λi hi ho v hv h3' hy=>?_⟩
 ·rcases List.mem_or_eq_of_mem_set hx with h5 | rfl
  ·exact R.ho.hR x h5
  ·have:=R.ho.ha.h1;have:=R.ho.ha.h2;have:=R.ho.ha.h3;have:=R.ho.ha.h4;unfold bm;omega
 ·rcases Wd.fW hi with hi | rfl <;> rcases Wd.fW hj with hj | rfl
  ·rw [fe hi,fe hj] at e;exact R.inj i j hi hj e
  ·rw [fe hi,fn] at e;exact (lt hi e).elim
  ·rw [fe hj,fn] at e;exact (lt hj e.symm).elim
  ·rfl
 ·rw [hth] at hp;dsimp only at hp;rw [List.mem_append,List.mem_singleton] at hp;rcases hp with (h5 | rfl) | h5
  ·obtain ⟨i,hi,rfl⟩:=R.onto p (.inl h5);exact ⟨i,Wd.ik hi,fe hi⟩
  ·exact ⟨_,nl,fn⟩
  ·obtain ⟨i,hi,rfl⟩:=R.onto p (.inr h5);exact ⟨i,Wd.ik hi,fe hi⟩
 ·rw [hth];rcases Wd.fW hi with hi | rfl
  ·rw [tho hi] at ho;rw [fe hi];exact List.mem_append_left _ (R.iny i hi ho)
  ·rw [fn];simp
 ·rw [hth];rcases Wd.fW hi with hi | rfl
  ·rw [tho hi] at ho;rw [fe hi];exact R.ino i hi ho
  ·rw [Wd.dt] at ho;cases ho
 ·rcases Wd.fW hi with hi | rfl
  ·have:=R.use hi (j:=0) (by omega) (by omega);rw [Int.add_zero] at this;rw [fe hi,tho hi];exact (thp _ this).trans (R.th i hi)
  ·rw [fn,Wd.dt];exact ht
 ·rcases Wd.fW hi with hi | rfl
  ·rw [tho hi] at hv;have hj:j<(W.th i).fs.length:=(Zj.1 hv).1;have:=R.use hi (j:=1+j) (by omega) (by omega);rw [<-Int.add_assoc] at this;rw [fe hi,ee (R.hw.tv i hi v (List.mem_of_getElem? hv))];exact (hq _ this).trans (R.fl i hi j v hv)
  ·rw [Wd.dt] at hv;rw [fn,ee (hok v (List.mem_of_getElem? hv))];exact hl j v hv
 ·show O.rt.set r.toNat (4*O.ar.yng+1)=(W.roots.set r.toNat (ij W.T.length)).map _
  rw [List.map_set,R.rt];congr 1
  ·exact Zf λv hv=>(ee (R.hw.rv v hv)).symm
  ·show _=az _ (3,(W.T.length:Int))
   rw [bK _ rfl];dsimp only;rw [fn]
 ·show O.rg=W.ai.map _
  rw [R.rg];exact Zf λe he=>by have:=R.hw.gv e he;unfold bs;rw [fe this.1,fe this.2.2]
 ·show O.wt=W.wait.map _
  rw [R.wt];exact Zf λe he=>by have:=R.hw.wv e he;unfold bs;rw [fe this.1,fe this.2.2]
 ·show (A'.nur:Int)=W.most;rw [h1];exact R.nur
 ·show (A'.ws.length:Int)=W.most+W.grow;rw [h3];exact R.len
 ·show du A'.nur O.cd _=true
  rcases Wd.fW hi with hi | rfl
  ·rw [tho hi] at ho hv;have hl3:=Wd.aY (R.hw.tv i hi v hv) h3';rw [tho hl3] at hy;rw [fe hi,h1];exact R.card i hi ho v hv h3' hy
  ·rw [Wd.dt] at ho;cases ho
theorem zy {l m:List Int} {i:Nat} {x:Int} (h:i+(x :: m).length<=l.length):(lay l i (x :: m)).getD i 0=x:=by
 rw [jI h,if_pos ⟨Nat.le_refl _,by simp⟩];simp
theorem Ar.xq {A:Ar} (hA:A.ok) {k f:Int} (h:bj k f=true/\1+f<=(A.nur:Int)-A.yng) :
  (∀ q,A.aM q=true->(A.make k f).2.load q=A.load q)/\(A.make k f).2.load A.yng=16*f+k/\(∀ j:Int,0<=j->j<f->(A.make k f).2.load (A.yng+1+j)=2)/\((A.make k f).2.yng:Int)=A.yng+(1+f) /\
  (A.make k f).2.nur=A.nur/\(A.make k f).2.grn=A.grn/\(A.make k f).2.ws.length=A.ws.length:=by
 have hf:=bL h.1;have hl:=kB (k:=k) hf.2.2.1;have a1:=hA.h1;have a2:=hA.h2;have a3:=hA.h3;have hle:A.yng+(fE k f).length<=A.ws.length:=by rw [hl];omega
 rw [Ar.pV h];have hload:∀ q:Int,0<=q->q<A.yng+(1+f)->Ar.load { A with yng:=A.yng+(1+f).toNat,ws:=lay A.ws A.yng (fE k f) } q=(lay A.ws A.yng (fE k f)).getD q.toNat 0:=by
  intro q h0 h1;unfold Ar.load;rw [if_pos];unfold Ar.aM;rw [Bool.or_eq_true];left;rw [bU];refine ⟨h0,?_⟩
  show q<((A.yng+(1+f).toNat:Nat):Int)
  omega
 refine ⟨λq hq=>?_,?_,λj h0 h1=>?_,?_,rfl,rfl,?_⟩
 ·have hu:Ar.aM { A with yng:=A.yng+(1+f).toNat,ws:=lay A.ws A.yng (fE k f) } q=true:=by
   unfold Ar.aM at *;rw [Bool.or_eq_true] at *;rw [bU,dq] at *;dsimp only;omega
  unfold Ar.load;rw [hu,hq];simp only [if_true];rw [jI hle,if_neg];rw [hl];unfold Ar.aM at hq;rw [Bool.or_eq_true,bU,dq] at hq;omega
 ·rw [hload _ (by omega) (by omega)];unfold fE at *;rw [Zt];exact zy hle
 ·rw [hload _ (by omega) (by omega),jI hle,if_pos (by rw [hl];omega)];unfold fE;rw [show ((A.yng:Int)+1+j).toNat-A.yng=j.toNat+1 by omega,List.getD_cons_succ];simp only [Ld];rw [List.getElem?_replicate,if_pos (by omega)];rfl
 ·dsimp only;omega
 ·dsimp only;exact dW hle
theorem ye {k f:Int} (h:bj k f=true):fD (16*f+k)=(k,f,0):=by
 have hf:=bL h;unfold fD;rw [show (16*f+k)%16=k by omega,show (16*f+k)/16=f by omega,if_pos h]
theorem q5 {base:Int} {l:List Bool} {p:Int}:du base l p=true↔base<=p/\(p-base)/8<l.length/\l.getD ((p-base)/8).toNat false=true:=by
 unfold du;rw [Zr,decide_eq_true_eq];unfold cu;by_cases c:base<=p/\(p-base)/8<l.length
 ·rw [if_pos c];constructor
  ·rintro ⟨_,h⟩;exact ⟨c.1,c.2,h⟩
  ·rintro ⟨_,_,h⟩;exact ⟨by omega,h⟩
 ·rw [if_neg c];constructor
  ·rintro ⟨h,_⟩;omega
  ·rintro ⟨h1,h2,_⟩;exact absurd ⟨h1,h2⟩ c
theorem vz {base:Int} {l:List Bool} {p:Int} (q:Int) (h:du base l p=true):du base (g7 base l q) p=true:=by
 rw [q5] at *;rw [ig];refine ⟨h.1,h.2.1,?_⟩;unfold g7;split
 ·rw [Ld,List.getElem?_set];split
  ·split
   ·rfl
   ·rename_i h1 h2;omega
  ·rw [<-Ld];exact h.2.2
 ·exact h.2.2
theorem vA {base:Int} {l:List Bool} {p:Int} (h1:base<=p) (h2:(p-base)/8<l.length):du base (g7 base l p) p=true:=by
 have hc:cu base l.length p=(p-base)/8:=by unfold cu;rw [if_pos ⟨h1,h2⟩]
 rw [q5,ig];refine ⟨h1,h2,?_⟩;unfold g7;rw [hc,if_pos (by omega),Ld,List.getElem?_set,if_pos rfl,if_pos (by omega)];rfl
theorem aI.aW (R:aI O W φ) {v:Vl} (hv:W.cI v):O.ar.aW (az φ v)=if v.1=3 then (φ v.2,(W.th v.2).k,((W.th v.2).fs.length:Int),0) else (0,0,0,2):=by
 unfold Ar.aW;by_cases h3:v.1=3
 ·rw [if_pos h3];have e:=bK φ h3;have e4:az φ v/4=φ v.2:=by rw [e];omega
  rw [e4,R.th _ (Wd.aY hv h3),if_pos ⟨(fX hv).2 h3,rfl⟩]
 ·rw [if_neg h3,if_neg (λh=>h3 ((fX hv).1 h.1))]
theorem aI.get (R:aI O W φ) {v:Vl} (hv:W.cI v) (i:Int):O.ar.get (az φ v) i =
  if v.1≠3\/(W.th v.2).k=5 then (0,2) else if i<0\/((W.th v.2).fs.length:Int)<=i then (0,1) else (az φ ((W.th v.2).fs.getD i.toNat (0,0)),0):=by
 unfold Ar.get;rw [R.aW hv];by_cases h3:v.1=3
 ·rw [if_pos h3];dsimp only;by_cases hk:(W.th v.2).k=5
  ·rw [if_pos (.inr hk),if_pos (.inr hk)]
  ·have c0:¬ ((0:Int)≠0\/(W.th v.2).k=5):=λh=>by rcases h with h | h;exact h rfl;exact hk h
   have c1:¬ (v.1≠3\/(W.th v.2).k=5):=λh=>by rcases h with h | h;exact h h3;exact hk h
   rw [if_neg c0,if_neg c1];by_cases hi:i<0\/((W.th v.2).fs.length:Int)<=i
   ·rw [if_pos hi,if_pos hi]
   ·rw [if_neg hi,if_neg hi];have hlt:i.toNat<(W.th v.2).fs.length:=by omega
    have:=R.fl v.2 (Wd.aY hv h3) i.toNat _ (Le hlt);rw [show ((i.toNat:Nat):Int)=i by omega] at this;have e4:az φ v/4=φ v.2:=by rw [bK φ h3];omega
    rw [e4,this,Ld,Le hlt];rfl
 ·rw [if_neg h3,if_pos (.inl (by decide)),if_pos (.inl h3)]
theorem aI.cK (R:aI O W φ) {a i:Int} {u:Vl} (ha:W.live a) (h0:0<=i) (h1:i<(W.th a).fs.length) (hu:W.cI u) {cd:List Bool}
  (hc1:cd.length=O.cd.length) (hc2:∀ p,du O.ar.nur O.cd p=true->du O.ar.nur cd p=true) (hc3:u.1=3->(W.th u.2).aK=false->(W.th a).aK=true->du O.ar.nur cd (φ a)=true) :
  aI { O with ar:=O.ar.store (φ a+1+i) (az φ u),cd:=cd } (W.cK a ((W.th a).fs.set i.toNat u)) φ:=by
 have hlv:=λj=>Wd.fq (fs:=(W.th a).fs.set i.toNat u) ha j;have hth:∀ {j},W.live j->(W.cK a ((W.th a).fs.set i.toNat u)).th j=if j=a then { W.th a with fs:=(W.th a).fs.set i.toNat u } else W.th j:=λhj=>Wd.gV hj.1 ha;have hold:∀ {j},W.live j->((W.cK a ((W.th a).fs.set i.toNat u)).th j).aK=(W.th j).aK:=λhj=>by
  rw [hth hj];split
  ·rename_i e;subst e;rfl
  ·rfl
 have huse:O.ar.aM (φ a+1+i)=true:=by rw [Int.add_assoc];exact R.use ha (by omega) (by omega)
 have hload:=λq=>Ar.fh R.ho.ha (φ a+1+i) q (az φ u);have hst:∀ j,W.live j->(O.ar.store (φ a+1+i) (az φ u)).ah (φ j)=O.ar.ah (φ j):=λj hj=>by
  refine cR ?_;rw [hload,if_neg];rintro ⟨e,_⟩;by_cases ej:j=a
  ·subst ej;omega
  ·have:=R.apart hj ha ej;omega
 have hok:(O.ar.store (φ a+1+i) (az φ u)).ok:=R.ho.ha.store _ _ (qj R hu);have tp:∀ p,p ∈ O.ar.aO.1\/p ∈ O.ar.aO.2->(O.ar.store (φ a+1+i) (az φ u)).ah p=O.ar.ah p:=λp hp=>by
  obtain ⟨j,hj,rfl⟩:=R.onto p hp;exact hst j hj
 have t1:Tile (O.ar.store (φ a+1+i) (az φ u)) O.ar.aO.1 0 (O.ar.store (φ a+1+i) (az φ u)).yng:=by
  rw [Ar.fH];exact Tile.congr (λp hp=>tp p (.inl hp)) R.ty
 have t2:Tile (O.ar.store (φ a+1+i) (az φ u)) O.ar.aO.2 (O.ar.store (φ a+1+i) (az φ u)).nur (O.ar.store (φ a+1+i) (az φ u)).grn:=by
  rw [Ar.cZ,Ar.dO];exact Tile.congr (λp hp=>tp p (.inr hp)) R.tz
 have hthi:=Tile.aO hok t1 t2;refine ⟨⟨hok,R.ho.h12,R.ho.hR,R.ho.hg,R.ho.hw,R.ho.hq,by show cd.length<=1000;rw [hc1];exact R.ho.hc⟩,R.hw.cK ha (by simp) (λv hv=>?_),by rw [hthi];exact t1,by rw [hthi];exact t2,
  λj k hj hk e=>R.inj j k ((hlv j).1 hj) ((hlv k).1 hk) e,λp hp=>?_,λj hj ho=>?_,λj hj ho=>?_,λj hj=>?_,λj hj n v hv=>?_,R.rt,R.rg,R.wt,?_,?_,by show cd.length=_;rw [hc1];exact R.cl,λj hj ho v hv h3 hy=>?_⟩
 ·rcases List.mem_or_eq_of_mem_set hv with h5 | rfl
  ·exact R.hw.tv a ha v h5
  ·exact hu
 ·rw [hthi] at hp;obtain ⟨j,hj,e⟩:=R.onto p hp;exact ⟨j,(hlv j).2 hj,e⟩
 ·rw [hthi];have hj':=(hlv j).1 hj;rw [hold hj'] at ho;exact R.iny j hj' ho
 ·rw [hthi];have hj':=(hlv j).1 hj;rw [hold hj'] at ho;exact R.ino j hj' ho
 ·have hj':=(hlv j).1 hj
  show (O.ar.store _ _).ah (φ j)=_
  rw [hst j hj',R.th j hj',hth hj'];split
  ·rename_i e;subst e;simp
  ·rfl
 ·have hj':=(hlv j).1 hj;rw [hth hj'] at hv
  show (O.ar.store _ _).load _=_
  rw [hload];by_cases e:j=a
  ·subst e;rw [if_pos rfl] at hv;dsimp only at hv;rw [List.getElem?_set] at hv;by_cases en:i.toNat=n
   ·rw [if_pos en] at hv;subst en;rw [if_pos (by omega)] at hv;cases hv;rw [if_pos ⟨by omega,huse⟩]
   ·rw [if_neg en] at hv;rw [if_neg (λh=>by omega)];exact R.fl j hj' n v hv
  ·rw [if_neg e] at hv;have hn:n<(W.th j).fs.length:=(Zj.1 hv).1;have:=R.apart hj' ha e;rw [if_neg (λh=>by omega)];exact R.fl j hj' n v hv
 ·show ((O.ar.store _ _).nur:Int)=W.most;rw [Ar.cZ];exact R.nur
 ·show ((O.ar.store _ _).ws.length:Int)=W.most+W.grow;rw [Ar.lX];exact R.len
 ·show du (O.ar.store _ _).nur cd (φ j)=true
  rw [Ar.cZ];have hj':=(hlv j).1 hj;rw [hold hj'] at ho;have inF:∀ w ∈ (W.th j).fs,w=v->du O.ar.nur cd (φ j)=true:=λw hw e=>by
   subst e;have hl3:=Wd.aY (R.hw.tv j hj' w hw) h3;rw [hold hl3] at hy;exact hc2 _ (R.card j hj' ho w hw h3 hy)
  rw [hth hj'] at hv;by_cases e:j=a
  ·subst e;rw [if_pos rfl] at hv;rcases List.mem_or_eq_of_mem_set hv with h5 | rfl
   ·exact inF v h5 rfl
   ·rw [hold (Wd.aY hu h3)] at hy;exact hc3 h3 hy ho
  ·rw [if_neg e] at hv;exact inF v hv rfl
theorem aI.set (R:aI O W φ) {v u:Vl} (hv:W.cI v) (hu:W.cI u) (i:Int) :
  (O.set (az φ v) i (az φ u)).1=(if v.1≠3\/(W.th v.2).k=5 then 2 else if i<0\/((W.th v.2).fs.length:Int)<=i then 1 else 0) /\
  ((O.set (az φ v) i (az φ u)).1≠0->(O.set (az φ v) i (az φ u)).2=O) /\
  ((O.set (az φ v) i (az φ u)).1=0->aI (O.set (az φ v) i (az φ u)).2 (W.cK v.2 ((W.th v.2).fs.set i.toNat u)) φ):=by
 have hg:=R.get hv i;by_cases hc:(O.ar.get (az φ v) i).2=0
 ·rw [Wo.zp hc];rw [hg] at hc;by_cases c1:v.1≠3\/(W.th v.2).k=5
  ·rw [if_pos c1] at hc;cases hc
  ·rw [if_neg c1] at hc ⊢;by_cases c2:i<0\/((W.th v.2).fs.length:Int)<=i
   ·rw [if_pos c2] at hc;cases hc
   ·rw [if_neg c2];refine ⟨rfl,λh=>(h rfl).elim,λ_=>?_⟩;have h3:v.1=3:=Decidable.byContradiction λh=>c1 (.inl h);have ha:=Wd.aY hv h3;have e4:az φ v/4=φ v.2:=by rw [bK φ h3];omega
    dsimp only;rw [e4];have hst:∀ p q x,(O.ar.store q x).aA p=O.ar.aA p/\(O.ar.store q x).aK p=O.ar.aK p:=λp q x=>by
     unfold Ar.aA Ar.aK;rw [Ar.fH,Ar.cZ,Ar.dO];exact ⟨rfl,rfl⟩
    refine R.cK ha (by omega) (by omega) hu ?_ (λp hp=>?_) (λhu3 huo hao=>?_)
    ·split
     ·exact ig _ _ _
     ·rfl
    ·split
     ·exact vz _ hp
     ·exact hp
    ·have hul:=Wd.aY hu hu3;have e5:az φ u/4=φ u.2:=by rw [bK φ hu3];omega
     rw [if_pos ⟨(fX hu).2 hu3,by rw [(hst _ _ _).1,e5];exact (R.bU hul).2 huo,by rw [(hst _ _ _).2];exact (R.dq ha).2 hao⟩];have hp:=(R.dq ha).2 hao;rw [Go.Proofs.YtjifdalflepcoadGreat.dq] at hp;have hl:=R.len;have hn:=R.nur;have hcl:=R.cl;have h3':=R.ho.ha.h3;have hg1:=R.hw.g1;refine vA hp.1 ?_;rw [hcl];unfold gL;omega
 ·rw [Wo.A8 hc];rw [hg] at hc ⊢;by_cases c1:v.1≠3\/(W.th v.2).k=5
  ·rw [if_pos c1,if_pos c1];exact ⟨rfl,λ_=>rfl,λh=>by cases h⟩
  ·rw [if_neg c1] at hc ⊢;rw [if_neg c1];by_cases c2:i<0\/((W.th v.2).fs.length:Int)<=i
   ·rw [if_pos c2,if_pos c2];exact ⟨rfl,λ_=>rfl,λh=>by cases h⟩
   ·rw [if_neg c2] at hc;exact (hc rfl).elim
theorem aI.eZ (R:aI O W φ) {e:Int × Int} (he:W.dL e) (hr:W.ai.length+W.wait.length<24):aI { O with rg:=O.rg ++ [bs φ e] } { W with ai:=W.ai ++ [e] } φ:=by
 have hle:=R.place he.1;have hle2:=R.place he.2.2;refine ⟨⟨R.ho.ha,R.ho.h12,R.ho.hR,λx hx=>?_,R.ho.hw,?_,R.ho.hc⟩,?_,R.ty,R.tz,R.inj,R.onto,R.iny,R.ino,R.th,R.fl,R.rt,?_,R.wt,R.nur,R.len,R.cl,R.card⟩
 ·rcases Zk.1 hx with h1 | h1
  ·exact R.ho.hg x h1
  ·rw [List.mem_singleton.1 h1];unfold bs rU bm;dsimp only;omega
 ·have h1:O.rg.length=W.ai.length:=by rw [R.rg];simp
  have h2:O.wt.length=W.wait.length:=by rw [R.wt];simp
  simp;omega
 ·have h:=R.hw;refine ⟨h.hr,h.rv,h.tk,h.tv,λx hx=>?_,h.wv,by simp;omega,h.m1,h.m2,h.g1,h.g2,h.uy,h.uo⟩;rcases Zk.1 hx with h1 | h1
  ·exact h.gv x h1
  ·rw [List.mem_singleton.1 h1];exact he
 ·show O.rg ++ [bs φ e]=(W.ai ++ [e]).map (bs φ)
  rw [R.rg];simp
end
end
section
def iq (x:Int):Int:=IntKind.i64.wrap (4*x+1)
def aX (A:Ar) (x:Int):Bool:=!(decide (x%4=1) && A.aA (x/4)) || decide (A.load (x/4)<0)
def cV (A:Ar) (x:Int):Int:=if x%4=1/\A.aA (x/4)=true/\A.load (x/4)<0 then iq (-1-A.load (x/4)) else x
def bI (A:Ar) (x:Int):Ar:=if aX A x=true then A else (A.copy (x/4)).2.store (x/4) (-1-(A.copy (x/4)).1)
def fJ (A:Ar) (i:Int):Ar:=(bI A (A.load i)).store i (cV (bI A (A.load i)) (A.load i))
def mFields:Nat->Ar->Int->Ar
 | 0,A,_=>A
 | n+1,A,i=>mFields n (fJ A i) (i+1)
structure Ms where
 A:Ar
 wk:List Int
 ep:List Int
def eD (s:Ms) (i:Int):Ms:=
 if (s.A.ah i).1=1\/(s.A.ah i).1=2 then { s with A:=mFields (s.A.ah i).2.1.toNat s.A (i+1) }
 else if (s.A.ah i).1=3 then ⟨fJ s.A (i+2),s.wk ++ [i],s.ep⟩
 else if (s.A.ah i).1=4 then { s with ep:=s.ep ++ [i] }
 else s
def mScan:Nat->Ms->Int->Ms × Int
 | 0,s,c=>(s,c)
 | n+1,s,c=>if c<s.A.grn then mScan n (eD s c) (c+(1+(s.A.ah c).2.1)) else (s,c)
def j2 (A:Ar) (i:Int):Ar:=if aX A (A.load (i+1))=true then fJ (fJ A (i+1)) (i+2) else A
def gE (A:Ar) (l:List Int):Ar:=l.foldl j2 A
def jm (A:Ar) (x:Int):Ar × Int:=(bI A x,cV (bI A x) x)
structure Md where
 s:Ms
 c:Int
 q:List (Int × Int)
def bJ (d:Md):Md:=
 let r:=mScan 2000 d.s d.c
 let w:=wakeM aX jm (gE r.1.A r.1.ep) d.q
 ⟨{ r.1 with A:=w.1 },r.2,w.2.1⟩
def mDrain:Nat->Md->Md
 | 0,d=>d
 | n+1,d=>if (bJ d).c<(bJ d).s.A.grn then mDrain n (bJ d) else bJ d
abbrev Mt:=Ms × Int
def bQ (t:Mt) (x:Int):Bool:=aX t.1.A x
def fB (t:Mt) (x:Int):Int:=cV t.1.A x
def gN (t:Mt) (q:List (Int × Int)) (x:Int):Mt × List (Int × Int) × Int:=
 let d:=mDrain 2000 ⟨{ t.1 with A:=bI t.1.A x },t.2,q⟩
 ((d.s,d.c),d.q,cV (bI t.1.A x) x)
def gY (A:Ar) (i:Int) (dead:Bool):Ar:=A.store i (if dead then 3 else cV A (A.load i))
def fK (A:Ar) (l:List Int):Ar:=l.foldl (λA i=>gY A (i+1) (!aX A (A.load (i+1)))) A
def db (A:Ar) (i:Int):Ar:=gY (gY A (i+1) (!aX A (A.load (i+1)))) (i+2) (!aX A (A.load (i+1)))
def j3 (s:Ms):Ar:=s.ep.foldl db (fK s.A s.wk)
def mRoots (A:Ar):List Int->Ar × List Int
 | []=>(A,[])
 | x :: l=>((mRoots (bI A x) l).1,cV (bI A x) x :: (mRoots (bI A x) l).2)
def eK (base:Int) (cd:List Bool) (s:Ms) (l:List Int):Ms:=l.foldl (λs i=>if du base cd i=true then eD s i else s) s
def iL (O:Wo):Md:=
 mDrain 2000 ⟨eK O.ar.nur O.cd ⟨(mRoots O.ar O.rt).1,[],[]⟩ O.ar.aO.2,O.ar.grn,O.wt⟩
def bN (O:Wo):Mt × List (Int × Int) × List It:=dw bQ gN ((iL O).s,(iL O).c) O.rg (iL O).q
def ir (O:Wo):Int × Wo:=
 if (O.ar.yng:Int) > (O.ar.ws.length:Int)-O.ar.grn then (3,O)
 else (0,⟨(j3 (bN O).1.1).clear,O.cd.map λ_=>false,(mRoots O.ar O.rt).2,
  bq bQ fB (bN O).1 (bN O).2.2,bt bQ fB (bN O).1 (bN O).2.1⟩)
structure Sm (A B:Ar):Prop where
 ok:B.ok
 nur:B.nur=A.nur
 yng:B.yng=A.yng
 len:B.ws.length=A.ws.length
 grn:A.grn<=B.grn
theorem Sm.refl {A:Ar} (h:A.ok):Sm A A:=⟨h,rfl,rfl,rfl,Zb _⟩
theorem Sm.trans {A B C:Ar} (h:Sm A B) (k:Sm B C):Sm A C:=⟨k.ok,k.nur.trans h.nur,k.yng.trans h.yng,k.len.trans h.len,Za h.grn k.grn⟩
theorem Sm.store {A:Ar} (h:A.ok) (i:Int) {x:Int} (hx:bm x):Sm A (A.store i x):=⟨h.store i x hx,A.cZ i x,A.fH i x,A.lX i x,by rw [A.dO];exact Zb _⟩
theorem Sm.copy {A:Ar} (h:A.ok) (i:Int):Sm A (A.copy i).2:=by
 refine ⟨h.copy i,?_,?_,?_,?_⟩
 all_goals unfold Ar.copy;dsimp only;split
 all_goals first | rfl | exact Nat.le_add_right _ _ | exact Zb _ | skip
 rename_i hc;have hf:=A.aQ i;have hs:=Ar.kL h hf.1 hc.2.1;have:=h.h1;have:=h.h2;have:=h.h3;exact dW (by simp;omega)
theorem Ar.q6 {A:Ar} (h:A.ok) (i:Int):-1<=(A.copy i).1/\(A.copy i).1<=1280:=by
 have:=h.h3;have:=h.h4;unfold Ar.copy;dsimp only;split
 ·dsimp only;omega
 ·dsimp only;omega
theorem zz (x:Int):bm (IntKind.i64.wrap x):=by
 unfold bm;rw [IntKind.wrap_i64];omega
theorem Sm.iU {A:Ar} (h:A.ok) (x:Int):Sm A (bI A x):=by
 unfold bI;split
 ·exact Sm.refl h
 ·have:=Ar.q6 h (x/4);exact (Sm.copy h _).trans (Sm.store (h.copy _) _ (by unfold bm;omega))
theorem iu {A:Ar} {x:Int} (hx:bm x):bm (cV A x):=by
 unfold cV;split
 ·exact zz _
 ·exact hx
theorem Sm.field {A:Ar} (h:A.ok) (i:Int):Sm A (fJ A i):=
 (Sm.iU h _).trans (Sm.store (Sm.iU h _).ok _ (iu (h.load i)))
theorem Sm.fields {A:Ar} (h:A.ok):∀ (n:Nat) (i:Int),Sm A (mFields n A i):=by
 intro n
 induction n generalizing A with
 | zero=>intro i;exact Sm.refl h
 | succ n ih=>intro i;exact (Sm.field h i).trans (ih (Sm.field h i).ok (i+1))
theorem Sm.look {s:Ms} (h:s.A.ok) (i:Int):Sm s.A (eD s i).A:=by
 unfold eD;split
 ·exact Sm.fields h _ _
 ·split
  ·exact Sm.field h _
  ·split <;> exact Sm.refl h
theorem Sm.scan:∀ (n:Nat) (s:Ms) (c:Int),s.A.ok->Sm s.A (mScan n s c).1.A
 | 0,s,c,h=>Sm.refl h
 | n+1,s,c,h=>by
  unfold mScan;split
  ·exact (Sm.look h c).trans (Sm.scan n _ _ (Sm.look h c).ok)
  ·exact Sm.refl h
theorem Sm.uj {A:Ar} (h:A.ok) (i:Int):Sm A (j2 A i):=by
 unfold j2;split
 ·exact (Sm.field h _).trans (Sm.field (Sm.field h _).ok _)
 ·exact Sm.refl h
theorem Sm.q7:∀ (l:List Int) {A:Ar} (h:A.ok),Sm A (gE A l)
 | [],A,h=>Sm.refl h
 | i :: l,A,h=>(Sm.uj h i).trans (Sm.q7 l (Sm.uj h i).ok)
theorem Sm.fy:∀ (l:List (Int × Int)) {A:Ar} (h:A.ok),Sm A (wakeM aX jm A l).1
 | [],A,h=>Sm.refl h
 | e :: l,A,h=>by
  unfold wakeM;split
  ·exact (Sm.iU h e.2).trans (Sm.fy l (Sm.iU h e.2).ok)
  ·exact Sm.fy l h
theorem Sm.round (d:Md) (h:d.s.A.ok):Sm d.s.A (bJ d).s.A:=by
 have h1:=Sm.scan 2000 d.s d.c h;have h2:=Sm.q7 (mScan 2000 d.s d.c).1.ep h1.ok;exact (h1.trans h2).trans (Sm.fy d.q h2.ok)
theorem Sm.fix {A:Ar} (h:A.ok) (i:Int) (b:Bool):Sm A (gY A i b):=by
 refine Sm.store h i ?_;split
 ·unfold bm;omega
 ·exact iu (h.load i)
theorem l5 {τ:Type} (alive:τ->Int->Bool) (kp:τ->Int->τ × Int):∀ (l:List (Int × Int)) (t:τ),(wakeM alive kp t l).2.1.length=l.length
 | [],_=>rfl
 | e :: l,t=>by
  unfold wakeM;split
  ·simp [l5 alive kp l]
  ·simp [l5 alive kp l]
theorem ns:∀ (n:Nat) (d:Md),(mDrain n d).q.length=d.q.length
 | 0,d=>rfl
 | n+1,d=>by
  have h:(bJ d).q.length=d.q.length:=l5 _ _ _ _;unfold mDrain;split
  ·rw [ns n,h]
  ·exact h
end
section
def lL (φ ψ:Int->Int) (S:Int->Prop) (x:Int) (v:Vl):Prop:=x=az φ v\/((v.1=3->S v.2)/\x=az ψ v)
structure Cu (O:Wo) (W:Wd) (φ:Int->Int) (A:Ar) (S:Int->Prop) (ψ:Int->Int) (N:List Int):Prop where
 sm:Sm O.ar A
 sl:∀ i,S i->W.live i
 so:∀ i,W.live i->(W.th i).aK=true->S i
 po:∀ i,W.live i->(W.th i).aK=true->ψ i=φ i
 nd:N.Nodup
 nm:∀ i,i ∈ N↔S i/\(W.th i).aK=false
 iZ:Tile A (N.map ψ) O.ar.grn A.grn
 th:∀ i,S i->A.ah (ψ i)=((W.th i).k,((W.th i).fs.length:Int),0)
 yet:∀ i,W.live i->(W.th i).aK=false->¬ S i->∀ j:Int,0<=j->j<=(W.th i).fs.length->A.load (φ i+j)=O.ar.load (φ i+j)
 fwd:∀ i ∈ N,A.load (φ i)=-1-ψ i
 fd:∀ i,S i->∀ (j:Nat) (v:Vl),(W.th i).fs[j]? = some v->lL φ ψ S (A.load (ψ i+1+j)) v
section
variable {O:Wo} {W:Wd} {φ ψ ψ':Int->Int} {A A':Ar} {S S':Int->Prop} {N N':List Int}
def Up (W:Wd) (A:Ar) (S:Int->Prop) (ψ:Int->Int) (i:Int) (j:Nat) (v:Vl):Prop:=(v.1=3->S v.2)/\A.load (ψ i+1+j)=az ψ v
structure Ext (W:Wd) (A:Ar) (S:Int->Prop) (ψ:Int->Int) (N:List Int) (A':Ar) (S':Int->Prop) (ψ':Int->Int) (N':List Int):Prop where
 sub:∀ i,S i->S' i
 at_:∀ i,S i->ψ' i=ψ i
 pre:∃ m,N'=N ++ m
 up:∀ i,S i->∀ (j:Nat) (v:Vl),(W.th i).fs[j]? = some v->Up W A S ψ i j v->Up W A' S' ψ' i j v
 grn:A.grn<=A'.grn
theorem Ext.refl:Ext W A S ψ N A S ψ N:=⟨λ_ h=>h,λ_ _=>rfl,⟨[],by simp⟩,λ_ _ _ _ _ h=>h,Zb _⟩
theorem Ext.trans {A2:Ar} {S2:Int->Prop} {ψ2:Int->Int} {N2:List Int} (h:Ext W A S ψ N A' S' ψ' N') (k:Ext W A' S' ψ' N' A2 S2 ψ2 N2):Ext W A S ψ N A2 S2 ψ2 N2:=by
 obtain ⟨m,e⟩:=h.pre;obtain ⟨m',e'⟩:=k.pre;exact ⟨λi hi=>k.sub i (h.sub i hi),λi hi=>(k.at_ i (h.sub i hi)).trans (h.at_ i hi),⟨m ++ m',by rw [e',e];simp⟩,λi hi j v hv hu=>k.up i (h.sub i hi) j v hv (h.up i hi j v hv hu),Za h.grn k.grn⟩
theorem Ext.CC (h:Ext W A S ψ N A' S' ψ' N') {x:Int} {v:Vl} (hw:lL φ ψ S x v):lL φ ψ' S' x v:=by
 rcases hw with h1 | ⟨h1,h2⟩
 ·exact .inl h1
 ·exact .inr ⟨λh3=>h.sub _ (h1 h3),by rw [h2];exact (eC (λh3=>h.at_ _ (h1 h3))).symm⟩
theorem lM {f:Int->Int}:∀ {l:List Int},(l.map f).Nodup->∀ {a b:Int},a ∈ l->b ∈ l->f a=f b->a=b
 | x :: l,h,a,b,ha,hb,e=>by
  simp only [Zs,List.nodup_cons] at h;rcases Zm.1 ha with ea | ha'
  ·rcases Zm.1 hb with eb | hb'
   ·rw [ea,eb]
   ·rw [ea] at e;exact (h.1 (Zi.2 ⟨b,hb',e.symm⟩)).elim
  ·rcases Zm.1 hb with eb | hb'
   ·rw [eb] at e;exact (h.1 (Zi.2 ⟨a,ha',e⟩)).elim
   ·exact lM h.2 ha' hb' e
theorem Cu.um (C:Cu O W φ A S ψ N) {i:Int} (hi:S i) (hn:¬ i ∈ N):(W.th i).aK=true:=by
 cases h:(W.th i).aK
 ·exact (hn ((C.nm i).2 ⟨hi,h⟩)).elim
 ·rfl
theorem Cu.place (R:aI O W φ) (C:Cu O W φ A S ψ N) {i:Int} (hi:S i) :
  (A.nur:Int)<=ψ i/\ψ i+1+(W.th i).fs.length<=A.grn/\(i ∈ N->(O.ar.grn:Int)<=ψ i)/\(¬ i ∈ N->ψ i+1+(W.th i).fs.length<=O.ar.grn):=by
 have hg:=C.sm.grn;have hn:=C.sm.nur;have h2:=R.ho.ha.h2;by_cases h:i ∈ N
 ·have:=C.iZ.mem (ψ i) (Zi.2 ⟨i,h,rfl⟩);rw [C.th i hi] at this;dsimp only at this;exact ⟨by omega,by omega,λ_=>by omega,λh'=>(h' h).elim⟩
 ·have ho:=C.um hi h;have hl:=C.sl i hi;have:=R.tz.mem _ (R.ino i hl ho);rw [R.th i hl] at this;dsimp only at this;rw [C.po i hl ho];exact ⟨by omega,by omega,λh'=>(h h').elim,λ_=>by omega⟩
theorem Cu.wC (R:aI O W φ) (C:Cu O W φ A S ψ N) {i:Int} (hi:S i) {j:Int} (h0:0<=j) (h1:j<=(W.th i).fs.length):A.aK (ψ i+j)=true:=by
 have:=C.place R hi;rw [dq];omega
theorem Cu.sJ (R:aI O W φ) (C:Cu O W φ A S ψ N) {i:Int} (hi:S i) {j:Int} (h0:0<=j) (h1:j<=(W.th i).fs.length):A.aM (ψ i+j)=true:=by
 unfold Ar.aM;rw [C.wC R hi h0 h1];simp
theorem Cu.apart (R:aI O W φ) (C:Cu O W φ A S ψ N) {i j:Int} (hi:S i) (hj:S j) (h:i≠j):ψ i+1+(W.th i).fs.length<=ψ j\/ψ j+1+(W.th j).fs.length<=ψ i:=by
 have pi:=C.place R hi;have pj:=C.place R hj;have ti:=C.th i hi;have tj:=C.th j hj;by_cases ni:i ∈ N <;> by_cases nj:j ∈ N
 ·have:=lJ (f:=λp=>(A.ah p).2.1) C.iZ.apart (Zi.2 ⟨i,ni,rfl⟩) (Zi.2 ⟨j,nj,rfl⟩);rw [ti,tj] at this;dsimp only at this;rcases this with e | e | e
  ·exact (h (lM C.iZ.nodup ni nj e)).elim
  ·exact .inl e
  ·exact .inr e
 ·have:=pi.2.2.1 ni;have:=pj.2.2.2 nj;omega
 ·have:=pi.2.2.2 ni;have:=pj.2.2.1 nj;omega
 ·have oi:=C.um hi ni;have oj:=C.um hj nj;have li:=C.sl i hi;have lj:=C.sl j hj;rw [C.po i li oi,C.po j lj oj];exact R.apart li lj h
theorem Cu.inj (R:aI O W φ) (C:Cu O W φ A S ψ N) {i j:Int} (hi:S i) (hj:S j) (e:ψ i=ψ j):i=j:=by
 by_cases h:i=j
 ·exact h
 ·have:=C.apart R hi hj h;omega
theorem iI {A B:Ar} {p q:Int} (h:B.load p=A.load q):B.ah p=A.ah q:=by unfold Ar.ah;rw [h]
theorem yf {A:Ar} {p:Int} (h:(A.ah p).2.2=0):0<A.load p:=by
 unfold Ar.ah fD at h;split at h
 ·rename_i hf;have:=bL hf;omega
 ·simp at h
theorem Cu.q8 (R:aI O W φ) (C:Cu O W φ A S ψ N) {i:Int} (hl:W.live i) (ho:(W.th i).aK=false) (hs:¬ S i):A.load (φ i)=O.ar.load (φ i)/\0<A.load (φ i):=by
 have:=C.yet i hl ho hs 0 (by omega) (by omega);rw [Int.add_zero] at this;have h2:=R.th i hl;exact ⟨this,by rw [this];exact yf (by rw [h2])⟩
theorem Cu.jn (R:aI O W φ) (C:Cu O W φ A S ψ N) {i:Int} (hl:W.live i):A.aA (φ i)=true↔(W.th i).aK=false:=by
 have:A.aA (φ i)=O.ar.aA (φ i):=by unfold Ar.aA;rw [C.sm.yng]
 rw [this];exact R.bU hl
theorem Cu.sU (R:aI O W φ) (C:Cu O W φ A S ψ N) {i:Int} (hi:S i):A.aA (ψ i)=false:=by
 have:=C.place R hi;have h1:=C.sm.ok.h1;cases h:A.aA (ψ i)
 ·rfl
 ·rw [bU] at h;omega
theorem oI {A:Ar} {x:Int} (h:¬ x%4=1):aX A x=true:=by unfold aX;simp [h]
theorem q9 {A:Ar} {x:Int} (h:¬ x%4=1):cV A x=x:=if_neg (λh'=>h h'.1)
theorem Cu.alive (R:aI O W φ) (C:Cu O W φ A S ψ N) {x:Int} {v:Vl} (hv:W.cI v) (hx:lL φ ψ S x v):aX A x=true↔(v.1=3->S v.2):=by
 by_cases h3:v.1=3
 ·have hl:=Wd.aY hv h3;rcases hx with rfl | ⟨hs,rfl⟩
  ·have e:=bK φ h3;have e4:az φ v/4=φ v.2:=by rw [e];omega
   have e1:az φ v%4=1:=by rw [e];omega
   unfold aX;rw [e4];cases ho:(W.th v.2).aK
   ·rw [(C.jn R hl).2 ho];by_cases hs:S v.2
    ·have:=C.fwd v.2 ((C.nm _).2 ⟨hs,ho⟩);have hp:=C.place R hs;have h0:(0:Int)<=A.nur:=by omega
     simp [e1,this,hs];omega
    ·have:=(C.q8 R hl ho hs).2;simp [e1,h3,hs];omega
   ·have:A.aA (φ v.2)=false:=by
     cases h:A.aA (φ v.2)
     ·rfl
     ·rw [C.jn R hl,ho] at h;cases h
    rw [this];simp [C.so _ hl ho]
  ·have e:=bK ψ h3;have e4:az ψ v/4=ψ v.2:=by rw [e];omega
   unfold aX;rw [e4,C.sU R (hs h3)];simp [hs h3]
 ·have e:x=az φ v:=by
   rcases hx with h | ⟨_,h⟩
   ·exact h
   ·rw [h];exact kS h3
  subst e;rw [oI (λh=>h3 ((fX hv).1 h))];simp [h3]
theorem Cu.now (R:aI O W φ) (C:Cu O W φ A S ψ N) {x:Int} {v:Vl} (hv:W.cI v) (hx:lL φ ψ S x v) (hs:v.1=3->S v.2):cV A x=az ψ v:=by
 by_cases h3:v.1=3
 ·have hl:=Wd.aY hv h3;have hS:=hs h3;have hp:=C.place R hS;have hok:=C.sm.ok;have b1:=hok.h3;have b2:=hok.h4;have e':=bK ψ h3;rcases hx with rfl | ⟨_,rfl⟩
  ·have e:=bK φ h3;have e4:az φ v/4=φ v.2:=by rw [e];omega
   have e1:az φ v%4=1:=by rw [e];omega
   unfold cV;rw [e4];cases ho:(W.th v.2).aK
   ·have hf:=C.fwd v.2 ((C.nm _).2 ⟨hS,ho⟩);rw [if_pos ⟨e1,(C.jn R hl).2 ho,by rw [hf];omega⟩,hf,e'];unfold iq;rw [show 4*(-1-(-1-ψ v.2))+1=4*ψ v.2+1 by omega,IntKind.wrap_i64];omega
   ·have:¬ A.aA (φ v.2)=true:=by rw [C.jn R hl,ho];decide
    rw [if_neg (λh=>this h.2.1),e,e',C.po _ hl ho]
  ·have e4:az ψ v/4=ψ v.2:=by rw [e'];omega
   unfold cV;rw [e4,C.sU R hS,if_neg (λh=>by cases h.2.1)]
 ·have e:x=az φ v:=by
   rcases hx with h | ⟨_,h⟩
   ·exact h
   ·rw [h];exact kS h3
  subst e;rw [q9 (λh=>h3 ((fX hv).1 h))];exact kS h3
theorem Cu.room (R:aI O W φ) (C:Cu O W φ A S ψ N) (hr:(O.ar.yng:Int)<=(O.ar.ws.length:Int)-O.ar.grn) {i:Int} (hl:W.live i) (ho:(W.th i).aK=false) (hs:¬ S i) :
  1+((W.th i).fs.length:Int)<=(A.ws.length:Int)-A.grn:=by
 have hn:¬ i ∈ N:=λh=>hs ((C.nm i).1 h).1;have h1:=C.iZ.sum;rw [List.map_map] at h1;have e:N.map ((λp=>1+(A.ah p).2.1) ∘ ψ)=N.map λi=>(W.th i).words:=
  Zf λj hj=>by simp only [Function.comp];rw [C.th j ((C.nm j).1 hj).1];rfl
 rw [e] at h1;have h2:=pA (f:=λi=>(W.th i).words) (λi=>by unfold Th.words;omega) (l:=i :: N) (m:=W.idx false) (List.nodup_cons.2 ⟨hn,C.nd⟩) (by
  intro j hj;rcases Zm.1 hj with rfl | hj
  ·exact Wd.dr.2 ⟨hl,ho⟩
  ·have:=(C.nm j).1 hj;exact Wd.dr.2 ⟨C.sl j this.1,this.2⟩)
 rw [Wd.lg] at h2;have h3:(eu W.T λt=>!t.dead && (t.aK == false))=W.aA:=by
  unfold Wd.aA;congr 1
  funext t;cases t.aK <;> rfl
 rw [h3,<-R.sy] at h2;simp only [Zs,List.sum_cons] at h2;have h4:=C.sm.len;have h5:(W.th i).words=1+((W.th i).fs.length:Int):=rfl;omega
theorem Ar.xt {A:Ar} (hA:A.ok) {p:Int} (h:(A.ah p).2.2=0/\A.whole p (A.ah p).2.1=true/\1+(A.ah p).2.1<=(A.ws.length:Int)-A.grn) :
  (A.copy p).1=A.grn/\(∀ q,A.aM q=true->(A.copy p).2.load q=A.load q)/\(∀ j:Int,0<=j->j<=(A.ah p).2.1->(A.copy p).2.load (A.grn+j)=A.load (p+j))/\((A.copy p).2.grn:Int)=A.grn+(1+(A.ah p).2.1):=by
 have hf:=A.aQ p;have hs:=Ar.kL hA hf.1 h.2.1;have a1:=hA.h1;have a2:=hA.h2;have a3:=hA.h3;have hl:((A.ws.drop p.toNat).take (1+(A.ah p).2.1).toNat).length=(1+(A.ah p).2.1).toNat:=by simp;omega
 have hle:A.grn+((A.ws.drop p.toNat).take (1+(A.ah p).2.1).toNat).length<=A.ws.length:=by rw [hl];omega
 rw [Ar.tM h];refine ⟨rfl,λq hq=>?_,λj h0 h1=>?_,by dsimp only;omega⟩
 ·have hu:Ar.aM { A with grn:=A.grn+(1+(A.ah p).2.1).toNat,ws:=lay A.ws A.grn ((A.ws.drop p.toNat).take (1+(A.ah p).2.1).toNat) } q=true:=by
   unfold Ar.aM at *;rw [Bool.or_eq_true] at *;rw [bU,dq] at *;dsimp only;omega
  unfold Ar.load;rw [hu,hq];simp only [if_true];rw [jI hle,if_neg];rw [hl];unfold Ar.aM at hq;rw [Bool.or_eq_true,bU,dq] at hq;omega
 ·have hu:Ar.aM { A with grn:=A.grn+(1+(A.ah p).2.1).toNat,ws:=lay A.ws A.grn ((A.ws.drop p.toNat).take (1+(A.ah p).2.1).toNat) } (A.grn+j)=true:=by
   unfold Ar.aM;rw [Bool.or_eq_true,dq];right;dsimp only;omega
  have hup:A.aM (p+j)=true:=by
   unfold Ar.whole at h;unfold Ar.aM;have h2:=h.2.1;simp only [Bool.or_eq_true,Zr,bU,dq] at h2 ⊢;omega
  unfold Ar.load;rw [hu,hup];simp only [if_true];rw [jI hle,if_pos (by rw [hl];omega)];simp only [Ld];rw [List.getElem?_take,if_pos (by omega),List.getElem?_drop];congr 2;omega
end
end
section
section
variable {O:Wo} {W:Wd} {φ ψ ψ':Int->Int} {A A':Ar} {S S':Int->Prop} {N N':List Int}
def xu (O:Wo) (W:Wd) (φ:Int->Int) (A:Ar) (S:Int->Prop) (ψ:Int->Int) (N:List Int) (A':Ar) (Al:Int->Prop) (T:(Int->Prop)->(Int->Int)->List Int->Prop):Prop:=
 ∃ S' ψ' N',Cu O W φ A' S' ψ' N'/\Ext W A S ψ N A' S' ψ' N'/\(∀ k,S' k->S k\/Al k)/\T S' ψ' N'
theorem Cu.iU (R:aI O W φ) (C:Cu O W φ A S ψ N) (hr:(O.ar.yng:Int)<=(O.ar.ws.length:Int)-O.ar.grn) {x:Int} {v:Vl} (hv:W.cI v) (hx:lL φ ψ S x v) :
  xu O W φ A S ψ N (bI A x) (λk=>v.1=3/\k=v.2) λS' ψ' N'=>cV (bI A x) x=az ψ' v/\(v.1=3->S' v.2)/\∀ q,A.aK q=true->(bI A x).load q=A.load q:=by
 by_cases ha:aX A x=true
 ·have e:bI A x=A:=by unfold bI;rw [if_pos ha]
  have hs:=(C.alive R hv hx).1 ha;rw [e];exact ⟨S,ψ,N,C,Ext.refl,λk hk=>.inl hk,C.now R hv hx hs,hs,λ_ _=>rfl⟩
 ·have hns:¬ (v.1=3->S v.2):=λh=>ha ((C.alive R hv hx).2 h);have h3:v.1=3:=Decidable.byContradiction λh=>hns (λh'=>(h h').elim);have hs:¬ S v.2:=λh=>hns (λ_=>h);obtain ⟨i,hi⟩:∃ i,v.2=i:=⟨_,rfl⟩;have hl:=Wd.aY hv h3;rw [hi] at hs hl;have ho:(W.th i).aK=false:=by
   cases h:(W.th i).aK
   ·rfl
   ·exact (hs (C.so i hl h)).elim
  have hxe:x=az φ v:=by
   rcases hx with h | ⟨h,_⟩
   ·exact h
   ·exact (hns h).elim
  have e4:x/4=φ i:=by rw [hxe,bK φ h3,hi];omega
  have hA:=C.sm.ok;have hfl:=C.q8 R hl ho hs;have hth:A.ah (φ i)=((W.th i).k,((W.th i).fs.length:Int),0):=(cR hfl.1).trans (R.th i hl);have hyA:∀ j:Int,0<=j->j<=(W.th i).fs.length->A.aA (φ i+j)=true:=λj h0 h1=>by
   have:=R.aA hl ho h0 h1;unfold Ar.aA at *;rw [C.sm.yng];exact this
  have hy0:A.aA (φ i)=true:=by have:=hyA 0 (by omega) (by omega);rwa [Int.add_zero] at this
  have hcond:(A.ah (φ i)).2.2=0/\A.whole (φ i) (A.ah (φ i)).2.1=true/\1+(A.ah (φ i)).2.1<=(A.ws.length:Int)-A.grn:=by
   rw [hth];refine ⟨rfl,?_,C.room R hr hl ho hs⟩;unfold Ar.whole;rw [hy0,hyA _ (by omega) (Int.le_refl _)];rfl
  obtain ⟨c1,c2,c3,c4⟩:=Ar.xt hA hcond;rw [hth] at c3 c4;dsimp only at c3 c4;have hB:(A.copy (φ i)).2.ok:=hA.copy _;obtain ⟨B,hBe⟩:∃ B,(A.copy (φ i)).2=B:=⟨_,rfl⟩;have e:bI A x=B.store (φ i) (-1-A.grn):=by
   unfold bI;rw [if_neg ha,e4,c1,hBe]
  rw [hBe] at c2 c3 c4 hB;have hsB:Sm A B:=by rw [<-hBe];exact Sm.copy hA _
  have hsm:Sm O.ar (bI A x):=C.sm.trans (Sm.iU hA x);have hp:=R.place hl;have y0:=bU.1 hy0;have a1:=hA.h1;have a2:=hA.h2;have useB:B.aM (φ i)=true:=by unfold Ar.aM;rw [Bool.or_eq_true,bU,hsB.yng];exact .inl y0
  have hload:=λq=>Ar.fh hB (φ i) q (-1-(A.grn:Int));have hlo:∀ q,q≠φ i->(B.store (φ i) (-1-(A.grn:Int))).load q=B.load q:=λq hq=>by rw [hload,if_neg (λh=>hq h.1)]
  have hlq:∀ q,A.aM q=true->q≠φ i->(B.store (φ i) (-1-(A.grn:Int))).load q=A.load q:=λq hq h=>(hlo q h).trans (c2 q hq);have hold:∀ q,A.aK q=true->(B.store (φ i) (-1-(A.grn:Int))).load q=A.load q:=λq hq=>by
   refine hlq q (by unfold Ar.aM;rw [hq];simp) ?_;have:=dq.1 hq;omega
  have hnew:∀ j:Int,0<=j->j<=(W.th i).fs.length->(B.store (φ i) (-1-(A.grn:Int))).load (A.grn+j)=O.ar.load (φ i+j):=λj h0 h1=>by
   rw [hlo _ (by omega),c3 j h0 h1,C.yet i hl ho hs j h0 h1]
  rw [e];rw [e] at hsm;have hni:¬ i ∈ N:=λh=>hs ((C.nm i).1 h).1;have fe:∀ k,k≠i->lK i A.grn ψ k=ψ k:=λk hk=>if_neg hk;have fi:lK i A.grn ψ i=A.grn:=if_pos rfl;have fS:∀ k,S k->lK i A.grn ψ k=ψ k:=λk hk=>fe k (λh=>hs (h ▸ hk));have hgr:((B.store (φ i) (-1-(A.grn:Int))).grn:Int)=A.grn+(1+(W.th i).fs.length):=by rw [Ar.dO];exact c4
  have hti:(B.store (φ i) (-1-(A.grn:Int))).ah A.grn=((W.th i).k,((W.th i).fs.length:Int),0):=by
   have:=hnew 0 (by omega) (by omega);rw [Int.add_zero,Int.add_zero] at this;exact (iI this).trans (R.th i hl)
  have hts:∀ k,S k->(B.store (φ i) (-1-(A.grn:Int))).ah (ψ k)=A.ah (ψ k):=λk hk=>by
   refine cR (hold _ ?_);have:=C.wC R hk (j:=0) (by omega) (by omega);rwa [Int.add_zero] at this
  have wr:∀ {y:Int} {u:Vl},lL φ ψ S y u->lL φ (lK i A.grn ψ) (λk=>S k\/k=i) y u:=λhw=>by
   rcases hw with h1 | ⟨h1,h2⟩
   ·exact .inl h1
   ·exact .inr ⟨λh=>.inl (h1 h),by rw [h2];exact (eC (λh=>fS _ (h1 h))).symm⟩
  refine ⟨λk=>S k\/k=i,lK i A.grn ψ,N ++ [i],⟨hsm,λk hk=>?_,λk hk h=>.inl (C.so k hk h),λk hk h=>?_,?_,λk=>?_,?_,λk hk=>?_,λk hk hko hks j h0 h1=>?_,λk hk=>?_,λk hk j u hu=>?_⟩,
   ⟨λk hk=>.inl hk,fS,⟨[i],rfl⟩,λk hk j u hu hup=>?_,by have:=hsB.grn;rw [Ar.dO];exact this⟩,λk hk=>?_,?_,λ_=>.inr hi,hold⟩
  ·rcases hk with hk | rfl
   ·exact C.sl k hk
   ·exact hl
  ·rw [fe k (λe=>by rw [e,ho] at h;cases h)];exact C.po k hk h
  ·rw [List.nodup_append];exact ⟨C.nd,by simp,λa ha b hb e=>hni (by rw [<-List.mem_singleton.1 hb,<-e];exact ha)⟩
  ·rw [List.mem_append,List.mem_singleton,C.nm];constructor
   ·rintro (⟨h1,h2⟩ | rfl)
    ·exact ⟨.inl h1,h2⟩
    ·exact ⟨.inr rfl,ho⟩
   ·rintro ⟨h1 | rfl,h2⟩
    ·exact .inl ⟨h1,h2⟩
    ·exact .inr rfl
  ·rw [List.map_append];have e1:N.map (lK i A.grn ψ)=N.map ψ:=Zf λk hk=>fS k ((C.nm k).1 hk).1;rw [e1];refine Tile.app (Tile.congr (λp hp'=>?_) C.iZ) ⟨by rw [fi],by rw [fi,hti],?_⟩
   ·obtain ⟨k,hk,rfl⟩:=Zi.1 hp';exact hts k ((C.nm k).1 hk).1
   ·rw [fi,hti]
    show (A.grn:Int)+1+(W.th i).fs.length=_
    rw [hgr];omega
  ·rcases hk with hk | rfl
   ·rw [fS k hk];exact (hts k hk).trans (C.th k hk)
   ·rw [fi];exact hti
  ·have hki:k≠i:=λe=>hks (.inr e);have hkS:¬ S k:=λh=>hks (.inl h);have hyk:=R.aA hk hko h0 h1;refine (hlq _ ?_ ?_).trans (C.yet k hk hko hkS j h0 h1)
   ·unfold Ar.aM Ar.aA at *;rw [C.sm.yng,hyk];rfl
   ·have:=R.apart hk hl hki;have:=R.apart hl hk (Ne.symm hki);omega
  ·rcases Zk.1 hk with hk | hk
   ·have hkS:=(C.nm k).1 hk;have hki:k≠i:=λe=>hs (e ▸ hkS.1);rw [fS k hkS.1];refine (hlq _ ?_ (λe=>hki (R.inj k i (C.sl k hkS.1) hl e))).trans (C.fwd k hk);unfold Ar.aM;rw [(C.jn R (C.sl k hkS.1)).2 hkS.2];rfl
   ·rw [List.mem_singleton.1 hk,fi,hload,if_pos ⟨rfl,useB⟩]
  ·rcases hk with hk | rfl
   ·have hj:j<(W.th k).fs.length:=(Zj.1 hu).1;rw [fS k hk,hold _ (by rw [Int.add_assoc];exact C.wC R hk (by omega) (by omega))];exact wr (C.fd k hk j u hu)
   ·have hj:j<(W.th k).fs.length:=(Zj.1 hu).1;rw [fi,Int.add_assoc,hnew (1+j) (by omega) (by omega),<-Int.add_assoc];exact .inl (R.fl k hl j u hu)
  ·have hj:j<(W.th k).fs.length:=(Zj.1 hu).1;refine ⟨λh=>.inl (hup.1 h),?_⟩;rw [fS k hk,hold _ (by rw [Int.add_assoc];exact C.wC R hk (by omega) (by omega)),hup.2];exact (eC (λh=>fS _ (hup.1 h))).symm
  ·rcases hk with hk | rfl
   ·exact .inl hk
   ·exact .inr ⟨h3,hi.symm⟩
  ·unfold cV;have hyB:(B.store (φ i) (-1-(A.grn:Int))).aA (φ i)=true:=by rw [bU,Ar.fH,hsB.yng];exact y0
   have hlp:(B.store (φ i) (-1-(A.grn:Int))).load (φ i)=-1-A.grn:=by rw [hload,if_pos ⟨rfl,useB⟩]
   rw [e4,hlp,if_pos ⟨by rw [hxe,bK φ h3];omega,hyB,by omega⟩,bK _ h3,hi,fi];have:=hB.h3;have:=hB.h4;unfold iq;rw [show 4*(-1-(-1-(A.grn:Int)))+1=4*(A.grn:Int)+1 by omega,IntKind.wrap_i64];omega
theorem Cu.put (R:aI O W φ) (C:Cu O W φ A S ψ N) {i:Int} (hi:S i) {j:Nat} {v:Vl} (hj:(W.th i).fs[j]? = some v) (hs:v.1=3->S v.2) :
  Cu O W φ (A.store (ψ i+1+j) (az ψ v)) S ψ N/\Ext W A S ψ N (A.store (ψ i+1+j) (az ψ v)) S ψ N/\Up W (A.store (ψ i+1+j) (az ψ v)) S ψ i j v:=by
 have hA:=C.sm.ok;have hjl:j<(W.th i).fs.length:=(Zj.1 hj).1;have hpi:=C.place R hi;have b1:=hA.h1;have b2:=hA.h2;have b3:=hA.h3;have b4:=hA.h4;have hok:=R.hw.tv i (C.sl i hi) v (Zh hj);have hR:bm (az ψ v):=by
  unfold bm;rcases hok with h | h | h | h
  ·have e:az ψ v=2:=by simp [az,h.1]
   rw [e];decide
  ·have e:az ψ v=4*v.2:=by simp [az,h.1]
   have:=h.2;unfold cG at this;rw [e];omega
  ·have e:az ψ v=3:=by simp [az,h.1]
   rw [e];decide
  ·rw [bK ψ h.1];have:=C.place R (hs h.1);omega
 have huse:A.aM (ψ i+1+j)=true:=by rw [Int.add_assoc];exact C.sJ R hi (by omega) (by omega)
 have hload:=λq=>Ar.fh hA (ψ i+1+(j:Int)) q (az ψ v);have hne:∀ q,q≠ψ i+1+j->(A.store (ψ i+1+j) (az ψ v)).load q=A.load q:=λq hq=>by rw [hload,if_neg (λh=>hq h.1)]
 have heq:(A.store (ψ i+1+j) (az ψ v)).load (ψ i+1+j)=az ψ v:=by rw [hload,if_pos ⟨rfl,huse⟩]
 have hth:∀ k,S k->(A.store (ψ i+1+j) (az ψ v)).ah (ψ k)=A.ah (ψ k):=λk hk=>by
  refine cR (hne _ ?_);by_cases e:k=i
  ·subst e;omega
  ·have:=C.apart R hk hi e;omega
 have hyo:∀ q,A.aA q=true->(A.store (ψ i+1+j) (az ψ v)).load q=A.load q:=λq hq=>by
  refine hne _ ?_;have:=bU.1 hq;omega
 have hfd:∀ k,S k->∀ (n:Nat) (u:Vl),(W.th k).fs[n]? = some u->(k=i/\n=j/\u=v)\/(A.store (ψ i+1+j) (az ψ v)).load (ψ k+1+n)=A.load (ψ k+1+n):=λk hk n u hu=>by
  have hn:n<(W.th k).fs.length:=(Zj.1 hu).1;by_cases e:k=i
  ·subst e;by_cases en:n=j
   ·subst en;rw [hj] at hu;cases hu;exact .inl ⟨rfl,rfl,rfl⟩
   ·exact .inr (hne _ (by omega))
  ·have:=C.apart R hk hi e;exact .inr (hne _ (by omega))
 have hup:Up W (A.store (ψ i+1+j) (az ψ v)) S ψ i j v:=⟨hs,heq⟩;refine ⟨⟨C.sm.trans (Sm.store hA _ hR),C.sl,C.so,C.po,C.nd,C.nm,?_,λk hk=>(hth k hk).trans (C.th k hk),λk hk hko hks n h0 h1=>?_,λk hk=>?_,λk hk n u hu=>?_⟩,⟨λ_ h=>h,λ_ _=>rfl,⟨[],by simp⟩,λk hk n u hu h=>?_,by rw [Ar.dO];exact Zb _⟩,hup⟩
 ·rw [Ar.dO];refine Tile.congr (λp hp=>?_) C.iZ;obtain ⟨k,hk,rfl⟩:=Zi.1 hp;exact hth k ((C.nm k).1 hk).1
 ·have hyk:=R.aA hk hko h0 h1;rw [hyo _ (by unfold Ar.aA at *;rw [C.sm.yng];exact hyk)];exact C.yet k hk hko hks n h0 h1
 ·have hkS:=(C.nm k).1 hk;rw [hyo _ ((C.jn R (C.sl k hkS.1)).2 hkS.2)];exact C.fwd k hk
 ·rcases hfd k hk n u hu with ⟨rfl,rfl,rfl⟩ | h
  ·exact .inr hup
  ·rw [h];exact C.fd k hk n u hu
 ·rcases hfd k hk n u hu with ⟨rfl,rfl,rfl⟩ | e
  ·exact hup
  ·exact ⟨h.1,e.trans h.2⟩
theorem Cu.field (R:aI O W φ) (C:Cu O W φ A S ψ N) (hr:(O.ar.yng:Int)<=(O.ar.ws.length:Int)-O.ar.grn) {i:Int} (hi:S i) {j:Nat} {v:Vl} (hj:(W.th i).fs[j]? = some v) :
  xu O W φ A S ψ N (fJ A (ψ i+1+j)) (λk=>v.1=3/\k=v.2) λS' ψ' N'=>Up W (fJ A (ψ i+1+j)) S' ψ' i j v:=by
 have hok:=R.hw.tv i (C.sl i hi) v (Zh hj);obtain ⟨S1,ψ1,N1,C1,E1,h1,h2,h3,h4⟩:=C.iU R hr hok (C.fd i hi j v hj);have e:fJ A (ψ i+1+j)=(bI A (A.load (ψ i+1+j))).store (ψ1 i+1+j) (az ψ1 v):=by
  unfold fJ;rw [h2,E1.at_ i hi]
 rw [e];obtain ⟨C2,E2,hup⟩:=C1.put R (E1.sub i hi) hj h3;exact ⟨S1,ψ1,N1,C2,E1.trans E2,h1,hup⟩
end
end
section
section
variable {O:Wo} {W:Wd} {φ ψ ψ':Int->Int} {A A':Ar} {S S' Al:Int->Prop} {N N':List Int} {qw:List (Int × Int)}
theorem Cu.fields (R:aI O W φ) (hr:(O.ar.yng:Int)<=(O.ar.ws.length:Int)-O.ar.grn) {i:Int}:∀ (n:Nat) {A:Ar} {S:Int->Prop} {ψ:Int->Int} {N:List Int} (j:Nat),Cu O W φ A S ψ N->S i->j+n<=(W.th i).fs.length ->
  xu O W φ A S ψ N (mFields n A (ψ i+1+j)) (λk=>∃ v ∈ (W.th i).fs,v.1=3/\k=v.2) λS' ψ' N'=>∀ (m:Nat) (v:Vl),j<=m->m<j+n->(W.th i).fs[m]? = some v->Up W (mFields n A (ψ i+1+j)) S' ψ' i m v
 | 0,A,S,ψ,N,j,C,hi,hn=>⟨S,ψ,N,C,Ext.refl,λk h=>.inl h,λm v h1 h2=>by omega⟩
 | n+1,A,S,ψ,N,j,C,hi,hn=>by
  have hj:(W.th i).fs[j]? = some (W.th i).fs[j]:=Le (by omega);obtain ⟨S1,ψ1,N1,C1,E1,h1,u1⟩:=C.field R hr hi hj;obtain ⟨S2,ψ2,N2,C2,E2,h2,u2⟩:=Cu.fields R hr n (j+1) C1 (E1.sub i hi) (by omega);have e:mFields (n+1) A (ψ i+1+j)=mFields n (fJ A (ψ i+1+j)) (ψ1 i+1+((j+1:Nat):Int)):=by
   rw [E1.at_ i hi]
   show mFields n (fJ A (ψ i+1+j)) (ψ i+1+j+1)=_
   congr 1;omega
  rw [e];refine ⟨S2,ψ2,N2,C2,E1.trans E2,λk hk=>?_,λm v h3 h4 hv=>?_⟩
  ·rcases h2 k hk with h | h
   ·rcases h1 k h with h | ⟨h,h'⟩
    ·exact .inl h
    ·exact .inr ⟨_,Ze (by omega),h,h'⟩
   ·exact .inr h
  ·by_cases em:m=j
   ·subst em;rw [hj] at hv;cases hv;exact E2.up i (E1.sub i hi) _ _ hj u1
   ·exact u2 m v (by omega) (by omega) hv
structure Sc (O:Wo) (W:Wd) (φ:Int->Int) (Al:Int->Prop) (s:Ms) (S:Int->Prop) (ψ:Int->Int) (N:List Int):Prop where
 C:Cu O W φ s.A S ψ N
 al:∀ k,S k->Al k
 wk:∀ p ∈ s.wk, ∃ i,S i/\(W.th i).k=3/\p=ψ i
 ep:∀ p ∈ s.ep, ∃ i,S i/\(W.th i).k=4/\p=ψ i
structure SE (W:Wd) (s:Ms) (S:Int->Prop) (ψ:Int->Int) (N:List Int) (s':Ms) (S':Int->Prop) (ψ':Int->Int) (N':List Int):Prop where
 E:Ext W s.A S ψ N s'.A S' ψ' N'
 wk:∀ p ∈ s.wk,p ∈ s'.wk
 ep:∀ p ∈ s.ep,p ∈ s'.ep
variable {s s':Ms}
theorem SE.refl:SE W s S ψ N s S ψ N:=⟨Ext.refl,λ_ h=>h,λ_ h=>h⟩
theorem SE.trans {s2:Ms} {S2:Int->Prop} {ψ2:Int->Int} {N2:List Int} (h:SE W s S ψ N s' S' ψ' N') (k:SE W s' S' ψ' N' s2 S2 ψ2 N2):SE W s S ψ N s2 S2 ψ2 N2:=
 ⟨h.E.trans k.E,λp hp=>k.wk p (h.wk p hp),λp hp=>k.ep p (h.ep p hp)⟩
def iw (W:Wd) (s:Ms) (S:Int->Prop) (ψ:Int->Int) (i:Int):Prop:=
 (((W.th i).k=1\/(W.th i).k=2)->∀ (j:Nat) (v:Vl),(W.th i).fs[j]? = some v->Up W s.A S ψ i j v) /\
 ((W.th i).k=3->ψ i ∈ s.wk/\∀ v,(W.th i).fs[1]? = some v->Up W s.A S ψ i 1 v)/\((W.th i).k=4->ψ i ∈ s.ep)
def Clean (W:Wd) (i:Int):Prop:=(W.th i).aK=true/\∀ v ∈ (W.th i).fs,v.1=3->(W.th v.2).aK=true
theorem iw.mono (h:SE W s S ψ N s' S' ψ' N') {i:Int} (hi:S i) (hl:iw W s S ψ i):iw W s' S' ψ' i:=
 ⟨λhk j v hv=>h.E.up i hi j v hv (hl.1 hk j v hv),λhk=>⟨by rw [h.E.at_ i hi];exact h.wk _ (hl.2.1 hk).1,λv hv=>h.E.up i hi 1 v hv ((hl.2.1 hk).2 v hv)⟩,λhk=>by rw [h.E.at_ i hi];exact h.ep _ (hl.2.2 hk)⟩
theorem Sc.lists (H:Sc O W φ Al s S ψ N) {A':Ar} (E:Ext W s.A S ψ N A' S' ψ' N'):(∀ p ∈ s.wk, ∃ i,S' i/\(W.th i).k=3/\p=ψ' i)/\∀ p ∈ s.ep, ∃ i,S' i/\(W.th i).k=4/\p=ψ' i:=by
 constructor
 ·intro p hp;obtain ⟨i,h1,h2,h3⟩:=H.wk p hp;exact ⟨i,E.sub i h1,h2,by rw [E.at_ i h1];exact h3⟩
 ·intro p hp;obtain ⟨i,h1,h2,h3⟩:=H.ep p hp;exact ⟨i,E.sub i h1,h2,by rw [E.at_ i h1];exact h3⟩
theorem zA {k f:Int} (h:bj k f=true) (hk:k=3\/k=4\/k=1):f=2:=by
 unfold bj at h;rcases hk with rfl | rfl | rfl <;> simp at h <;> exact h
theorem Wd.two {W:Wd} (h:W.ok) {i:Int} (hl:W.live i) (hk:(W.th i).k=3\/(W.th i).k=4\/(W.th i).k=1):(W.th i).fs.length=2:=by
 have:=zA (h.tk i hl) hk;omega
theorem Sc.look (R:aI O W φ) (hr:(O.ar.yng:Int)<=(O.ar.ws.length:Int)-O.ar.grn) (hal:cv W.nd qw Al) (H:Sc O W φ Al s S ψ N) {i:Int} (hi:S i) :
  ∃ S' ψ' N',Sc O W φ Al (eD s (ψ i)) S' ψ' N'/\SE W s S ψ N (eD s (ψ i)) S' ψ' N'/\iw W (eD s (ψ i)) S' ψ' i:=by
 have hth:=H.C.th i hi;have hl:=H.C.sl i hi;unfold eD;rw [hth];dsimp only;by_cases k12:(W.th i).k=1\/(W.th i).k=2
 ·rw [if_pos k12];obtain ⟨S1,ψ1,N1,C1,E1,h1,u1⟩:=Cu.fields R hr (W.th i).fs.length 0 H.C hi (by omega);rw [show ψ i+1+((0:Nat):Int)=ψ i+1 by omega] at C1 E1 u1;rw [Zt];have hL:=H.lists E1;refine ⟨S1,ψ1,N1,⟨C1,λk hk=>?_,hL.1,hL.2⟩,⟨E1,λ_ h=>h,λ_ h=>h⟩,λ_ j v hv=>u1 j v (by omega) (by have:=(Zj.1 hv).1;omega) hv,λh=>by omega,λh=>by omega⟩;rcases h1 k hk with h | ⟨v,hv,h3,rfl⟩
  ·exact H.al k h
  ·exact hal i _ (H.al i hi) (.inl ⟨k12,by show ((3,v.2):Vl) ∈ (W.th i).fs;rw [<-h3];exact hv⟩)
 ·rw [if_neg k12];by_cases k3:(W.th i).k=3
  ·rw [if_pos k3];have h2:=Wd.two R.hw hl (.inl k3);have hj:(W.th i).fs[1]? = some (W.th i).fs[1]:=Le (by omega);obtain ⟨S1,ψ1,N1,C1,E1,h1,u1⟩:=H.C.field R hr hi hj;rw [show ψ i+1+((1:Nat):Int)=ψ i+2 by omega] at C1 E1 u1;have hL:=H.lists E1;refine ⟨S1,ψ1,N1,⟨C1,λk hk=>?_,λp hp=>?_,hL.2⟩,⟨E1,λp hp=>by simp [hp],λ_ h=>h⟩,λh=>(k12 h).elim,λ_=>⟨by rw [E1.at_ i hi];simp,λv hv=>?_⟩,λh=>by omega⟩
   ·rcases h1 k hk with h | ⟨h3,rfl⟩
    ·exact H.al k h
    ·refine hal i _ (H.al i hi) (.inr (.inl ⟨k3,?_⟩))
     show (W.th i).fs[1]? = _
     rw [hj];congr 1;exact Prod.ext h3 rfl
   ·rcases Zk.1 hp with h | h
    ·exact hL.1 p h
    ·rw [List.mem_singleton.1 h];exact ⟨i,E1.sub i hi,k3,(E1.at_ i hi).symm⟩
   ·rw [hj] at hv;cases hv;exact u1
  ·rw [if_neg k3];by_cases k4:(W.th i).k=4
   ·rw [if_pos k4];refine ⟨S,ψ,N,⟨H.C,H.al,H.wk,λp hp=>?_⟩,⟨Ext.refl,λ_ h=>h,λp hp=>by simp [hp]⟩,λh=>(k12 h).elim,λh=>(k3 h).elim,λ_=>by simp⟩;rcases Zk.1 hp with h | h
    ·exact H.ep p h
    ·rw [List.mem_singleton.1 h];exact ⟨i,hi,k4,rfl⟩
   ·rw [if_neg k4];exact ⟨S,ψ,N,H,SE.refl,λh=>(k12 h).elim,λh=>(k3 h).elim,λh=>(k4 h).elim⟩
theorem Tile.split {A:Ar} {m:List Int}:∀ {l:List Int} {a b:Int},Tile A (l ++ m) a b->∃ c,Tile A l a c/\Tile A m c b
 | [],a,b,h=>⟨a,rfl,h⟩
 | p :: l,a,b,h=>by
  obtain ⟨c,h1,h2⟩:=Tile.split h.2.2;exact ⟨c,⟨h.1,h.2.1,h1⟩,h2⟩
theorem Tile.end_ {A:Ar}:∀ {l:List Int} {a b c:Int},Tile A l a b->Tile A l a c->b=c
 | [],a,b,c,h,k=>by have h1:a=b:=h;have h2:a=c:=k;omega
 | p :: l,a,b,c,h,k=>Tile.end_ h.2.2 k.2.2
structure Sn (O:Wo) (W:Wd) (s:Ms) (S:Int->Prop) (ψ:Int->Int) (N:List Int) (c:Int):Prop where
 sp:∃ N1 N2,N=N1 ++ N2/\Tile s.A (N1.map ψ) O.ar.grn c/\∀ i ∈ N1,iw W s S ψ i
 aK:∀ i,W.live i->(W.th i).aK=true->iw W s S ψ i\/Clean W i
theorem Sn.more (C:Cu O W φ s.A S ψ N) (C':Cu O W φ s'.A S' ψ' N') (E:SE W s S ψ N s' S' ψ' N') {c:Int} (h:Sn O W s S ψ N c):Sn O W s' S' ψ' N' c:=by
 obtain ⟨N1,N2,e,ht,hl⟩:=h.sp;obtain ⟨m,em⟩:=E.E.pre;have bY:∀ i ∈ N1,S i:=λi hi=>((C.nm i).1 (by rw [e];simp [hi])).1;refine ⟨⟨N1,N2 ++ m,by rw [em,e];simp,?_,λi hi=>(hl i hi).mono E (bY i hi)⟩,λi hi ho=>?_⟩
 ·have e1:N1.map ψ'=N1.map ψ:=Zf λi hi=>E.E.at_ i (bY i hi);rw [e1];refine Tile.congr (λp hp=>?_) ht;obtain ⟨i,hi,rfl⟩:=Zi.1 hp;rw [C.th i (bY i hi),<-E.E.at_ i (bY i hi),C'.th i (E.E.sub i (bY i hi))]
 ·rcases h.aK i hi ho with h1 | h1
  ·exact .inl (h1.mono E (C.so i hi ho))
  ·exact .inr h1
theorem Sn.all (R:aI O W φ) (C:Cu O W φ s.A S ψ N) {c:Int} (h:Sn O W s S ψ N c) (hc:c=s.A.grn):∀ i ∈ N,iw W s S ψ i:=by
 obtain ⟨N1,N2,e,ht,hl⟩:=h.sp;have hw:=C.iZ;rw [e,List.map_append] at hw;obtain ⟨m,h1,h2⟩:=hw.split;have:=h1.end_ ht;subst this;cases N2 with
 | nil=>rw [e];simpa using hl
 | cons i N2=>
  have h3:=Tile.le h2.2.2;have h4:=s.A.aQ (ψ i);have h5:ψ i=m:=h2.1;omega
theorem Sc.scan (R:aI O W φ) (hr:(O.ar.yng:Int)<=(O.ar.ws.length:Int)-O.ar.grn) (hal:cv W.nd qw Al):∀ (n:Nat) {s:Ms} {S:Int->Prop} {ψ:Int->Int} {N:List Int} (c:Int),
  Sc O W φ Al s S ψ N->Sn O W s S ψ N c->c<=s.A.grn->((O.ar.ws.length:Int)-c).toNat<n ->
  ∃ S' ψ' N',Sc O W φ Al (mScan n s c).1 S' ψ' N'/\SE W s S ψ N (mScan n s c).1 S' ψ' N'/\Sn O W (mScan n s c).1 S' ψ' N' (mScan n s c).2/\(mScan n s c).2=(mScan n s c).1.A.grn
 | 0,s,S,ψ,N,c,H,hs,hc,hn=>by omega
 | n+1,s,S,ψ,N,c,H,hs,hc,hn=>by
  unfold mScan;by_cases hlt:c<s.A.grn
  ·rw [if_pos hlt];obtain ⟨N1,N2,e,ht,hl⟩:=hs.sp;have hw:=H.C.iZ;rw [e,List.map_append] at hw;obtain ⟨m,h1,h2⟩:=hw.split;have hm:=h1.end_ ht;subst hm;cases N2 with
   | nil=>have h2':m=(s.A.grn:Int):=h2;omega
   | cons i N2=>
    have hic:ψ i=m:=h2.1;have hi:S i:=((H.C.nm i).1 (by rw [e];simp)).1;subst hic;have hth:=H.C.th i hi;obtain ⟨S1,ψ1,M1,H1,E1,hL⟩:=H.look R hr hal hi;have hsn:=hs.more H.C H1.C E1;have bY:∀ k ∈ N1,S k:=λk hk=>((H.C.nm k).1 (by rw [e];simp [hk])).1;have hth1:=H1.C.th i (E1.E.sub i hi);rw [E1.E.at_ i hi] at hth1;obtain ⟨mm,em⟩:=E1.E.pre;have hsn':Sn O W (eD s (ψ i)) S1 ψ1 M1 (ψ i+(1+(s.A.ah (ψ i)).2.1)):=by
     refine ⟨⟨N1 ++ [i],N2 ++ mm,by rw [em,e];simp,?_,λk hk=>?_⟩,hsn.aK⟩
     ·have e1:N1.map ψ1=N1.map ψ:=Zf λk hk=>E1.E.at_ k (bY k hk);rw [List.map_append,e1];refine Tile.app (Tile.congr (λp hp=>?_) ht) ⟨E1.E.at_ i hi,by rw [E1.E.at_ i hi,hth1],?_⟩
      ·obtain ⟨k,hk,rfl⟩:=Zi.1 hp;rw [H.C.th k (bY k hk),<-E1.E.at_ k (bY k hk),H1.C.th k (E1.E.sub k (bY k hk))]
      ·rw [E1.E.at_ i hi,hth1,hth]
       show ψ i+1+((W.th i).fs.length:Int)=ψ i+(1+(W.th i).fs.length)
       omega
     ·rcases Zk.1 hk with h | h
      ·exact (hl k h).mono E1 (bY k h)
      ·rw [List.mem_singleton.1 h];exact hL
    have hp:=H1.C.place R (E1.E.sub i hi);rw [E1.E.at_ i hi] at hp;have hth':=hth;rw [hth] at hsn' ⊢;dsimp only at hsn' ⊢;obtain ⟨S2,ψ2,M2,H2,E2,hn2,hc2⟩:=Sc.scan R hr hal n _ H1 hsn' (by omega) (by have:=H.C.sm.ok.h3;have:=H.C.sm.len;omega);exact ⟨S2,ψ2,M2,H2,E1.trans E2,hn2,hc2⟩
  ·rw [if_neg hlt];exact ⟨S,ψ,N,H,SE.refl,hs,by show c=(s.A.grn:Int);omega⟩
theorem Sc.Aw (H:Sc O W φ Al s S ψ N) {A':Ar} (C:Cu O W φ A' S' ψ' N') (E:Ext W s.A S ψ N A' S' ψ' N') (hal:∀ k,S' k->Al k):Sc O W φ Al { s with A:=A' } S' ψ' N'/\SE W s S ψ N { s with A:=A' } S' ψ' N':=
 ⟨⟨C,hal,(H.lists E).1,(H.lists E).2⟩,⟨E,λ_ h=>h,λ_ h=>h⟩⟩
theorem Cu.q7 (R:aI O W φ) (hr:(O.ar.yng:Int)<=(O.ar.ws.length:Int)-O.ar.grn) (hal:cv W.nd qw Al):∀ (l:List Int) {A:Ar} {S:Int->Prop} {ψ:Int->Int} {N:List Int},
  Cu O W φ A S ψ N->(∀ k,S k->Al k)->(∀ p ∈ l, ∃ i,S i/\(W.th i).k=4/\p=ψ i) ->
  ∃ S' ψ' N',Cu O W φ (gE A l) S' ψ' N'/\Ext W A S ψ N (gE A l) S' ψ' N'/\(∀ k,S' k->Al k) /\
   ∀ i,S i->(W.th i).k=4->ψ i ∈ l->(∀ v,(W.th i).fs[0]? = some v->v.1=3->S v.2)->∀ v,(W.th i).fs[1]? = some v->v.1=3->S' v.2
 | [],A,S,ψ,N,C,ha,hl=>⟨S,ψ,N,C,Ext.refl,ha,λi _ _ h=>by cases h⟩
 | p :: l,A,S,ψ,N,C,ha,hl=>by
  obtain ⟨i,hi,k4,rfl⟩:=hl p (by simp);have hli:=C.sl i hi;have h2:=Wd.two R.hw hli (.inr (.inl k4));have hj0:(W.th i).fs[0]? = some (W.th i).fs[0]:=Le (by omega);have hj1:(W.th i).fs[1]? = some (W.th i).fs[1]:=Le (by omega);have hok:=R.hw.tv i hli _ (Zh hj0);have hfd:=C.fd i hi 0 _ hj0;rw [show ψ i+1+((0:Nat):Int)=ψ i+1 by omega] at hfd;have halive:=C.alive R hok hfd;have step:∃ S1 ψ1 N1,Cu O W φ (j2 A (ψ i)) S1 ψ1 N1/\Ext W A S ψ N (j2 A (ψ i)) S1 ψ1 N1/\(∀ k,S1 k->Al k)/\((∀ v,(W.th i).fs[0]? = some v->v.1=3->S v.2)->∀ v,(W.th i).fs[1]? = some v->v.1=3->S1 v.2):=by
   unfold j2;by_cases hm:aX A (A.load (ψ i+1))=true
   ·rw [if_pos hm];have hkey:=halive.1 hm;obtain ⟨S1,ψ1,N1,C1,E1,h1,u1⟩:=C.field R hr hi hj0;rw [show ψ i+1+((0:Nat):Int)=ψ i+1 by omega] at C1 E1 u1;obtain ⟨S2,ψ2,N2,C2,E2,h3,u2⟩:=C1.field R hr (E1.sub i hi) hj1;rw [E1.at_ i hi,show ψ i+1+((1:Nat):Int)=ψ i+2 by omega] at C2 E2 u2;refine ⟨S2,ψ2,N2,C2,E1.trans E2,λk hk=>?_,λ_ v hv h=>by rw [hj1] at hv;cases hv;exact u2.1 h⟩;rcases h3 k hk with h | ⟨h4,rfl⟩
    ·rcases h1 k h with h | ⟨h4,rfl⟩
     ·exact ha k h
     ·exact ha _ (hkey h4)
    ·refine hal i _ (ha i hi) (.inr (.inr (.inl ⟨k4,?_,λv hv h5=>?_⟩)))
     ·show (W.th i).fs[1]? = _
      rw [hj1];congr 1;exact Prod.ext h4 rfl
     ·have hv':(W.th i).fs[0]? = some v:=hv;rw [hj0] at hv';cases hv';exact ha _ (hkey h5)
   ·rw [if_neg hm];exact ⟨S,ψ,N,C,Ext.refl,ha,λh=>(hm (halive.2 (λh3=>h _ hj0 h3))).elim⟩
  obtain ⟨S1,ψ1,N1,C1,E1,ha1,hk1⟩:=step;obtain ⟨S2,ψ2,N2,C2,E2,ha2,hk2⟩:=Cu.q7 R hr hal l C1 ha1 (λp hp=>by
   obtain ⟨k,h3,h4,h5⟩:=hl p (by simp [hp])
   exact ⟨k,E1.sub k h3,h4,by rw [E1.at_ k h3];exact h5⟩)
  have e:gE A (ψ i :: l)=gE (j2 A (ψ i)) l:=rfl;rw [e];refine ⟨S2,ψ2,N2,C2,E1.trans E2,ha2,λk hk k4' hkl hkey v hv h3=>?_⟩;rcases Zm.1 hkl with h | h
  ·have hki:=C.inj R hk hi h;subst hki;exact E2.sub _ (hk1 hkey v hv h3)
  ·exact hk2 k (E1.sub k hk) k4' (by rw [E1.at_ k hk];exact h) (λv hv h3=>E1.sub _ (hkey v hv h3)) v hv h3
def gm (φ ψ:Int->Int) (S:Int->Prop):List (Int × Int)->List (Int × Int)->Prop
 | [],[]=>True
 | e :: l,f :: m=>(e.1=az φ (3,f.1)/\lL φ ψ S e.2 (3,f.2))/\gm φ ψ S l m
 | _,_=>False
theorem gm.mono (E:Ext W A S ψ N A' S' ψ' N'):∀ {l m:List (Int × Int)},gm φ ψ S l m->gm φ ψ' S' l m
 | [],[],_=>trivial
 | e :: l,f :: m,h=>⟨⟨h.1.1,E.CC h.1.2⟩,gm.mono E h.2⟩
theorem gm.app {e f:Int × Int} (he:e.1=az φ (3,f.1)/\lL φ ψ S e.2 (3,f.2)):∀ {l m:List (Int × Int)},gm φ ψ S l m->gm φ ψ S (l ++ [e]) (m ++ [f])
 | [],[],_=>⟨he,trivial⟩
 | _ :: l,_ :: m,h=>⟨h.1,gm.app he h.2⟩
theorem Cu.fy (R:aI O W φ) (hr:(O.ar.yng:Int)<=(O.ar.ws.length:Int)-O.ar.grn) (hal:cv W.nd qw Al) (hqw:∀ e ∈ qw,W.dL e):∀ (l m:List (Int × Int)) {A:Ar} {S:Int->Prop} {ψ:Int->Int} {N:List Int},
  Cu O W φ A S ψ N->(∀ k,S k->Al k)->gm φ ψ S l m->(∀ f ∈ m,f ∈ qw) ->
  ∃ S' ψ' N',Cu O W φ (wakeM aX jm A l).1 S' ψ' N'/\Ext W A S ψ N (wakeM aX jm A l).1 S' ψ' N'/\(∀ k,S' k->Al k)/\gm φ ψ' S' (wakeM aX jm A l).2.1 m/\∀ f ∈ m,S f.1->S' f.2
 | [],[],A,S,ψ,N,C,ha,hq,hm=>⟨S,ψ,N,C,Ext.refl,ha,trivial,λf h=>by cases h⟩
 | e :: l,f :: m,A,S,ψ,N,C,ha,hq,hm=>by
  have hf:=hqw f (hm f (by simp));have okg:W.cI (3,f.1):=.inr (.inr (.inr ⟨rfl,hf.1⟩));have okt:W.cI (3,f.2):=.inr (.inr (.inr ⟨rfl,hf.2.2⟩));have ag:=C.alive R okg (x:=e.1) (.inl hq.1.1);have at_:=C.alive R okt hq.1.2;simp only [forall_const] at ag at_;unfold wakeM;by_cases hc:(aX A e.1 && !aX A e.2)=true
  ·rw [if_pos hc];rw [Zr] at hc;have hg:=ag.1 hc.1;obtain ⟨S1,ψ1,N1,C1,E1,h1,h2,h3,_⟩:=C.iU R hr okt hq.1.2;have ha1:∀ k,S1 k->Al k:=λk hk=>by
    rcases h1 k hk with h | ⟨_,rfl⟩
    ·exact ha k h
    ·exact hal f.1 _ (ha _ hg) (.inr (.inr (.inr ⟨hf.2.1,by show (f.1,f.2) ∈ qw;exact hm f (by simp)⟩)))
   obtain ⟨S2,ψ2,N2,C2,E2,ha2,hq2,hk2⟩:=Cu.fy R hr hal hqw l m C1 ha1 (hq.2.mono E1) (λf hf=>hm f (by simp [hf]));have hw:lL φ ψ1 S1 (jm A e.2).2 (3,f.2):=.inr ⟨h3,h2⟩;refine ⟨S2,ψ2,N2,C2,E1.trans E2,ha2,⟨⟨hq.1.1,E2.CC hw⟩,hq2⟩,λf' hf' hs=>?_⟩;rcases Zm.1 hf' with rfl | h
   ·exact E2.sub _ (h3 rfl)
   ·exact hk2 f' h (E1.sub _ hs)
  ·rw [if_neg hc];obtain ⟨S2,ψ2,N2,C2,E2,ha2,hq2,hk2⟩:=Cu.fy R hr hal hqw l m C ha hq.2 (λf hf=>hm f (by simp [hf]));refine ⟨S2,ψ2,N2,C2,E2,ha2,⟨⟨hq.1.1,E2.CC hq.1.2⟩,hq2⟩,λf' hf' hs=>?_⟩;rcases Zm.1 hf' with rfl | h
   ·have h1:=ag.2 hs;rw [h1] at hc;simp at hc;exact E2.sub _ (at_.1 hc)
   ·exact hk2 f' h hs
end
end
section
section
variable {O:Wo} {W:Wd} {φ ψ ψ':Int->Int} {A A':Ar} {S S' Al:Int->Prop} {N N':List Int} {qw:List (Int × Int)}
theorem Ext.same (R:aI O W φ) (C:Cu O W φ A S ψ N) (C':Cu O W φ A' S' ψ' N') (E:Ext W A S ψ N A' S' ψ' N') (h:A'.grn=A.grn):∀ k,S' k->S k:=by
 obtain ⟨m,em⟩:=E.pre;have hm:m=[]:=by
  have ht':=C'.iZ;rw [em,List.map_append] at ht';obtain ⟨c,h1,h2⟩:=ht'.split;have e1:N.map ψ'=N.map ψ:=Zf λi hi=>E.at_ i ((C.nm i).1 hi).1;have h3:Tile A' (N.map ψ') O.ar.grn A.grn:=by
   rw [e1];refine Tile.congr (λp hp=>?_) C.iZ;obtain ⟨i,hi,rfl⟩:=Zi.1 hp;have hS:=((C.nm i).1 hi).1;rw [C.th i hS,<-E.at_ i hS,C'.th i (E.sub i hS)]
  have:=h1.end_ h3;subst this;cases m with
  | nil=>rfl
  | cons p m=>
   have h5:ψ' p=(A.grn:Int):=h2.1;have h6:=Tile.le h2.2.2;have h7:=A'.aQ (ψ' p);rw [h] at h6;omega
 intro k hk;cases ho:(W.th k).aK
 ·have:=(C'.nm k).2 ⟨hk,ho⟩;rw [em,hm,List.append_nil] at this;exact ((C.nm k).1 this).1
 ·exact C.so k (C'.sl k hk) ho
theorem Sc.round (R:aI O W φ) (hr:(O.ar.yng:Int)<=(O.ar.ws.length:Int)-O.ar.grn) (hal:cv W.nd qw Al) (hqw:∀ e ∈ qw,W.dL e) {d:Md} (H:Sc O W φ Al d.s S ψ N) (hs:Sn O W d.s S ψ N d.c) (hc:d.c<=d.s.A.grn) (hq:gm φ ψ S d.q qw) :
  ∃ S' ψ' N',Sc O W φ Al (bJ d).s S' ψ' N'/\SE W d.s S ψ N (bJ d).s S' ψ' N'/\Sn O W (bJ d).s S' ψ' N' (bJ d).c/\(bJ d).c<=(bJ d).s.A.grn/\(d.s.A.grn:Int)<=(bJ d).c/\gm φ ψ' S' (bJ d).q qw /\
   (¬ (bJ d).c<(bJ d).s.A.grn->cv W.nd qw S'):=by
 have hlen:=H.C.sm.len;have h3':=H.C.sm.ok.h3;have h4':=H.C.sm.ok.h4;have hc0:(0:Int)<=d.c:=by
  obtain ⟨N1,N2,e,ht,hl⟩:=hs.sp;have:=ht.le;omega
 obtain ⟨S1,ψ1,N1,H1,E1,n1,c1⟩:=H.scan R hr hal 2000 d.c hs hc (by omega);obtain ⟨S2,ψ2,N2,C2,X2,a2,k2⟩:=Cu.q7 R hr hal (mScan 2000 d.s d.c).1.ep H1.C H1.al H1.ep;obtain ⟨S3,ψ3,N3,C3,X3,a3,q3,k3⟩:=Cu.fy R hr hal hqw d.q qw C2 a2 ((hq.mono E1.E).mono X2) (λf hf=>hf);obtain ⟨H3,E3⟩:=H1.Aw C3 (X2.trans X3) a3;have e1:(bJ d).s={ (mScan 2000 d.s d.c).1 with A:=(wakeM aX jm (gE (mScan 2000 d.s d.c).1.A (mScan 2000 d.s d.c).1.ep) d.q).1 }:=rfl;have e2:(bJ d).c=(mScan 2000 d.s d.c).2:=rfl;have e3:(bJ d).q=(wakeM aX jm (gE (mScan 2000 d.s d.c).1.A (mScan 2000 d.s d.c).1.ep) d.q).2.1:=rfl;have g3:=(X2.trans X3).grn;have n3:=n1.more H1.C H3.C E3;rw [e1,e2,e3];refine ⟨S3,ψ3,N3,H3,E1.trans E3,n3,by rw [c1];exact Int.ofNat_le.2 g3,by rw [c1];exact Int.ofNat_le.2 E1.E.grn,q3,λhno=>?_⟩;have hg:(wakeM aX jm (gE (mScan 2000 d.s d.c).1.A (mScan 2000 d.s d.c).1.ep) d.q).1.grn=(mScan 2000 d.s d.c).1.A.grn:=by
  rw [c1] at hno;have:¬ ((mScan 2000 d.s d.c).1.A.grn:Int)<((wakeM aX jm (gE (mScan 2000 d.s d.c).1.A (mScan 2000 d.s d.c).1.ep) d.q).1.grn:Int):=hno;omega
 have back1:=(X2.trans X3).same R H1.C C3 hg;have back2:∀ k,S3 k->S2 k:=λk hk=>X2.sub k (back1 k hk);have all:=n3.all R C3 (by show (mScan 2000 d.s d.c).2=_;rw [c1];exact (congrArg Int.ofNat hg).symm);have seen:∀ i,S3 i->iw W { (mScan 2000 d.s d.c).1 with A:=(wakeM aX jm (gE (mScan 2000 d.s d.c).1.A (mScan 2000 d.s d.c).1.ep) d.q).1 } S3 ψ3 i\/Clean W i:=λi hi=>by
  cases ho:(W.th i).aK
  ·exact .inl (all i ((C3.nm i).2 ⟨hi,ho⟩))
  ·exact n3.aK i (C3.sl i hi) ho
 intro i j hi hl;have hli:=C3.sl i hi;have inF:∀ {n:Nat},(W.th i).fs[n]? = some (3,j)->Clean W i->S3 j:=λhv hcl=>
  C3.so j (Wd.aY (R.hw.tv i hli _ (Zh hv)) rfl) (hcl.2 _ (Zh hv) rfl)
 rcases hl with ⟨hk,hm⟩ | ⟨hk,hm⟩ | ⟨hk,hm,hkey⟩ | ⟨hk,hm⟩
 ·obtain ⟨n,hn,he⟩:=List.mem_iff_getElem.1 (show ((3,j):Vl) ∈ (W.th i).fs from hm);have hv:(W.th i).fs[n]? = some (3,j):=by rw [Le hn,he]
  rcases seen i hi with h | h
  ·exact (h.1 hk n _ hv).1 rfl
  ·exact inF hv h
 ·rcases seen i hi with h | h
  ·exact ((h.2.1 hk).2 _ hm).1 rfl
  ·exact inF hm h
 ·rcases seen i hi with h | h
  ·have hep:=h.2.2 hk;have hi1:=back1 i hi;have h2:ψ1 i ∈ (mScan 2000 d.s d.c).1.ep:=by
    rw [<-(X2.trans X3).at_ i hi1];exact hep
   exact X3.sub _ (k2 i hi1 hk h2 (λv hv h3=>back1 _ (hkey v hv h3)) _ hm rfl)
  ·exact inF hm h
 ·exact k3 (i,j) hm (back2 i hi)
theorem Sc.drain (R:aI O W φ) (hr:(O.ar.yng:Int)<=(O.ar.ws.length:Int)-O.ar.grn) (hal:cv W.nd qw Al) (hqw:∀ e ∈ qw,W.dL e):∀ (n:Nat) {d:Md} {S:Int->Prop} {ψ:Int->Int} {N:List Int},
  Sc O W φ Al d.s S ψ N->Sn O W d.s S ψ N d.c->d.c<=d.s.A.grn->gm φ ψ S d.q qw->((O.ar.ws.length:Int)-d.s.A.grn).toNat<n ->
  ∃ S' ψ' N',Sc O W φ Al (mDrain n d).s S' ψ' N'/\SE W d.s S ψ N (mDrain n d).s S' ψ' N'/\Sn O W (mDrain n d).s S' ψ' N' (mDrain n d).c/\(mDrain n d).c=(mDrain n d).s.A.grn/\gm φ ψ' S' (mDrain n d).q qw/\cv W.nd qw S'
 | 0,d,S,ψ,N,H,hs,hc,hq,hn=>by omega
 | n+1,d,S,ψ,N,H,hs,hc,hq,hn=>by
  obtain ⟨S1,ψ1,N1,H1,E1,n1,l1,g1,q1,k1⟩:=H.round R hr hal hqw hs hc hq;unfold mDrain;by_cases hlt:(bJ d).c<(bJ d).s.A.grn
  ·rw [if_pos hlt];have h3:=H1.C.sm.ok.h3;have h4:=H1.C.sm.len;obtain ⟨S2,ψ2,N2,H2,E2,n2,c2,q2,k2⟩:=Sc.drain R hr hal hqw n H1 n1 l1 q1 (by omega);exact ⟨S2,ψ2,N2,H2,E1.trans E2,n2,c2,q2,k2⟩
  ·rw [if_neg hlt];exact ⟨S1,ψ1,N1,H1,E1,n1,by omega,q1,k1 hlt⟩
end
end
section
section
variable {O:Wo} {W:Wd} {φ ψ ψ':Int->Int} {A A':Ar} {S S' Al:Int->Prop} {N N':List Int} {qw:List (Int × Int)}
theorem Cu.start (R:aI O W φ):Cu O W φ O.ar (λi=>W.live i/\(W.th i).aK=true) φ []:=by
 refine ⟨Sm.refl R.ho.ha,λi h=>h.1,λi h1 h2=>⟨h1,h2⟩,λ_ _ _=>rfl,List.nodup_nil,λi=>?_,rfl,λi h=>R.th i h.1,λ_ _ _ _ _ _ _=>rfl,(by intro i hi;cases hi),λi h j v hv=>.inl (R.fl i h.1 j v hv)⟩;constructor
 ·intro h;cases h
 ·rintro ⟨h1,h2⟩;rw [h1.2] at h2;cases h2
theorem Cu.roots (R:aI O W φ) (hr:(O.ar.yng:Int)<=(O.ar.ws.length:Int)-O.ar.grn):∀ (l:List Vl) {A:Ar} {S:Int->Prop} {ψ:Int->Int} {N:List Int},Cu O W φ A S ψ N->(∀ v ∈ l,W.cI v) ->
  xu O W φ A S ψ N (mRoots A (l.map (az φ))).1 (λk=>((3,k):Vl) ∈ l) λS' ψ' N'=>(∀ v ∈ l,v.1=3->S' v.2)/\(mRoots A (l.map (az φ))).2=l.map (az ψ')
 | [],A,S,ψ,N,C,_=>⟨S,ψ,N,C,Ext.refl,λk h=>.inl h,by simp,rfl⟩
 | v :: l,A,S,ψ,N,C,hl=>by
  obtain ⟨S1,ψ1,N1,C1,E1,h1,h2,h3,_⟩:=C.iU R hr (hl v (by simp)) (x:=az φ v) (.inl rfl);obtain ⟨S2,ψ2,N2,C2,E2,h4,h5,h6⟩:=Cu.roots R hr l C1 (λu hu=>hl u (by simp [hu]));simp only [Zs,mRoots];refine ⟨S2,ψ2,N2,C2,E1.trans E2,λk hk=>?_,λu hu h=>?_,?_⟩
  ·rcases h4 k hk with h | h
   ·rcases h1 k h with h' | ⟨h',rfl⟩
    ·exact .inl h'
    ·exact .inr (by rw [<-h'];simp)
   ·exact .inr (by simp [h])
  ·rcases Zm.1 hu with rfl | hu
   ·exact E2.sub _ (h3 h)
   ·exact h5 u hu h
  ·rw [h2,h6];congr 1;exact (eC (λh=>E2.at_ _ (h3 h))).symm
theorem Sc.Ax (R:aI O W φ) (hr:(O.ar.yng:Int)<=(O.ar.ws.length:Int)-O.ar.grn) (hal:cv W.nd qw Al):∀ (l:List Int) {s:Ms} {S:Int->Prop} {ψ:Int->Int} {N:List Int},Sc O W φ Al s S ψ N->(∀ p ∈ l, ∃ i,W.live i/\(W.th i).aK=true/\p=φ i) ->
  ∃ S' ψ' N',Sc O W φ Al (eK O.ar.nur O.cd s l) S' ψ' N'/\SE W s S ψ N (eK O.ar.nur O.cd s l) S' ψ' N'/\∀ i,W.live i->(W.th i).aK=true->φ i ∈ l->iw W (eK O.ar.nur O.cd s l) S' ψ' i\/Clean W i
 | [],s,S,ψ,N,H,_=>⟨S,ψ,N,H,SE.refl,λi _ _ h=>by cases h⟩
 | p :: l,s,S,ψ,N,H,hl=>by
  obtain ⟨i,hi,ho,rfl⟩:=hl p (by simp);have hS:=H.C.so i hi ho;have step:∃ S1 ψ1 N1,Sc O W φ Al (if du O.ar.nur O.cd (φ i)=true then eD s (φ i) else s) S1 ψ1 N1/\SE W s S ψ N (if du O.ar.nur O.cd (φ i)=true then eD s (φ i) else s) S1 ψ1 N1/\(iw W (if du O.ar.nur O.cd (φ i)=true then eD s (φ i) else s) S1 ψ1 i\/Clean W i):=by
   by_cases hd:du O.ar.nur O.cd (φ i)=true
   ·rw [if_pos hd,<-H.C.po i hi ho];obtain ⟨S1,ψ1,N1,H1,E1,hL⟩:=H.look R hr hal hS;exact ⟨S1,ψ1,N1,H1,E1, .inl hL⟩
   ·rw [if_neg hd];refine ⟨S,ψ,N,H,SE.refl, .inr ⟨ho,λv hv h3=>?_⟩⟩;cases hv':(W.th v.2).aK
    ·exact (hd (R.card i hi ho v hv h3 hv')).elim
    ·rfl
  obtain ⟨S1,ψ1,N1,H1,E1,k1⟩:=step;obtain ⟨S2,ψ2,N2,H2,E2,k2⟩:=Sc.Ax R hr hal l H1 (λp hp=>hl p (by simp [hp]));have e:eK O.ar.nur O.cd s (φ i :: l)=eK O.ar.nur O.cd (if du O.ar.nur O.cd (φ i)=true then eD s (φ i) else s) l:=rfl;rw [e];refine ⟨S2,ψ2,N2,H2,E1.trans E2,λk hk hko hkl=>?_⟩;rcases Zm.1 hkl with h | h
  ·have:=R.inj k i hk hi h;subst this;rcases k1 with h1 | h1
   ·exact .inl (h1.mono E2 (E1.E.sub k hS))
   ·exact .inr h1
  ·exact k2 k hk hko h
structure Ps (O:Wo) (W:Wd) (φ:Int->Int) (rw_:List Int) (t:Mt) (q:List (Int × Int)) (is:List Bool) (qw:List (Int × Int)) (ψ:Int->Int) (N:List Int):Prop where
 H:Sc O W φ (λk=>aw is k=true) t.1 (λk=>aw is k=true) ψ N
 n:Sn O W t.1 (λk=>aw is k=true) ψ N t.2
 c:t.2=t.1.A.grn
 q:gm φ ψ (λk=>aw is k=true) q qw
 ok:∀ e ∈ qw,W.dL e
 shut:cv W.nd qw λk=>aw is k=true
 len:is.length=W.T.length
 rt:∀ v ∈ W.roots,v.1=3->aw is v.2=true
 rw_:rw_=W.roots.map (az ψ)
theorem Sc.nt {s:Ms} (H:Sc O W φ Al s S ψ N) {Bl:Int->Prop} (h:∀ k,S k->Bl k):Sc O W φ Bl s S ψ N:=⟨H.C,h,H.wk,H.ep⟩
theorem Sc.re (R:aI O W φ) (hr:(O.ar.yng:Int)<=(O.ar.ws.length:Int)-O.ar.grn) (hqw:∀ e ∈ qw,W.dL e) {d:Md} {is:List Bool} (hlen:is.length=W.T.length) (hS:∀ k,S k↔aw is k=true)
  (H:Sc O W φ (λk=>cO W.nd qw (λk=>aw is k=true) k) d.s S ψ N) (hs:Sn O W d.s S ψ N d.c) (hc:d.c<=d.s.A.grn) (hq:gm φ ψ S d.q qw) {rts:List Int} (hrt:∀ v ∈ W.roots,v.1=3->S v.2) (hrw:rts=W.roots.map (az ψ)) :
  ∃ ψ' N',Ps O W φ rts ((mDrain 2000 d).s,(mDrain 2000 d).c) (mDrain 2000 d).q (W.cY qw is) qw ψ' N'/\SE W d.s S ψ N (mDrain 2000 d).s (λk=>aw (W.cY qw is) k=true) ψ' N':=by
 have h3:=H.C.sm.ok.h3;have h4:=H.C.sm.ok.h4;have h5:=H.C.sm.len;obtain ⟨S1,ψ1,N1,H1,E1,n1,c1,q1,k1⟩:=H.drain R hr (cO.closed W.nd qw _) hqw 2000 hs hc hq (by omega);have e:S1=λk=>aw (W.cY qw is) k=true:=by
  funext k
  refine propext ⟨λhk=>?_,λhk=>?_⟩
  ·have hl:=H1.C.sl k hk;exact da.2 ⟨hl.1,by rw [hlen];exact hl.2.1,H1.al k hk⟩
  ·exact (da.1 hk).2.2.least (λj hj=>E1.E.sub j ((hS j).2 hj)) k1
 subst e;refine ⟨ψ1,N1,⟨H1.nt (λk hk=>hk),n1,c1,q1,hqw,k1,by unfold Wd.cY;rw [fp,hlen],λv hv h=>E1.E.sub _ (hrt v hv h),?_⟩,E1⟩;rw [hrw];exact Zf λv hv=>(eC (λh=>E1.E.at_ _ (hrt v hv h))).symm
theorem aI.pre (R:aI O W φ) (hr:(O.ar.yng:Int)<=(O.ar.ws.length:Int)-O.ar.grn):∃ ψ N,Ps O W φ (mRoots O.ar O.rt).2 ((iL O).s,(iL O).c) (iL O).q (W.cY W.wait (W.first false)) W.wait ψ N:=by
 have hal:=cO.closed W.nd W.wait (λk=>aw (W.first false) k=true);have C0:=Cu.start R;obtain ⟨S1,ψ1,N1,C1,E1,h1,h2,h3⟩:=Cu.roots R hr W.roots C0 R.hw.rv;rw [<-R.rt] at C1 E1 h3;have hS1:∀ k,S1 k↔aw (W.first false) k=true:=λk=>by
  rw [Wd.gC];constructor
  ·intro hk;have hl:=C1.sl k hk;refine ⟨hl.1,hl.2.1,?_⟩;rcases h1 k hk with h | h
   ·exact .inl ⟨h.2,hl.2.2,rfl⟩
   ·exact .inr h
  ·rintro ⟨h0,h4,h5 | h5⟩
   ·exact C1.so k ⟨h0,h4,h5.2.1⟩ h5.1
   ·exact h2 _ h5 rfl
 have H1:Sc O W φ (λk=>cO W.nd W.wait (λk=>aw (W.first false) k=true) k) ⟨(mRoots O.ar O.rt).1,[],[]⟩ S1 ψ1 N1:=⟨C1,λk hk=>cO.base ((hS1 k).1 hk),(by intro p hp;cases hp),(by intro p hp;cases hp)⟩;have hz:∀ p ∈ O.ar.aO.2, ∃ i,W.live i/\(W.th i).aK=true/\p=φ i:=λp hp=>by
  have:=(R.qZ.mem_iff (a:=p)).1 hp;obtain ⟨i,hi,rfl⟩:=Zi.1 this;have:=Wd.dr.1 hi;exact ⟨i,this.1,this.2,rfl⟩
 obtain ⟨S2,ψ2,N2,H2,E2,k2⟩:=H1.Ax R hr hal O.ar.aO.2 hz;have hn2:Sn O W (eK O.ar.nur O.cd ⟨(mRoots O.ar O.rt).1,[],[]⟩ O.ar.aO.2) S2 ψ2 N2 O.ar.grn:=
  ⟨⟨[],N2,rfl,rfl,(by intro i hi;cases hi)⟩,λi hi ho=>k2 i hi ho (R.ino i hi ho)⟩
 have hq0:∀ (m:List (Int × Int)),gm φ ψ2 S2 (m.map (bs φ)) m:=λm=>by
  induction m with
  | nil=>trivial
  | cons f m ih=>
   refine ⟨⟨?_, .inl ?_⟩,ih⟩
   ·rw [bK φ rfl];rfl
   ·rw [bK φ rfl];rfl
 have h3':=H2.C.sm.ok.h3;have h4':=H2.C.sm.ok.h4;have h5':=H2.C.sm.len;have hflen:(W.first false).length=W.T.length:=Wd.gj W false;obtain ⟨S3,ψ3,N3,H3,E3,n3,c3,q3,k3⟩:=H2.drain R hr hal R.hw.wv 2000 (d:=⟨eK O.ar.nur O.cd ⟨(mRoots O.ar O.rt).1,[],[]⟩ O.ar.aO.2,O.ar.grn,O.wt⟩) hn2 (Int.ofNat_le.2 (Za E1.grn E2.E.grn)) (by
  show gm φ ψ2 S2 O.wt W.wait
  rw [R.wt];exact hq0 _) (by show ((O.ar.ws.length:Int)-_).toNat<2000;omega)
 have e:S3=λk=>aw (W.cY W.wait (W.first false)) k=true:=by
  funext k
  refine propext ⟨λhk=>?_,λhk=>?_⟩
  ·have hl:=H3.C.sl k hk;exact da.2 ⟨hl.1,by rw [hflen];exact hl.2.1,H3.al k hk⟩
  ·exact (da.1 hk).2.2.least (λj hj=>E3.E.sub j (E2.E.sub j ((hS1 j).2 hj))) k3
 subst e;have qY:∀ k,S1 k->ψ3 k=ψ1 k:=λk hk=>(E3.E.at_ k (E2.E.sub k hk)).trans (E2.E.at_ k hk);refine ⟨ψ3,N3,⟨H3.nt (λk hk=>hk),n3,c3,q3,R.hw.wv,k3,by unfold Wd.cY;rw [fp,hflen],λv hv h=>E3.E.sub _ (E2.E.sub _ (h2 v hv h)),?_⟩⟩;rw [h3];exact Zf λv hv=>(eC (λh=>qY _ (h2 v hv h))).symm
theorem Ps.ab (R:aI O W φ) (hr:(O.ar.yng:Int)<=(O.ar.ws.length:Int)-O.ar.grn) {rts:List Int} {t:Mt} {q:List (Int × Int)} {is:List Bool} (P:Ps O W φ rts t q is qw ψ N) {x g:Int} (hx:W.live x) (hg:W.live g) (hk:(W.th g).k=5) :
  ∃ ψ' N',Ps O W φ rts (gN t q (az φ (3,x))).1 ((gN t q (az φ (3,x))).2.1 ++ [(az φ (3,g),(gN t q (az φ (3,x))).2.2)]) (W.cY qw (is.set x.toNat true)) (qw ++ [(g,x)]) ψ' N':=by
 have okx:W.cI (3,x):=.inr (.inr (.inr ⟨rfl,hx⟩));obtain ⟨S1,ψ1,N1,C1,E1,h1,h2,h3,_⟩:=P.H.C.iU R hr okx (x:=az φ (3,x)) (.inl rfl);have hS1:∀ k,S1 k↔aw (is.set x.toNat true) k=true:=λk=>by
  rw [gU hx.1 (by rw [P.len];exact hx.2.1)];constructor
  ·intro hk;rcases h1 k hk with h | ⟨_,rfl⟩
   ·exact .inr h
   ·exact .inl rfl
  ·rintro (rfl | h)
   ·exact h3 rfl
   ·exact E1.sub k h
 obtain ⟨H1,SE1⟩:=(P.H.nt (Bl:=λk=>cO W.nd qw (λk=>aw (is.set x.toNat true) k=true) k) (λk hk=>cO.base ((hS1 k).1 (E1.sub k hk)))).Aw C1 E1 (λk hk=>cO.base ((hS1 k).1 hk));have hn1:=P.n.more P.H.C C1 SE1;have hq1:=P.q.mono E1;obtain ⟨ψ2,N2,P2,SE2⟩:=H1.re (d:=⟨{ t.1 with A:=bI t.1.A (az φ (3,x)) },t.2,q⟩) R hr P.ok (by rw [List.length_set];exact P.len) hS1 hn1 (by show t.2<=_;rw [P.c];exact Int.ofNat_le.2 E1.grn) hq1 (rts:=rts) (λv hv h=>E1.sub _ (P.rt v hv h)) (by
  rw [P.rw_]
  exact Zf λv hv=>(eC (λh=>E1.at_ _ (P.rt v hv h))).symm)
 have hxin:aw (W.cY qw (is.set x.toNat true)) x=true:=SE2.E.sub _ (h3 rfl);refine ⟨ψ2,N2,⟨P2.H,P2.n,P2.c,gm.app ⟨rfl,?_⟩ P2.q,λe he=>?_,?_,P2.len,P2.rt,P2.rw_⟩⟩
 ·refine .inr ⟨λ_=>hxin,?_⟩
  show cV (bI t.1.A (az φ (3,x))) (az φ (3,x))=_
  rw [h2];exact (eC (λh=>SE2.E.at_ _ (h3 rfl))).symm
 ·rcases Zk.1 he with h | h
  ·exact P.ok e h
  ·rw [List.mem_singleton.1 h];exact ⟨hg,hk,hx⟩
 ·intro a b ha hl;by_cases hb:b=x
  ·subst hb;exact hxin
  ·refine P2.shut a b ha ?_;rcases hl with h | h | h | ⟨h,h'⟩
   ·exact .inl h
   ·exact .inr (.inl h)
   ·exact .inr (.inr (.inl h))
   ·refine .inr (.inr (.inr ⟨h,?_⟩));rcases Zk.1 h' with h4 | h4
    ·exact h4
    ·simp at h4;exact absurd h4.2 hb
def cW (φ:Int->Int) (i:It):It:=(bs φ i.1,i.2)
theorem dR (φ:Int->Int) (e:Int × Int):bs φ e=(az φ (3,e.1),az φ (3,e.2)):=by
 rw [bK φ rfl,bK φ rfl];rfl
theorem Ps.alive (R:aI O W φ) {rts:List Int} {t:Mt} {q:List (Int × Int)} {is:List Bool} (P:Ps O W φ rts t q is qw ψ N) {x:Int} (hx:W.live x):bQ t (az φ (3,x))=aw is x:=by
 have:=P.H.C.alive R (v:=(3,x)) (x:=az φ (3,x)) (.inr (.inr (.inr ⟨rfl,hx⟩))) (.inl rfl);simp only [forall_const] at this;rw [Bool.eq_iff_iff];exact this
theorem Ps.scan (R:aI O W φ) (hr:(O.ar.yng:Int)<=(O.ar.ws.length:Int)-O.ar.grn) {rts:List Int}:∀ (l:List It) {t:Mt} {q:List (Int × Int)} {is:List Bool} {qw:List (Int × Int)} {ψ:Int->Int} {N:List Int},Ps O W φ rts t q is qw ψ N->(∀ i ∈ l,W.dL i.1) ->
  ∃ ψ' N',Ps O W φ rts (scanM bQ gN t q (l.map (cW φ))).1 (scanM bQ gN t q (l.map (cW φ))).2.1 (scanM aw W.cq is qw l).1 (scanM aw W.cq is qw l).2.1 ψ' N' /\
   (scanM bQ gN t q (l.map (cW φ))).2.2.1=(scanM aw W.cq is qw l).2.2.1.map (cW φ)/\(scanM bQ gN t q (l.map (cW φ))).2.2.2=(scanM aw W.cq is qw l).2.2.2
 | [],t,q,is,qw,ψ,N,P,_=>⟨ψ,N,P,rfl,rfl⟩
 | i :: l,t,q,is,qw,ψ,N,P,hl=>by
  have hi:=hl i (by simp);have ea:bQ t (cW φ i).1.1=aw is i.1.1:=by
   show bQ t (bs φ i.1).1=_
   rw [dR];exact P.alive R hi.1
  simp only [Zs,scanM];rw [ea];have e2:(cW φ i).2=i.2:=rfl;rw [e2];by_cases hc:(i.2.1 && !i.2.2 && aw is i.1.1)=true
  ·rw [if_pos hc,if_pos hc];obtain ⟨ψ1,N1,P1⟩:=P.ab R hr hi.2.2 hi.1 hi.2.1;have e3:(cW φ i).1.2=az φ (3,i.1.2):=by show (bs φ i.1).2=_;rw [dR]
   have e4:(cW φ i).1.1=az φ (3,i.1.1):=by show (bs φ i.1).1=_;rw [dR]
   rw [<-e3,<-e4] at P1;obtain ⟨ψ2,N2,P2,h1,h2⟩:=Ps.scan R hr l P1 (λj hj=>hl j (by simp [hj]));refine ⟨ψ2,N2,P2,?_,rfl⟩;dsimp only;rw [h1];rfl
  ·rw [if_neg hc,if_neg hc];obtain ⟨ψ2,N2,P2,h1,h2⟩:=Ps.scan R hr l P (λj hj=>hl j (by simp [hj]));refine ⟨ψ2,N2,P2,?_,h2⟩;dsimp only;rw [h1];rfl
theorem Ps.rounds (R:aI O W φ) (hr:(O.ar.yng:Int)<=(O.ar.ws.length:Int)-O.ar.grn) {rts:List Int}:∀ (n:Nat) (l:List It) {t:Mt} {q:List (Int × Int)} {is:List Bool} {qw:List (Int × Int)} {ψ:Int->Int} {N:List Int},Ps O W φ rts t q is qw ψ N->(∀ i ∈ l,W.dL i.1) ->
  ∃ ψ' N',Ps O W φ rts (roundsM bQ gN n t q (l.map (cW φ))).1 (roundsM bQ gN n t q (l.map (cW φ))).2.1 (roundsM aw W.cq n is qw l).1 (roundsM aw W.cq n is qw l).2.1 ψ' N' /\
   (roundsM bQ gN n t q (l.map (cW φ))).2.2=(roundsM aw W.cq n is qw l).2.2.map (cW φ)
 | 0,l,t,q,is,qw,ψ,N,P,hl=>⟨ψ,N,P,rfl⟩
 | n+1,l,t,q,is,qw,ψ,N,P,hl=>by
  obtain ⟨ψ1,N1,P1,h1,h2⟩:=P.scan R hr l hl;have hl1:=nk is qw hl;simp only [roundsM];rw [h2];by_cases hc:(scanM aw W.cq is qw l).2.2.2=true
  ·rw [if_pos hc,if_pos hc,h1];exact Ps.rounds R hr n _ P1 hl1
  ·rw [if_neg hc,if_neg hc];exact ⟨ψ1,N1,P1,h1⟩
theorem aI.CD (R:aI O W φ) (hr:(O.ar.yng:Int)<=(O.ar.ws.length:Int)-O.ar.grn):∃ ψ N,Ps O W φ (mRoots O.ar O.rt).2 (bN O).1 (bN O).2.1 (W.pass false).1 (W.pass false).2.1 ψ N/\(bN O).2.2=(W.pass false).2.2.map (cW φ):=by
 obtain ⟨ψ0,N0,P0⟩:=R.pre hr;have e:c6 bQ ((iL O).s,(iL O).c) O.rg=(c6 aw (W.cY W.wait (W.first false)) W.ai).map (cW φ):=by
  unfold c6;rw [R.rg,List.map_map,List.map_map];refine Zf λe he=>?_;have:=R.hw.gv e he
  show (bs φ e,!bQ _ (bs φ e).2,false)=(bs φ e,!aw _ e.2,false)
  rw [show (bs φ e).2=az φ (3,e.2) by rw [dR],P0.alive R this.2.2]
 have hlen:O.rg.length=W.ai.length:=by rw [R.rg];simp
 unfold bN Wd.pass dw;rw [e,hlen];exact P0.rounds R hr _ _ (λi hi=>by
  simp only [c6,List.mem_map] at hi;obtain ⟨e,he,rfl⟩:=hi
  exact R.hw.gv e he)
end
end
section
section
variable {O:Wo} {W:Wd} {φ ψ:Int->Int} {A B:Ar} {is:List Bool} {N:List Int} {qw:List (Int × Int)}
theorem Cu.xv {S:Int->Prop} (R:aI O W φ) (C:Cu O W φ A S ψ N) {v:Vl} (hok:W.cI v) (hs:v.1=3->S v.2):bm (az ψ v):=by
 have b3:=C.sm.ok.h3;have b4:=C.sm.ok.h4;unfold bm;rcases hok with h | h | h | h
 ·have e:az ψ v=2:=by simp [az,h.1]
  rw [e];decide
 ·have e:az ψ v=4*v.2:=by simp [az,h.1]
  have:=h.2;unfold cG at this;rw [e];omega
 ·have e:az ψ v=3:=by simp [az,h.1]
  rw [e];decide
 ·rw [bK ψ h.1];have:=C.place R (hs h.1);omega
theorem ks:bm 3:=by unfold bm;decide
structure Gb (ψ:Int->Int) (is:List Bool) (A B:Ar):Prop where
 sm:Sm A B
 grn:B.grn=A.grn
 yl:∀ q,A.aA q=true->B.load q=A.load q
 hd:∀ k,aw is k=true->B.ah (ψ k)=A.ah (ψ k)
theorem Gb.alive (G:Gb ψ is A B) (x:Int):aX B x=aX A x:=by
 have hy:B.aA (x/4)=A.aA (x/4):=by unfold Ar.aA;rw [G.sm.yng]
 unfold aX;rw [hy];cases h:A.aA (x/4)
 ·simp
 ·rw [G.yl _ h]
theorem Gb.now (G:Gb ψ is A B) (x:Int):cV B x=cV A x:=by
 have hy:B.aA (x/4)=A.aA (x/4):=by unfold Ar.aA;rw [G.sm.yng]
 unfold cV;rw [hy];cases h:A.aA (x/4)
 ·simp
 ·rw [G.yl _ h]
theorem Gb.put (R:aI O W φ) (C:Cu O W φ A (λk=>aw is k=true) ψ N) (G:Gb ψ is A B) {i:Int} (hi:aw is i=true) {j:Nat} (hj:j<(W.th i).fs.length) {x:Int} (hx:bm x) :
  Gb ψ is A (B.store (ψ i+1+j) x)/\(B.store (ψ i+1+j) x).load (ψ i+1+j)=x /\
  ∀ k,aw is k=true->∀ n,n<(W.th k).fs.length->(k≠i\/n≠j)->(B.store (ψ i+1+j) x).load (ψ k+1+n)=B.load (ψ k+1+n):=by
 have hB:=G.sm.ok;have hld:=λq=>Ar.fh hB (ψ i+1+(j:Int)) q x;have hne:∀ q,q≠ψ i+1+j->(B.store (ψ i+1+j) x).load q=B.load q:=λq hq=>by rw [hld,if_neg (λh=>hq h.1)]
 have hpi:=C.place R hi;have b1:=C.sm.ok.h1;have huse:B.aM (ψ i+1+j)=true:=by
  have:=C.wC R hi (j:=1+(j:Int)) (by omega) (by omega);rw [<-Int.add_assoc] at this;unfold Ar.aM Ar.aK at *;rw [G.grn,G.sm.nur,this];simp
 refine ⟨⟨G.sm.trans (Sm.store hB _ hx),by rw [Ar.dO];exact G.grn,λq hq=>?_,λk hk=>?_⟩,by rw [hld,if_pos ⟨rfl,huse⟩],λk hk n hn hne'=>hne _ ?_⟩
 ·rw [hne q (by have:=bU.1 hq;omega)];exact G.yl q hq
 ·have:(B.store (ψ i+1+j) x).ah (ψ k)=B.ah (ψ k):=by
   refine cR (hne _ ?_);by_cases e:k=i
   ·subst e;omega
   ·have:=C.apart R hk hi e;omega
  rw [this];exact G.hd k hk
 ·by_cases e:k=i
  ·subst e;have:n≠j:=by rcases hne' with h | h;exact absurd rfl h;exact h
   omega
  ·have:=C.apart R hk hi e;omega
def my (W:Wd) (is:List Bool) (i:Int):List Vl:=(dB is i.toNat (W.th i)).fs
def fA (W:Wd) (ψ:Int->Int) (is:List Bool) (B:Ar) (i:Int):Prop:=∀ (j:Nat) (v:Vl),(my W is i)[j]? = some v->B.load (ψ i+1+j)=az ψ v
def r5 (W:Wd) (φ ψ:Int->Int) (is:List Bool) (B:Ar) (i:Int):Prop:=∀ (j:Nat) (v:Vl),(W.th i).fs[j]? = some v->lL φ ψ (λk=>aw is k=true) (B.load (ψ i+1+j)) v
theorem lh {i:Int} (h0:0<=i) (hb:aw is i=true):my W is i =
  if (W.th i).k=4/\bY is ((W.th i).fs.getD 0 (0,0))=false then [(2,0),(2,0)] else if (W.th i).k=3/\bY is ((W.th i).fs.getD 0 (0,0))=false then [(2,0),(W.th i).fs.getD 1 (0,0)] else (W.th i).fs:=by
 unfold my dB;rw [if_pos (by rw [c8 h0];exact hb)]
theorem ey {v:Vl}:bY is v=true↔(v.1=3->aw is v.2=true):=by
 unfold bY;by_cases h:v.1=3
 ·simp [h]
 ·simp [h]
theorem i3 {α:Type} {l:List α} (h:l.length=2):∃ a b,l=[a,b]:=by
 match l,h with
 | [a,b],_=>exact ⟨a,b,rfl⟩
structure Gn (W:Wd) (φ ψ:Int->Int) (is:List Bool) (A B:Ar):Prop where
 G:Gb ψ is A B
 f:∀ i,aw is i=true->fA W ψ is B i\/((W.th i).k=3/\r5 W φ ψ is B i/\∀ v,(W.th i).fs[1]? = some v->B.load (ψ i+2)=az ψ v)\/((W.th i).k=4/\r5 W φ ψ is B i)
theorem fA.congr {B':Ar} {i:Int} (hl:(my W is i).length=(W.th i).fs.length) (h:∀ n,n<(W.th i).fs.length->B'.load (ψ i+1+n)=B.load (ψ i+1+n)) (hf:fA W ψ is B i):fA W ψ is B' i:=λj v hv=>by
 have:=(Zj.1 hv).1;rw [h j (by omega)];exact hf j v hv
theorem r5.congr {B':Ar} {i:Int} (h:∀ n,n<(W.th i).fs.length->B'.load (ψ i+1+n)=B.load (ψ i+1+n)) (hf:r5 W φ ψ is B i):r5 W φ ψ is B' i:=λj v hv=>by
 rw [h j (List.getElem?_eq_some_iff.1 hv).1];exact hf j v hv
theorem qk (R:aI O W φ) (C:Cu O W φ A (λk=>aw is k=true) ψ N) {i:Int} (hi:aw is i=true):(my W is i).length=(W.th i).fs.length:=by
 have hl:=C.sl i hi;exact jK (by rw [c8 hl.1];exact hi) (R.hw.tk i hl)
theorem Gn.other (R:aI O W φ) (C:Cu O W φ A (λk=>aw is k=true) ψ N) (g:Gn W φ ψ is A B) {B':Ar} (G':Gb ψ is A B') {i:Int} (hfin:fA W ψ is B' i)
  (h:∀ k,aw is k=true->k≠i->∀ n,n<(W.th k).fs.length->B'.load (ψ k+1+n)=B.load (ψ k+1+n)):Gn W φ ψ is A B':=by
 refine ⟨G',λk hk=>?_⟩;by_cases e:k=i
 ·subst e;exact .inl hfin
 ·rcases g.f k hk with h1 | ⟨h1,h2,h3⟩ | ⟨h1,h2⟩
  ·exact .inl (h1.congr (qk R C hk) (h k hk e))
  ·refine .inr (.inl ⟨h1,h2.congr (h k hk e),λv hv=>?_⟩);have hh:=h k hk e 1 (Zj.1 hv).1;rw [show ψ k+1+((1:Nat):Int)=ψ k+2 by omega] at hh;rw [hh];exact h3 v hv
  ·exact .inr (.inr ⟨h1,h2.congr (h k hk e)⟩)
theorem jN (ψ:Int->Int):az ψ (2,0)=3:=rfl
theorem oJ (B:Ar):cV B 3=3:=q9 (by decide)
theorem mz (B:Ar):aX B 3=true:=oI (by decide)
theorem Gn.key (R:aI O W φ) (C:Cu O W φ A (λk=>aw is k=true) ψ N) (g:Gn W φ ψ is A B) {i:Int} (hi:aw is i=true) {v0 v1:Vl} (hk:(W.th i).k=3\/(W.th i).k=4) (hfs:(W.th i).fs=[v0,v1]) :
  (bY is v0=true->aX B (B.load (ψ i+1))=true/\cV B (B.load (ψ i+1))=az ψ v0) /\
  (bY is v0=false->(fA W ψ is B i/\B.load (ψ i+1)=3)\/aX B (B.load (ψ i+1))=false):=by
 have hl:=C.sl i hi;have ok0:=R.hw.tv i hl v0 (by rw [hfs];simp);have e0:ψ i+1+((0:Nat):Int)=ψ i+1:=by omega
 have hc:=lh (W:=W) hl.1 hi;rw [hfs] at hc;simp only [List.getD_cons_zero,List.getD_cons_succ] at hc;constructor
 ·intro hs;have hw:lL φ ψ (λk=>aw is k=true) (B.load (ψ i+1)) v0:=by
   rw [if_neg (λh=>by rw [hs] at h;cases h.2),if_neg (λh=>by rw [hs] at h;cases h.2)] at hc;rcases g.f i hi with h | ⟨_,h,_⟩ | ⟨_,h⟩
   ·have:=h 0 v0 (by rw [hc];rfl);rw [e0] at this;exact .inr ⟨ey.1 hs,this⟩
   ·have:=h 0 v0 (by rw [hfs];rfl);rwa [e0] at this
   ·have:=h 0 v0 (by rw [hfs];rfl);rwa [e0] at this
  rw [g.G.alive,g.G.now];exact ⟨(C.alive R ok0 hw).2 (ey.1 hs),C.now R ok0 hw (ey.1 hs)⟩
 ·intro hs;have hn:¬ (v0.1=3->aw is v0.2=true):=λh=>by rw [ey.2 h] at hs;cases hs
  have raw:r5 W φ ψ is B i->aX B (B.load (ψ i+1))=false:=λh=>by
   have h1:=h 0 v0 (by rw [hfs];rfl);rw [e0] at h1;rw [g.G.alive];cases ha:aX A (B.load (ψ i+1))
   ·rfl
   ·exact (hn ((C.alive R ok0 h1).1 ha)).elim
  rcases g.f i hi with h | ⟨_,h,_⟩ | ⟨_,h⟩
  ·refine .inl ⟨h,?_⟩;have h2:(my W is i)[0]? = some (2,0):=by
    rw [hc];rcases hk with hk | hk
    ·rw [if_neg (λh=>by omega),if_pos ⟨hk,hs⟩];rfl
    ·rw [if_pos ⟨hk,hs⟩];rfl
   have:=h 0 _ h2;rw [e0] at this;rw [this,jN]
  ·exact .inr (raw h)
  ·exact .inr (raw h)
theorem Gn.Eh (R:aI O W φ) (C:Cu O W φ A (λk=>aw is k=true) ψ N) (g:Gn W φ ψ is A B) {i:Int} (hi:aw is i=true) (hk:(W.th i).k=3) :
  Gn W φ ψ is A (gY B (ψ i+1) (!aX B (B.load (ψ i+1))))/\fA W ψ is (gY B (ψ i+1) (!aX B (B.load (ψ i+1)))) i:=by
 have hl:=C.sl i hi;have h2:=Wd.two R.hw hl (.inl hk);obtain ⟨v0,v1,hfs⟩:=i3 h2;have ok0:=R.hw.tv i hl v0 (by rw [hfs];simp);obtain ⟨k1,k2⟩:=g.key R C hi (.inl hk) hfs;have hc:=lh (W:=W) hl.1 hi;rw [hfs] at hc;simp only [List.getD_cons_zero,List.getD_cons_succ] at hc;rw [if_neg (λh=>by omega)] at hc;have e0:ψ i+1+((0:Nat):Int)=ψ i+1:=by omega
 have e1:ψ i+1+((1:Nat):Int)=ψ i+2:=by omega
 have hval:∃ w,my W is i=[w,v1]/\(if (!aX B (B.load (ψ i+1)))=true then 3 else cV B (B.load (ψ i+1)))=az ψ w/\bm (az ψ w):=by
  cases hs:bY is v0
  ·rw [if_pos ⟨hk,hs⟩] at hc;refine ⟨(2,0),hc,?_,by rw [jN];exact ks⟩;rcases k2 hs with ⟨_,h⟩ | h
   ·rw [h,mz,oJ];rfl
   ·rw [h];rfl
  ·rw [if_neg (λh=>by rw [hs] at h;cases h.2)] at hc;obtain ⟨h1,h3⟩:=k1 hs;exact ⟨v0,hc,by rw [h1,h3];rfl,C.xv R ok0 (ey.1 hs)⟩
 obtain ⟨w,hcw,hv,hR⟩:=hval;have hB:gY B (ψ i+1) (!aX B (B.load (ψ i+1)))=B.store (ψ i+1+((0:Nat):Int)) (az ψ w):=by
  rw [e0];unfold gY;rw [hv]
 obtain ⟨G',a1,a2⟩:=g.G.put R C hi (j:=0) (by omega) hR;have hfin:fA W ψ is (gY B (ψ i+1) (!aX B (B.load (ψ i+1)))) i:=by
  rw [hB];intro j v hv';rw [hcw] at hv'
  match j,hv' with
  | 0,hv'=>simp at hv';subst hv';exact a1
  | 1,hv'=>
   simp at hv';subst hv';rw [a2 i hi 1 (by omega) (.inr (by decide)),e1];rcases g.f i hi with h | ⟨_,_,h⟩ | ⟨h,_⟩
   ·have:=h 1 v1 (by rw [hcw];rfl);rwa [e1] at this
   ·exact h v1 (by rw [hfs];rfl)
   ·omega
 refine ⟨?_,hfin⟩;rw [hB] at hfin ⊢;exact g.other R C G' hfin (λk hk' hne n hn=>a2 k hk' n hn (.inl hne))
theorem Gn.q7 (R:aI O W φ) (C:Cu O W φ A (λk=>aw is k=true) ψ N) (hcl:cv W.nd qw λk=>aw is k=true) (g:Gn W φ ψ is A B) {i:Int} (hi:aw is i=true) (hk:(W.th i).k=4) :
  Gn W φ ψ is A (db B (ψ i))/\fA W ψ is (db B (ψ i)) i:=by
 have hl:=C.sl i hi;have h2:=Wd.two R.hw hl (.inr (.inl hk));obtain ⟨v0,v1,hfs⟩:=i3 h2;have ok0:=R.hw.tv i hl v0 (by rw [hfs];simp);have ok1:=R.hw.tv i hl v1 (by rw [hfs];simp);obtain ⟨k1,k2⟩:=g.key R C hi (.inr hk) hfs;have hc:=lh (W:=W) hl.1 hi;rw [hfs] at hc;simp only [List.getD_cons_zero,List.getD_cons_succ] at hc;have e0:ψ i+1+((0:Nat):Int)=ψ i+1:=by omega
 have e1:ψ i+1+((1:Nat):Int)=ψ i+2:=by omega
 obtain ⟨dd,hd⟩:∃ d,(!aX B (B.load (ψ i+1)))=d:=⟨_,rfl⟩;have hval:∃ w0 w1,my W is i=[w0,w1]/\(if dd=true then 3 else cV B (B.load (ψ i+1)))=az ψ w0/\bm (az ψ w0)/\(if dd=true then 3 else cV B (B.load (ψ i+2)))=az ψ w1/\bm (az ψ w1):=by
  cases hs:bY is v0
  ·rw [if_pos ⟨hk,hs⟩] at hc;refine ⟨(2,0),(2,0),hc,?_,by rw [jN];exact ks,?_,by rw [jN];exact ks⟩
   ·rcases k2 hs with ⟨_,h⟩ | h
    ·rw [<-hd,h,mz,oJ];rfl
    ·rw [<-hd,h];rfl
   ·rcases k2 hs with ⟨hf,h⟩ | h
    ·have:=hf 1 (2,0) (by rw [hc];rfl);rw [e1,jN] at this;rw [<-hd,h,mz,this,oJ];rfl
    ·rw [<-hd,h];rfl
  ·rw [if_neg (λh=>by rw [hs] at h;cases h.2),if_neg (λh=>by omega)] at hc;obtain ⟨h1,h3⟩:=k1 hs;have hs1:v1.1=3->aw is v1.2=true:=λh3=>hcl i v1.2 hi (.inr (.inr (.inl ⟨hk,by
    show (W.th i).fs[1]? = _
    rw [hfs];show some v1=_;congr 1;exact Prod.ext h3 rfl,λv hv h=>by
    have hv':(W.th i).fs[0]? = some v:=hv;rw [hfs] at hv';have:v0=v:=by simpa using hv'
    subst this;exact ey.1 hs h⟩)))
   have hw1:lL φ ψ (λk=>aw is k=true) (B.load (ψ i+2)) v1:=by
    rcases g.f i hi with h | ⟨h,_,_⟩ | ⟨_,h⟩
    ·have:=h 1 v1 (by rw [hc];rfl);rw [e1] at this;exact .inr ⟨hs1,this⟩
    ·omega
    ·have:=h 1 v1 (by rw [hfs];rfl);rwa [e1] at this
   refine ⟨v0,v1,hc,by rw [<-hd,h1,h3];rfl,C.xv R ok0 (ey.1 hs),?_,C.xv R ok1 hs1⟩;rw [<-hd,h1]
   show cV B (B.load (ψ i+2))=_
   rw [g.G.now];exact C.now R ok1 hw1 hs1
 obtain ⟨w0,w1,hcw,hv0,hR0,hv1,hR1⟩:=hval;obtain ⟨G1,a1,a2⟩:=g.G.put R C hi (j:=0) (by omega) hR0;have hld:(B.store (ψ i+1+((0:Nat):Int)) (az ψ w0)).load (ψ i+2)=B.load (ψ i+2):=by
  have:=a2 i hi 1 (by omega) (.inr (by decide));rwa [e1] at this
 obtain ⟨G2,b1,b2⟩:=G1.put R C hi (j:=1) (by omega) hR1;have hB:db B (ψ i)=(B.store (ψ i+1+((0:Nat):Int)) (az ψ w0)).store (ψ i+1+((1:Nat):Int)) (az ψ w1):=by
  unfold db;rw [hd];have e2:gY B (ψ i+1) dd=B.store (ψ i+1+((0:Nat):Int)) (az ψ w0):=by rw [e0];unfold gY;rw [hv0]
  rw [e2];unfold gY;rw [hld,e1,G1.now,<-g.G.now,hv1]
 have hfin:fA W ψ is (db B (ψ i)) i:=by
  rw [hB];intro j v hv';rw [hcw] at hv'
  match j,hv' with
  | 0,hv'=>simp at hv';subst hv';rw [b2 i hi 0 (by omega) (.inr (by decide))];exact a1
  | 1,hv'=>simp at hv';subst hv';exact b1
 refine ⟨?_,hfin⟩;rw [hB] at hfin ⊢;refine g.other R C G2 hfin (λk hk' hne n hn=>?_);rw [b2 k hk' n hn (.inl hne),a2 k hk' n hn (.inl hne)]
theorem Gn.Ay (R:aI O W φ) (C:Cu O W φ A (λk=>aw is k=true) ψ N):∀ (l:List Int) {B:Ar},Gn W φ ψ is A B->(∀ p ∈ l, ∃ i,aw is i=true/\(W.th i).k=3/\p=ψ i) ->
  Gn W φ ψ is A (fK B l)/\(∀ i,aw is i=true->fA W ψ is B i->fA W ψ is (fK B l) i)/\∀ i,aw is i=true->ψ i ∈ l->fA W ψ is (fK B l) i
 | [],B,g,_=>⟨g,λ_ _ h=>h,λ_ _ h=>by cases h⟩
 | p :: l,B,g,hl=>by
  obtain ⟨i,hi,hk,rfl⟩:=hl p (by simp);obtain ⟨g1,f1⟩:=g.Eh R C hi hk;obtain ⟨g2,f2,f3⟩:=Gn.Ay R C l g1 (λp hp=>hl p (by simp [hp]));have e:fK B (ψ i :: l)=fK (gY B (ψ i+1) (!aX B (B.load (ψ i+1)))) l:=rfl;rw [e];have ab:∀ k,aw is k=true->fA W ψ is B k->fA W ψ is (gY B (ψ i+1) (!aX B (B.load (ψ i+1)))) k:=λk hk' hf=>by
   by_cases ek:k=i
   ·subst ek;exact f1
   ·refine hf.congr (qk R C hk') (λn hn=>?_);unfold gY;have:=C.apart R hk' hi ek;have hn2:=Wd.two R.hw (C.sl i hi) (.inl hk);rw [Ar.fh g.G.sm.ok,if_neg (λh=>by omega)]
  refine ⟨g2,λk hk' hf=>f2 k hk' (ab k hk' hf),λk hk' hm=>?_⟩;rcases Zm.1 hm with h | h
  ·have:=C.inj R hk' hi h;subst this;exact f2 k hk' f1
  ·exact f3 k hk' h
theorem Gn.nu (R:aI O W φ) (C:Cu O W φ A (λk=>aw is k=true) ψ N) (hcl:cv W.nd qw λk=>aw is k=true):∀ (l:List Int) {B:Ar},Gn W φ ψ is A B->(∀ p ∈ l, ∃ i,aw is i=true/\(W.th i).k=4/\p=ψ i) ->
  Gn W φ ψ is A (l.foldl db B)/\(∀ i,aw is i=true->fA W ψ is B i->fA W ψ is (l.foldl db B) i)/\∀ i,aw is i=true->ψ i ∈ l->fA W ψ is (l.foldl db B) i
 | [],B,g,_=>⟨g,λ_ _ h=>h,λ_ _ h=>by cases h⟩
 | p :: l,B,g,hl=>by
  obtain ⟨i,hi,hk,rfl⟩:=hl p (by simp);obtain ⟨g1,f1⟩:=g.q7 R C hcl hi hk;obtain ⟨g2,f2,f3⟩:=Gn.nu R C hcl l g1 (λp hp=>hl p (by simp [hp]));have e:(ψ i :: l).foldl db B=l.foldl db (db B (ψ i)):=rfl;rw [e];have ab:∀ k,aw is k=true->fA W ψ is B k->fA W ψ is (db B (ψ i)) k:=λk hk' hf=>by
   by_cases ek:k=i
   ·subst ek;exact f1
   ·refine hf.congr (qk R C hk') (λn hn=>?_);unfold db gY;have:=C.apart R hk' hi ek;have hn2:=Wd.two R.hw (C.sl i hi) (.inr (.inl hk));have hok1:(B.store (ψ i+1) (if (!aX B (B.load (ψ i+1)))=true then 3 else cV B (B.load (ψ i+1)))).ok:=by
     refine g.G.sm.ok.store _ _ ?_;split
     ·exact ks
     ·exact iu (g.G.sm.ok.load _)
    rw [Ar.fh hok1,if_neg (λh=>by omega),Ar.fh g.G.sm.ok,if_neg (λh=>by omega)]
  refine ⟨g2,λk hk' hf=>f2 k hk' (ab k hk' hf),λk hk' hm=>?_⟩;rcases Zm.1 hm with h | h
  ·have:=C.inj R hk' hi h;subst this;exact f2 k hk' f1
  ·exact f3 k hk' h
theorem Ps.gone (R:aI O W φ) {rts:List Int} {t:Mt} {q:List (Int × Int)} (P:Ps O W φ rts t q is qw ψ N):Gb ψ is t.1.A (j3 t.1)/\∀ i,aw is i=true->fA W ψ is (j3 t.1) i:=by
 have C:=P.H.C;have start:Gn W φ ψ is t.1.A t.1.A/\∀ i,aw is i=true->fA W ψ is t.1.A i\/((W.th i).k=3/\ψ i ∈ t.1.wk)\/((W.th i).k=4/\ψ i ∈ t.1.ep):=by
  have main:∀ i,aw is i=true->fA W ψ is t.1.A i\/((W.th i).k=3/\ψ i ∈ t.1.wk/\∀ v,(W.th i).fs[1]? = some v->t.1.A.load (ψ i+2)=az ψ v)\/((W.th i).k=4/\ψ i ∈ t.1.ep):=by
   intro i hi;have hl:=C.sl i hi;have all:iw W t.1 (λk=>aw is k=true) ψ i\/Clean W i:=by
    cases ho:(W.th i).aK
    ·exact .inl (P.n.all R C P.c i ((C.nm i).2 ⟨hi,ho⟩))
    ·exact P.n.aK i hl ho
   rcases all with h | h
   ·by_cases k3:(W.th i).k=3
    ·refine .inr (.inl ⟨k3,(h.2.1 k3).1,λv hv=>?_⟩);have:=((h.2.1 k3).2 v hv).2;rwa [show ψ i+1+((1:Nat):Int)=ψ i+2 by omega] at this
    ·by_cases k4:(W.th i).k=4
     ·exact .inr (.inr ⟨k4,h.2.2 k4⟩)
     ·left;intro j v hv;rw [lh hl.1 hi,if_neg (λh=>k4 h.1),if_neg (λh=>k3 h.1)] at hv;by_cases k12:(W.th i).k=1\/(W.th i).k=2
      ·exact (h.1 k12 j v hv).2
      ·exfalso;have hf:=R.hw.tk i hl;have hs:=bL hf;have k5:(W.th i).k=5:=by omega
       rw [k5] at hf;simp [bj] at hf;have:=(Zj.1 hv).1;simp [hf] at this
   ·left;intro j v hv;have all:∀ v ∈ (W.th i).fs,bY is v=true:=λv hv=>ey.2 λh3=>C.so _ (Wd.aY (R.hw.tv i hl v hv) h3) (h.2 v hv h3);have h0:(W.th i).k=3\/(W.th i).k=4->bY is ((W.th i).fs.getD 0 (0,0))=true:=λhk=>by
     obtain ⟨a,b,e⟩:=i3 (Wd.two R.hw hl (by rcases hk with h | h;exact .inl h;exact .inr (.inl h)));rw [e];exact all a (by rw [e];simp)
    rw [lh hl.1 hi,if_neg (λh=>by rw [h0 (.inr h.1)] at h;cases h.2),if_neg (λh=>by rw [h0 (.inl h.1)] at h;cases h.2)] at hv;have hm:=Zh hv;rcases C.fd i hi j v hv with e | ⟨_,e⟩
    ·rw [e];exact (eC (λh3=>C.po _ (Wd.aY (R.hw.tv i hl v hm) h3) (h.2 v hm h3))).symm
    ·exact e
  refine ⟨⟨⟨Sm.refl C.sm.ok,rfl,λ_ _=>rfl,λ_ _=>rfl⟩,λi hi=>?_⟩,λi hi=>?_⟩
  ·rcases main i hi with h | ⟨h,_,h'⟩ | ⟨h,_⟩
   ·exact .inl h
   ·exact .inr (.inl ⟨h,C.fd i hi,h'⟩)
   ·exact .inr (.inr ⟨h,C.fd i hi⟩)
  ·rcases main i hi with h | ⟨h,h',_⟩ | h
   ·exact .inl h
   ·exact .inr (.inl ⟨h,h'⟩)
   ·exact .inr (.inr h)
 obtain ⟨g0,f0⟩:=start;obtain ⟨g1,f1,f2⟩:=g0.Ay R C t.1.wk P.H.wk;obtain ⟨g2,f3,f4⟩:=g1.nu R C P.shut t.1.ep P.H.ep;refine ⟨g2.G,λi hi=>?_⟩;rcases f0 i hi with h | ⟨_,h⟩ | ⟨_,h⟩
 ·exact f3 i hi (f1 i hi h)
 ·exact f3 i hi (f2 i hi h)
 ·exact f4 i hi h
end
end
section
section
variable {O:Wo} {W:Wd} {φ ψ:Int->Int} {A B:Ar} {is:List Bool} {N:List Int} {qw:List (Int × Int)}
theorem Bj (h:W.ok) (hl:∀ i,aw is i=true->W.live i):e9 is W.T<=W.aA+W.cD:=by
 have e:e9 is W.T=((((List.range W.T.length).map (Int.ofNat ·)).filter λi=>aw is i).map λi=>(W.th i).words).sum:=by
  rw [jx];unfold e9;congr 1;apply List.ext_getElem
  ·simp
  ·intro k h1 h2;simp only [List.length_mapIdx] at h1;simp only [List.getElem_mapIdx,List.getElem_map,List.getElem_range];have e1:W.th (Int.ofNat k)=W.T[k]:=by
    unfold Wd.th;rw [Ld,show (Int.ofNat k).toNat=k from rfl,Le h1];rfl
   have e2:aw is (Int.ofNat k)=is.getD k false:=dQ is k;rw [e1,e2]
 have hnd:(((List.range W.T.length).map (Int.ofNat ·)).filter λi=>aw is i).Nodup:=(jw _).filter _;have h1:=pA (f:=λi=>(W.th i).words) (λi=>by unfold Th.words;omega) hnd (m:=W.idx false ++ W.idx true) (by
  intro i hi;have hb:=(Zo.1 hi).2;have hlv:=hl i (by simpa using hb);rw [List.mem_append];cases ho:(W.th i).aK
  ·exact .inl (Wd.dr.2 ⟨hlv,ho⟩)
  ·exact .inr (Wd.dr.2 ⟨hlv,ho⟩))
 rw [List.map_append,List.sum_append,Wd.lg,Wd.lg] at h1;have e1:(eu W.T λt=>!t.dead && (t.aK == false))=W.aA:=by unfold Wd.aA;congr 1;funext t;cases t.aK <;> rfl
 have e2:(eu W.T λt=>!t.dead && (t.aK == true))=W.cD:=by unfold Wd.cD;congr 1;funext t;cases t.aK <;> rfl
 rw [e1,e2] at h1;rw [e];exact h1
theorem rh (A:Ar) {q:Int} (h:A.aK q=true):A.clear.load q=A.load q:=by
 have h1:A.aM q=true:=by unfold Ar.aM;rw [h];simp
 have h2:A.clear.aM q=true:=by
  unfold Ar.aM;rw [Bool.or_eq_true];right;exact h
 unfold Ar.load;rw [if_pos h1,if_pos h2];rfl
theorem Wd.yh (W:Wd) (h:¬ W.aA > W.grow-W.cD) (h2:¬ e9 (W.pass false).1 W.T > W.grow):W.cut false=(0,W.after false):=by
 unfold Wd.cut;rw [if_neg (λh'=>h h'.2),if_neg h2]
theorem aI.minor (R:aI O W φ):(ir O).1=(W.cut false).1/\∃ ψ,aI (ir O).2 (W.cut false).2 ψ:=by
 have hsy:=R.sy;have hso:=R.so;have hnur:=R.nur;have hlen:=R.len;by_cases hfull:(O.ar.yng:Int) > (O.ar.ws.length:Int)-O.ar.grn
 ·have e1:ir O=(3,O):=by unfold ir;rw [if_pos hfull]
  have e2:W.cut false=(3,W):=by unfold Wd.cut;rw [if_pos ⟨rfl,by omega⟩]
  rw [e1,e2];exact ⟨rfl,φ,R⟩
 ·have hr:(O.ar.yng:Int)<=(O.ar.ws.length:Int)-O.ar.grn:=by omega
  obtain ⟨m,hfst,hcnt,hits⟩:=Wd.eR R.hw false;have hsum:=Bj R.hw m.live;have e2:W.cut false=(0,W.after false):=W.yh (by omega) (by omega);have e1:ir O=(0,⟨(j3 (bN O).1.1).clear,O.cd.map λ_=>false,(mRoots O.ar O.rt).2,bq bQ fB (bN O).1 (bN O).2.2,bt bQ fB (bN O).1 (bN O).2.1⟩):=by unfold ir;rw [if_neg hfull]
  rw [e1,e2];obtain ⟨ψ,N,P,hI⟩:=R.CD hr;obtain ⟨G,F⟩:=P.gone R;have C:=P.H.C;refine ⟨rfl,ψ,?_⟩;have hokA:=R.hw.after (major:=false) (by omega);obtain ⟨B,hB⟩:∃ B,j3 (bN O).1.1=B:=⟨_,rfl⟩;rw [hB] at G F ⊢;have okB:=G.sm.ok;have lv:∀ {i},(W.after false).live i↔aw (W.pass false).1 i=true:=Wd.fg R.hw;have tha:∀ {i},aw (W.pass false).1 i=true->(W.after false).th i=dB (W.pass false).1 i.toNat (W.th i):=λhi=>Wd.gD (m.live _ hi).1 (m.live _ hi).2.1;have olda:∀ {i},aw (W.pass false).1 i=true->((W.after false).th i).aK=true:=λhi=>by
   rw [tha hi,(lZ (by rw [c8 (m.live _ hi).1];exact hi)).2]
  have pl:∀ {i},aw (W.pass false).1 i=true->_:=λ{i} hi=>C.place R (i:=i) hi;have oldB:∀ {i},aw (W.pass false).1 i=true->∀ j:Int,0<=j->j<=(W.th i).fs.length->B.aK (ψ i+j)=true:=λhi j h0 h1=>by
   have:=C.wC R hi h0 h1;unfold Ar.aK at *;rw [G.sm.nur,G.grn];exact this
  have thB:∀ {i},aw (W.pass false).1 i=true->B.clear.ah (ψ i)=((W.th i).k,((W.th i).fs.length:Int),0):=λ{i} hi=>by
   have h1:=oldB hi 0 (by omega) (by omega);rw [Int.add_zero] at h1;rw [cR (rh B h1),G.hd i hi];exact C.th i hi
  have hgr:((O.ar.grn:Nat):Int)<=B.grn:=by rw [G.grn];exact Int.ofNat_le.2 C.sm.grn
  have tz:Tile B.clear (O.ar.aO.2 ++ N.map ψ) B.clear.nur B.clear.grn:=by
   refine Tile.app (b:=O.ar.grn) ?_ ?_
   ·have hn:B.clear.nur=O.ar.nur:=(G.sm.nur).trans C.sm.nur;rw [hn];refine Tile.congr (λp hp=>?_) R.tz;have:=(R.qZ.mem_iff (a:=p)).1 hp;obtain ⟨i,hi,rfl⟩:=Zi.1 this;obtain ⟨hl,ho⟩:=Wd.dr.1 hi;have hb:=C.so i hl ho;have:=thB hb;rw [C.po i hl ho] at this;rw [this,R.th i hl]
   ·have hg:B.clear.grn=(bN O).1.1.A.grn:=G.grn;rw [hg];refine Tile.congr (λp hp=>?_) C.iZ;obtain ⟨i,hi,rfl⟩:=Zi.1 hp;have hb:=((C.nm i).1 hi).1;rw [thB hb,C.th i hb]
  have ty:Tile B.clear [] 0 B.clear.yng:=rfl;have hokC:B.clear.ok:=okB.clear;have hth:=Tile.aO hokC ty tz;have itx:∀ i ∈ (W.pass false).2.2,W.dL i.1/\(i.2.1=false->aw (W.pass false).1 i.1.2=true):=by
   intro i hi;have h1:(i.1,i.2.1) ∈ (W.pass false).2.2.map (λi=>(i.1,i.2.1)):=Zi.2 ⟨i,hi,rfl⟩;rw [hits] at h1;obtain ⟨e,he',e2⟩:=Zi.1 h1;have e3:e=i.1:=congrArg (λp:(Int × Int) × Bool=>p.1) e2;have e4:(!aw (W.cY W.wait (W.first false)) e.2)=i.2.1:=congrArg (λp:(Int × Int) × Bool=>p.2) e2;have hgv:=R.hw.gv e he';rw [e3] at hgv e4;exact ⟨hgv,λhd=>hfst _ (by rw [hd] at e4;simpa using e4)⟩
  have nowP:∀ {x:Int} {y:Int},aw (W.pass false).1 x=true->lL φ ψ (λk=>aw (W.pass false).1 k=true) y (3,x)->fB (bN O).1 y=4*ψ x+1:=λ{x y} hx hw=>by
   have:=C.now R (v:=(3,x)) (.inr (.inr (.inr ⟨rfl,m.live x hx⟩))) hw (λ_=>hx);unfold fB;rw [this,bK ψ rfl]
  have hrg:bq bQ fB (bN O).1 (bN O).2.2=(W.after false).ai.map (bs ψ):=by
   rw [hI]
   show bq bQ fB (bN O).1 _=(bq aw iX (W.pass false).1 (W.pass false).2.2).map (bs ψ)
   generalize (W.pass false).2.2=l at itx;unfold bq
   induction l with
   | nil=>rfl
   | cons i l ih=>
    have hi:=itx i (by simp);have ih:=ih (λj hj=>itx j (by simp [hj]));have ea:bQ (bN O).1 (cW φ i).1.1=aw (W.pass false).1 i.1.1:=by
     show bQ _ (bs φ i.1).1=_
     rw [dR];exact P.alive R hi.1.1
    simp only [Zs,List.filter_cons,ea];have e2:(cW φ i).2=i.2:=rfl;rw [e2];by_cases hc:(!i.2.1 && aw (W.pass false).1 i.1.1)=true
    ·rw [if_pos hc,if_pos hc];simp only [Zs];simp only [Zr,Bool.not_eq_true'] at hc;have n1:=nowP hc.2 (y:=(cW φ i).1.1) (.inl (by show (bs φ i.1).1=_;rw [dR]));have n2:=nowP (hi.2 hc.1) (y:=(cW φ i).1.2) (.inl (by show (bs φ i.1).2=_;rw [dR]));rw [ih,n1,n2];rfl
    ·rw [if_neg hc,if_neg hc];exact ih
  have hwt:bt bQ fB (bN O).1 (bN O).2.1=(W.after false).wait.map (bs ψ):=by
   show _=(bt aw iX (W.pass false).1 (W.pass false).2.1).map (bs ψ)
   have hq:=P.q;have hok:=P.ok;have hsh:∀ f ∈ (W.pass false).2.1,aw (W.pass false).1 f.1=true->aw (W.pass false).1 f.2=true:=λf hf h=>P.shut f.1 f.2 h (.inr (.inr (.inr ⟨(hok f hf).2.1,hf⟩)));clear hcnt
   revert hq hok hsh
   generalize (bN O).2.1=l;generalize (W.pass false).2.1=mm;unfold bt
   induction l generalizing mm with
   | nil=>
    intro hq _ _;cases mm with
    | nil=>rfl
    | cons f mm=>exact hq.elim
   | cons e l ih=>
    intro hq hok hsh;cases mm with
    | nil=>exact hq.elim
    | cons f mm=>
     have ih:=ih mm hq.2 (λg hg=>hok g (by simp [hg])) (λg hg=>hsh g (by simp [hg]));have hf:=hok f (by simp);have ea:bQ (bN O).1 e.1=aw (W.pass false).1 f.1:=by rw [hq.1.1];exact P.alive R hf.1
     simp only [List.filter_cons,ea];by_cases hc:aw (W.pass false).1 f.1=true
     ·rw [if_pos hc,if_pos hc];simp only [Zs];rw [ih,nowP hc (.inl hq.1.1),nowP (hsh f (by simp) hc) hq.1.2];rfl
     ·rw [if_neg hc,if_neg hc];exact ih
  have hR64:∀ {i},aw (W.pass false).1 i=true->bm (4*ψ i+1):=λhi=>by
   have:=pl hi;have h3:=C.sm.ok.h3;have h4:=C.sm.ok.h4;unfold bm;omega
  have hE64:∀ e,(W.after false).dL e->rU (bs ψ e):=λe he=>⟨hR64 (lv.1 he.1),hR64 (lv.1 he.2.2)⟩;refine ⟨⟨hokC,?_,λx hx=>?_,λe he=>?_,λe he=>?_,?_,by simpa using R.ho.hc⟩,hokA,by rw [hth];exact ty,by rw [hth];exact tz,λi j hi hj e=>C.inj R (lv.1 hi) (lv.1 hj) e,λp hp=>?_,λi hi ho=>?_,λi hi ho=>?_,λi hi=>?_,λi hi j v hv=>?_,
   P.rw_,hrg,hwt,?_,?_,by rw [Zp];exact R.cl,λi hi ho v hv h3 hy=>?_⟩
  ·show (mRoots O.ar O.rt).2.length=12
   rw [P.rw_];simpa using R.hw.hr
  ·have hx':x ∈ (mRoots O.ar O.rt).2:=hx;rw [P.rw_] at hx';obtain ⟨v,hv,rfl⟩:=Zi.1 hx';exact C.xv R (R.hw.rv v hv) (P.rt v hv)
  ·have he':e ∈ bq bQ fB (bN O).1 (bN O).2.2:=he;rw [hrg] at he';obtain ⟨f,hf,rfl⟩:=Zi.1 he';exact hE64 f (hokA.gv f hf)
  ·have he':e ∈ bt bQ fB (bN O).1 (bN O).2.1:=he;rw [hwt] at he';obtain ⟨f,hf,rfl⟩:=Zi.1 he';exact hE64 f (hokA.wv f hf)
  ·show (bq bQ fB (bN O).1 (bN O).2.2).length+(bt bQ fB (bN O).1 (bN O).2.1).length<=24
   rw [hrg,hwt,Zp,Zp];exact hokA.hq
  ·have hp':p ∈ B.clear.aO.1\/p ∈ B.clear.aO.2:=hp;rw [hth] at hp';dsimp only at hp';rcases hp' with h | h
   ·cases h
   ·rcases Zk.1 h with h | h
    ·obtain ⟨i,hi,rfl⟩:=Zi.1 ((R.qZ.mem_iff (a:=p)).1 h);obtain ⟨hl,ho⟩:=Wd.dr.1 hi;exact ⟨i,lv.2 (C.so i hl ho),C.po i hl ho⟩
    ·obtain ⟨i,hi,rfl⟩:=Zi.1 h;exact ⟨i,lv.2 ((C.nm i).1 hi).1,rfl⟩
  ·rw [olda (lv.1 hi)] at ho;cases ho
  ·show ψ i ∈ B.clear.aO.2
   rw [hth];have hb:=lv.1 hi;dsimp only;rw [List.mem_append];cases ho':(W.th i).aK
   ·exact .inr (Zi.2 ⟨i,(C.nm i).2 ⟨hb,ho'⟩,rfl⟩)
   ·left;have hl:=m.live i hb;rw [C.po i hl ho'];exact R.ino i hl ho'
  ·have hb:=lv.1 hi;have hl:=m.live i hb
   show B.clear.ah (ψ i)=_
   rw [thB hb,tha hb,lY,jK (by rw [c8 hl.1];exact hb) (R.hw.tk i hl)]
  ·have hb:=lv.1 hi;have hl:=m.live i hb;rw [tha hb] at hv
   show B.clear.load _=_
   have hj:j<(W.th i).fs.length:=by
    have:=(Zj.1 hv).1;rwa [jK (by rw [c8 hl.1];exact hb) (R.hw.tk i hl)] at this
   rw [rh B (by rw [Int.add_assoc];exact oldB hb _ (by omega) (by omega))];exact F i hb j v hv
  ·show (B.nur:Int)=W.most
   rw [G.sm.nur,C.sm.nur];exact R.nur
  ·show (B.ws.length:Int)=W.most+W.grow
   rw [G.sm.len,C.sm.len];exact R.len
  ·have hl3:(W.after false).live v.2:=Wd.aY (hokA.tv i hi v hv) h3;rw [olda (lv.1 hl3)] at hy;cases hy
end
end
section
theorem vB {α β:Type} (f:Nat->α->β) (l:List α) (a:α):(l ++ [a]).mapIdx f=l.mapIdx f ++ [f l.length a]:=by
 simp [List.mapIdx_append]
def i4 (is:List Bool) (l:List Th) (k:Nat):Int:=e9 is (l.take k)
theorem sV {is:List Bool} {l:List Th} {k:Nat} (h:k<l.length):i4 is l (k+1)=i4 is l k+(if is.getD k false then (l.getD k Th.none).words else 0):=by
 unfold i4 e9;rw [<-List.take_append_getElem h,vB,List.sum_append,Zx,Nat.min_eq_left (by omega),Ld (l:=l),Le h];simp
theorem sW (is:List Bool) (l:List Th):i4 is l 0=0:=by simp [i4,e9]
theorem zB (is:List Bool) (l:List Th):i4 is l l.length=e9 is l:=by simp [i4]
theorem wD {W:Wd} (h:W.ok) {is:List Bool} (hl:∀ i,aw is i=true->W.live i):∀ k:Nat,k<=W.T.length->0<=i4 is W.T k/\i4 is W.T k<=13*k
 | 0,_=>by rw [sW];omega
 | k+1,hk=>by
  have ih:=wD h hl k (by omega);rw [sV (by omega)];split
  ·rename_i hb;have hlv:=hl (k:Int) (by rw [dQ];exact hb);have hf:=bL (h.tk _ hlv);have e:W.th (k:Int)=W.T.getD k Th.none:=by unfold Wd.th;rw [Zt]
   rw [e] at hf;unfold Th.words;omega
  ·omega
def gZ (is:List Bool) (l:List Th) (k:Nat):List Th:=l.mapIdx λi t=>if i<k then dB is i t else t
theorem yi (is:List Bool) (l:List Th):gZ is l 0=l:=by
 unfold gZ;apply List.ext_getElem (by simp);intro j h1 h2;simp
theorem zC (is:List Bool) (l:List Th):gZ is l l.length=kQ is l:=by
 unfold gZ kQ;apply List.ext_getElem (by simp);intro j h1 h2;have:j<l.length:=by simpa using h2
 simp [this]
theorem iy (is:List Bool) (l:List Th) (k:Nat):(gZ is l k).length=l.length:=by simp [gZ]
theorem uq (is:List Bool) (l:List Th) {k:Nat} (h:k<l.length):(gZ is l k)[k]'(by rw [iy];exact h)=l[k]:=by simp [gZ]
theorem yj (is:List Bool) (l:List Th) {k:Nat} (h:k<l.length):(gZ is l k).set k (dB is k l[k])=gZ is l (k+1):=by
 unfold gZ;apply List.ext_getElem (by simp);intro j h1 h2;simp only [List.getElem_set,List.getElem_mapIdx];by_cases e:k=j
 ·subst e;simp
 ·rw [if_neg e];by_cases e2:j<k
  ·rw [if_pos e2,if_pos (by omega)]
  ·rw [if_neg e2,if_neg (by omega)]
theorem Bk {is:List Bool} {k:Nat} {t:Th} (h:is.getD k false=false):dB is k t=⟨t.k,[],t.aK,true⟩:=by unfold dB;rw [if_neg (by rw [h];decide)]
end
section
open Go.RowKit
theorem oK {P:Program} {w:World} {ops:Array Oper} {o:Oper} {a:Act} {rest:List Oper} {Q:Exit->Act->World->Prop} (hw:Region.wanted o (yielded ops a.tmps)=true) (t:TypeId) (x:Operand) (ho:o.op=.load t x) (hr:rowB P t 2=true) (b off:Nat) (hx:a.eval x=.pointer (some ⟨b,off,none⟩)) (v0 v1:Value)
  (h0:w.cell? ⟨b,off,none⟩=some v0) (h1:w.cell? ⟨b,off+1,none⟩=some v1) (h:wpList P ops Q rest (a.put o.dst (.agg #[v0,v1])) w):wpList P ops Q (o :: rest) a w:=by
 obtain ⟨d,hu,hd,hi⟩:=kf hr;exact wpList_step λK hK=>by
  rw [if_pos hw];exact wp_load_mid t x ho b off hx [v0,v1] d (pT h0 h1) hu hd hi (hK _ _ h)
end
section
open Go.RowKit
theorem Wd.zD {W:Wd} {major:Bool} (h:(W.cut major).1≠0):(W.cut major).2=W:=by
 unfold Wd.cut at h ⊢;split
 ·rfl
 ·rename_i h1;rw [if_neg h1] at h;split
  ·rfl
  ·rename_i h2;rw [if_neg h2] at h;exact (h rfl).elim
end
section
open Go.RowKit
theorem Rd.DL {w:World} {ao:Option Addr} {l:List Nat} (h:Rd w ao (l.map λ(k:Nat)=>Value.int .i64 (k:Int))) (i:Nat) (hi:i<l.length) :
  ∃ g o,ao=some ⟨g,o,none⟩/\g<w.heap.size/\w.cell? ⟨g,o+i,none⟩=some (.int .i64 ((l.getD i 0:Nat):Int)):=by
 obtain ⟨g,o,rfl,hg,hc⟩:=h (by intro e;simp at e;subst e;simp at hi);refine ⟨g,o,rfl,hg,?_⟩;rw [hc i (by simpa using hi)];simp [List.getD,hi]
theorem Wd.ur (W:Wd) (n:Int):(W.room n).2.T.length=W.T.length:=by
 unfold Wd.room;split
 ·unfold Wd.cut;split
  ·rfl
  ·split
   ·rfl
   ·exact Wd.ko
 ·rfl
section
variable {w:World} {W:Wd}
end
end
section
open Go.RowKit
def Az:List Int:=[0,1,1,3,7,3,7,7,1,6,3,3,6,3,7,0,0]
theorem xw (k:Nat) (hk:k<17) (w:World):(Instr.index 172 (.agg #[.int .i64 0, .int .i64 1, .int .i64 1, .int .i64 3, .int .i64 7, .int .i64 3, .int .i64 7, .int .i64 7, .int .i64 1, .int .i64 6, .int .i64 3, .int .i64 3, .int .i64 6, .int .i64 3, .int .i64 7, .int .i64 0, .int .i64 0]) (.int .i64 (k:Int))).run Tryz.prog w=.ok (.int .i64 (Az.getD k 0)) w:=by
 match k,hk with
 | 0,_=>show _=_;kernel_rfl
 | 1,_=>show _=_;kernel_rfl
 | 2,_=>show _=_;kernel_rfl
 | 3,_=>show _=_;kernel_rfl
 | 4,_=>show _=_;kernel_rfl
 | 5,_=>show _=_;kernel_rfl
 | 6,_=>show _=_;kernel_rfl
 | 7,_=>show _=_;kernel_rfl
 | 8,_=>show _=_;kernel_rfl
 | 9,_=>show _=_;kernel_rfl
 | 10,_=>show _=_;kernel_rfl
 | 11,_=>show _=_;kernel_rfl
 | 12,_=>show _=_;kernel_rfl
 | 13,_=>show _=_;kernel_rfl
 | 14,_=>show _=_;kernel_rfl
 | 15,_=>show _=_;kernel_rfl
 | 16,_=>show _=_;kernel_rfl
 | n+17,h=>omega
theorem yk:∀ n:Nat,n<17->1<=n->aP n=Az.getD n 0:=by decide
theorem CF (k:Int) (w:World):Calls Tryz.prog 54 #[.int .i64 k] w λe w'=>e=.returned (.int .i64 (aP k))/\w=w':=by
 by_cases h1:k<1
 ·have HE:=Hz (show aP k=-1 by unfold aP;repeat' (rw [if_neg (by omega)]));have d1:decide (k<1)=true:=by simpa using h1
  clear h1;go_enter Tryz.func54,Tryz.ntmps54;go_wp2_with fail;go_ret;exact ⟨eN HE.o.symm,rfl⟩
 by_cases h2:16<k
 ·have HE:=Hz (show aP k=-1 by unfold aP;repeat' (rw [if_neg (by omega)]));have d1:decide (k<1)=false:=by simp;omega
  have d2:decide (16<k)=true:=by simpa using h2
  clear h1 h2;go_enter Tryz.func54,Tryz.ntmps54;go_wp2_with fail;go_ret;exact ⟨eN HE.o.symm,rfl⟩
 ·obtain ⟨n,rfl⟩:∃ n:Nat,k=n:=⟨k.toNat,by omega⟩;have d1:decide ((n:Int)<1)=false:=by simpa using h1
  have d2:decide (16<(n:Int))=false:=by simpa using h2
  have HE:=Hz (yk n (by omega) (by omega));have hix:=xw n (by omega);clear h1 h2;go_enter Tryz.func54,Tryz.ntmps54;go_wp2_with fail;go_ret;exact ⟨eN HE.o.symm,rfl⟩
def g9 (u:Int) (j:Nat) (k:Int):Bool:=!kr u j || bO k
theorem mA (u:Int) (hu:u=0\/u=1\/u=3\/u=6\/u=7) (j:Nat) (hj:j=0\/j=1\/j=2) (bit:Int) (hbit:bit=2 ^ j) (k:Int) (b:Nat) (w:World) (hc:w.cell? ⟨b,0,none⟩=some (.int .i64 u)) (hl:b<w.heap.size) :
  Calls Tryz.prog 55 #[.int .i64 k, .int .i64 bit, .pointer (some ⟨b,0,none⟩)] w λe w'=>e=.returned (.bool (g9 u j k))/\w=w':=by
 have key:∀ z:Bool,decide (k>=0)=z->True:=λ_ _=>trivial;by_cases h0:k<0
 ·have d1:decide (0<=k)=false:=by simpa using h0
  have HR:=Hz (show bO k=false by unfold bO;rw [d1];rfl);clear h0;rcases hu with rfl | rfl | rfl | rfl | rfl <;> rcases hj with rfl | rfl | rfl <;> subst hbit <;> (go_enter Tryz.func55,Tryz.ntmps55;go_wp2_with fail;go_ret;exact ⟨de (by unfold g9;rw [HR.o];decide),rfl⟩)
 ·have d1:decide (0<=k)=true:=by simp;omega
  by_cases h1:k<12
  ·have d2:decide (k<12)=true:=by simpa using h1
   have HR:=Hz (show bO k=true by unfold bO;rw [d1,d2];rfl);clear h0 h1;rcases hu with rfl | rfl | rfl | rfl | rfl <;> rcases hj with rfl | rfl | rfl <;> subst hbit <;> (go_enter Tryz.func55,Tryz.ntmps55;go_wp2_with fail;go_ret;exact ⟨de (by unfold g9;rw [HR.o];decide),rfl⟩)
  ·have d2:decide (k<12)=false:=by simpa using h1
   have HR:=Hz (show bO k=false by unfold bO;rw [d1,d2];rfl);clear h0 h1;rcases hu with rfl | rfl | rfl | rfl | rfl <;> rcases hj with rfl | rfl | rfl <;> subst hbit <;> (go_enter Tryz.func55,Tryz.ntmps55;go_wp2_with fail;go_ret;exact ⟨de (by unfold g9;rw [HR.o];decide),rfl⟩)
end
section
open Go.RowKit
theorem ym {x:St} (h:aP x.k≠-1) {j:Nat} (hj:j<3) (hb:g9 (aP x.k) j (x.qY j)=false):bu x=1:=by
 unfold g9 at hb;simp only [Bool.or_eq_false_iff,Bool.not_eq_false'] at hb;exact vx h hj hb.1 hb.2
theorem xx {x:St} (h0:g9 (aP x.k) 0 x.r=true) (h1:g9 (aP x.k) 1 x.a=true) (h2:g9 (aP x.k) 2 x.b=true):∀ j,j<3->kr (aP x.k) j=true->bO (x.qY j)=true:=by
 intro j hj hb;have key:∀ {k:Int},g9 (aP x.k) j k=true->bO k=true:=λ{k} h=>by
  unfold g9 at h;rw [hb] at h;simpa using h
 rcases (by omega:j=0\/j=1\/j=2) with rfl | rfl | rfl
 ·exact key h0
 ·exact key h1
 ·exact key h2
theorem dF (x:St) (w:World):Calls Tryz.prog 25 #[.agg #[.int .i64 x.k, .int .i64 x.r, .int .i64 x.a, .int .i64 x.b, .int .i64 x.i, .int .i64 x.n]] w λe w'=>e=.returned (.int .i64 (bu x))/\aa (λ_=>False) w w':=by
 have HU:=Hz (λw=>CF x.k w);have HN:=Hz (λh=>vv (x:=x) h);have HR:=Hz (λ(h1:aP x.k≠-1) j (h2:j<3) h3=>ym (x:=x) h1 (j:=j) h2 h3);have HX:=Hz (λ(h:aP x.k≠-1) h0 h1 h2=>vy (x:=x) h (xx h0 h1 h2));have hv:=xh x.k;have B1:ak (w.alloc (.cells #[.int .i64 x.k, .int .i64 x.r, .int .i64 x.a, .int .i64 x.b, .int .i64 x.i, .int .i64 x.n] 26)) w.heap.size [.int .i64 x.k, .int .i64 x.r, .int .i64 x.a, .int .i64 x.b, .int .i64 x.i, .int .i64 x.n] 26:=ak.newAt _ rfl rfl;have ka:=(Kz w).alloc (.cells #[.int .i64 x.k, .int .i64 x.r, .int .i64 x.a, .int .i64 x.b, .int .i64 x.i, .int .i64 x.n] 26);obtain ⟨xk,xr,xa,xb,xi,xn⟩:=x;dsimp only at hv B1 ka;generalize hu:aP xk=u at hv;have hU:=Hz hu;dsimp only at HU HR HX HN;rw [hu] at HU HR HX HN;clear hu;go_enter Tryz.func25,Tryz.ntmps25;go_wp2_with fail;generalize w.alloc (.cells #[.int .i64 xk, .int .i64 xr, .int .i64 xa, .int .i64 xb, .int .i64 xi, .int .i64 xn] 26)=w1 at *;generalize w.heap.size=p at *;refine (HU.o _).mono ?_;rintro e _ ⟨rfl,rfl⟩;have p0:=B1.cell 0;have p1:=B1.cell 1;have p2:=B1.cell 2;have p3:=B1.cell 3;have p5:=B1.cell 5;have pl:=B1.lt;simp only [Lz,aB] at p0 p1 p2 p3 p5;have HB:=Hz B1;have K1:=Hz ka;clear B1 ka HU;by_cases hneg:u=-1
 ·have HE:=Hz (HN.o hneg);subst hneg;clear hv;go_wp2_with fail;go_ret;exact ⟨eN HE.o.symm,K1.o.alloc _⟩
 ·have hd:decide (u<0)=false:=by simp;omega
  have hu5:u=0\/u=1\/u=3\/u=6\/u=7:=by omega
  have HNN:=Hz hneg;have hR:=HR.o hneg;have hX:=HX.o hneg;have HR:=Hz hR;have HX:=Hz hX;have HU5:=Hz hu5;clear hneg hv hR hX hu5;go_upto_region 4 with (fail)
  have ka:=(Kz w1).alloc (.cells #[.int .i64 u] 3);have hub:ak (w1.alloc (.cells #[.int .i64 u] 3)) w1.heap.size [.int .i64 u] 3:=ak.newAt _ rfl rfl;have HB2:=Hz (ka.au HB.o (λh=>h));have K2:=Hz (K1.o.trans ka);clear p0 p1 p2 p3 p5 pl ka HB K1;generalize w1.alloc (.cells #[.int .i64 u] 3)=w2 at *;generalize w1.heap.size=q at *;have p0:=HB2.o.cell 0;have p1:=HB2.o.cell 1;have p2:=HB2.o.cell 2;have p3:=HB2.o.cell 3;have p5:=HB2.o.cell 5;have pl:=HB2.o.lt;simp only [Lz,aB] at p0 p1 p2 p3 p5;have q0:=hub.cell 0;have ql:=hub.lt;simp only [Lz] at q0;have C0:=Hz (mA u HU5.o 0 (by decide) 1 rfl xr q w2 q0 ql);have C1:=Hz (mA u HU5.o 1 (by decide) 2 rfl xa q w2 q0 ql);have C2:=Hz (mA u HU5.o 2 (by decide) 4 rfl xb q w2 q0 ql);clear hub q0 ql;obtain ⟨z0,h0⟩:∃ z,g9 u 0 xr=z:=⟨_,rfl⟩;obtain ⟨z1,h1⟩:∃ z,g9 u 1 xa=z:=⟨_,rfl⟩;obtain ⟨z2,h2⟩:∃ z,g9 u 2 xb=z:=⟨_,rfl⟩;rw [h0] at C0;rw [h1] at C1;rw [h2] at C2;have H0:=Hz h0;have H1:=Hz h1;have H2:=Hz h2;clear h0 h1 h2;go_wp2_with fail;refine C0.o.mono ?_;rintro e _ ⟨rfl,rfl⟩;cases z0
  ·have HE:=Hz (HR.o 0 (by decide) H0.o);go_wp2_with fail;go_ret;exact ⟨eN HE.o.symm,K2.o⟩
  go_wp2_with fail;refine C1.o.mono ?_;rintro e _ ⟨rfl,rfl⟩;cases z1
  ·have HE:=Hz (HR.o 1 (by decide) H1.o);go_wp2_with fail;go_ret;exact ⟨eN HE.o.symm,K2.o⟩
  go_wp2_with fail;refine C2.o.mono ?_;rintro e _ ⟨rfl,rfl⟩;cases z2
  ·have HE:=Hz (HR.o 2 (by decide) H2.o);go_wp2_with fail;go_ret;exact ⟨eN HE.o.symm,K2.o⟩
  have HX2:=Hz (HX.o H0.o H1.o H2.o);clear HX HR C0 C1 C2;by_cases k1:xk=1
  ·subst k1;by_cases n2:xn < -1152921504606846976
   ·have HE:=Hz (show bu ⟨1,xr,xa,xb,xi,xn⟩=1 by rw [HX2.o,if_pos ⟨rfl,λh=>by unfold cG at h;omega⟩]);have d2:decide (xn < -1152921504606846976)=true:=by simpa using n2
    clear n2 HX2;go_wp2_with fail;go_ret;exact ⟨eN HE.o.symm,K2.o⟩
   have d2:decide (xn < -1152921504606846976)=false:=by simpa using n2
   by_cases n1:1152921504606846976<=xn
   ·have HE:=Hz (show bu ⟨1,xr,xa,xb,xi,xn⟩=1 by rw [HX2.o,if_pos ⟨rfl,λh=>by unfold cG at h;omega⟩]);have d1:decide (1152921504606846976<=xn)=true:=by simpa using n1
    clear n1 n2 HX2;go_wp2_with fail;go_ret;exact ⟨eN HE.o.symm,K2.o⟩
   ·have HE:=Hz (show bu ⟨1,xr,xa,xb,xi,xn⟩=0 by rw [HX2.o,if_neg (λh=>h.2 (by unfold cG;omega)),if_neg (λh=>by omega)]);have d1:decide (1152921504606846976<=xn)=false:=by simpa using n1
    clear n1 n2 HX2;go_wp2_with fail;go_ret;exact ⟨eN HE.o.symm,K2.o⟩
  ·have e1:(xk == 1)=false:=by simpa using k1
   by_cases k5:xk=5
   ·subst k5;by_cases n1:xn<0
    ·have HE:=Hz (show bu ⟨5,xr,xa,xb,xi,xn⟩=1 by rw [HX2.o,if_neg (λh=>by omega),if_pos ⟨rfl,λh=>by omega⟩]);have d1:decide (xn<0)=true:=by simpa using n1
     clear n1 HX2 k1;go_wp2_with fail;go_ret;exact ⟨eN HE.o.symm,K2.o⟩
    have d1:decide (xn<0)=false:=by simpa using n1
    by_cases n2:12<xn
    ·have HE:=Hz (show bu ⟨5,xr,xa,xb,xi,xn⟩=1 by rw [HX2.o,if_neg (λh=>by omega),if_pos ⟨rfl,λh=>by omega⟩]);have d2:decide (12<xn)=true:=by simpa using n2
     clear n1 n2 HX2 k1;go_wp2_with fail;go_ret;exact ⟨eN HE.o.symm,K2.o⟩
    ·have HE:=Hz (show bu ⟨5,xr,xa,xb,xi,xn⟩=0 by rw [HX2.o,if_neg (λh=>by omega),if_neg (λh=>h.2 (by omega))]);have d2:decide (12<xn)=false:=by simpa using n2
     clear n1 n2 HX2 k1;go_wp2_with fail;go_ret;exact ⟨eN HE.o.symm,K2.o⟩
   ·have e5:(xk == 5)=false:=by simpa using k5
    have HE:=Hz (show bu ⟨xk,xr,xa,xb,xi,xn⟩=0 by rw [HX2.o,if_neg (λh=>k1 h.1),if_neg (λh=>k5 h.1)]);clear k1 k5 HX2;go_wp2_with fail;go_ret;exact ⟨eN HE.o.symm,K2.o⟩
end
section
open Go.RowKit
def WH.In (h:WH) (k:Nat):Prop:=(k=h.pa\/k=h.g)\/k=h.cb
def ku (w:World) (h:WH) (w':World) (O:Wo):Prop:=bh w' h O/\aa h.In w w'
theorem WH.In.own {h:WH} {k:Nat} (hk:h.In k):h.Own k:=by
 rcases hk with hk | hk
 ·exact .inr (.inl hk)
 ·exact .inr (.inr (.inl (.inr hk)))
section
variable {w w':World} {h:WH} {O O':Wo}
theorem ku.bZ (H:bh w h O) {A:Ar} (t:aU w h.pa h.g w' A) (hn:A.nur=O.ar.nur):ku w h w' { O with ar:=A }:=
 ⟨H.bZ t hn,t.k.mono (λk _ hk=>.inl hk)⟩
theorem Bm (x i y:Int) (H:bh w h O) (hy:bm y) :
  Calls Tryz.prog 34 #[.pointer (some ⟨h.p,0,none⟩), .int .i64 x, .int .i64 i, .int .i64 y] w λe w'=>
   e=.returned (.int .i64 (O.set x i y).1)/\ku w h w' (O.set x i y).2:=by
 have HH:=Hz H;have HY:=Hz hy;have pl:=H.hp.lt;have h4:=H.ok.ha.h4;have HN:=Hz (show 0<=(O.ar.nur:Int)/\(O.ar.nur:Int)<=1000000 by have:=H.ok.ha.h1;have:=H.ok.ha.h2;have:=H.ok.ha.h3;omega);by_cases hc:(O.ar.get x i).2=0
 ·have HE:=Hz (Wo.v7 (y:=y) hc);obtain ⟨p1,-,p2,p3,p4,p5,-⟩:=sK H.ok.ha hc;have p6:=(O.ar.aQ (x/4)).2;have p7:i<12:=by omega
  have P1:=Hz p1;have HC:=Hz hc;clear H hy hc p1 p5 p6;go_enter Tryz.func34,Tryz.ntmps34;go_wp2_with fail;refine (qT x i HH.o).mono ?_;rintro e w1 ⟨rfl,rfl⟩;rw [HC.o];go_wp2_with fail;refine (dH x _ P1.o).mono ?_;rintro e w1 ⟨rfl,rfl⟩;obtain ⟨c0,-,-,-⟩:=HH.o.eJ;go_wp2_with fail;refine (gR (x/4+1+i) y _ HH.o.ha HY.o).mono ?_;rintro e w1 ⟨rfl,ht⟩;have HT:=Hz ht.k;have HW:=Hz (HH.o.bZ ht (O.ar.cZ _ _));have HTO:=Hz (ku.bZ HH.o ht (O.ar.cZ _ _));clear c0 pl ht;generalize hA:O.ar.store (x/4+1+i) y=A at *;have HA:=Hz hA;clear hA;obtain ⟨c0,c1,-,-⟩:=HW.o.eJ;have pl:=HW.o.hp.lt;by_cases hy4:y%4=1
  ·have HY4:=Hz hy4;cases hyo:A.aA (y/4)
   ·have HF:=Hz (show ¬ (y%4=1/\A.aA (y/4)=true/\A.aK (x/4)=true) by rw [hyo];exact λh=>by cases h.2.1);clear hy4;go_wp2_with fail;refine (dH y _ HY4.o).mono ?_;rintro e w2 ⟨rfl,rfl⟩;go_wp2_with fail;refine (cT (y/4) _ HW.o.ha).mono ?_;rintro e w2 ⟨rfl,rfl⟩;rw [hyo];go_wp2_with fail;go_ret;refine ⟨by rw [HE.o];rfl,?_⟩;rw [HE.o,if_neg HF.o];exact HTO.o
   ·cases hol:A.aK (x/4)
    ·have HF:=Hz (show ¬ (y%4=1/\A.aA (y/4)=true/\A.aK (x/4)=true) by rw [hol];exact λh=>by cases h.2.2);clear hy4;go_wp2_with fail;refine (dH y _ HY4.o).mono ?_;rintro e w2 ⟨rfl,rfl⟩;go_wp2_with fail;refine (cT (y/4) _ HW.o.ha).mono ?_;rintro e w2 ⟨rfl,rfl⟩;rw [hyo];go_wp2_with fail;refine (iR (x/4) _ HW.o.ha).mono ?_;rintro e w2 ⟨rfl,rfl⟩;rw [hol];go_wp2_with fail;go_ret;refine ⟨by rw [HE.o];rfl,?_⟩;rw [HE.o,if_neg HF.o];exact HTO.o
    ·have HF:=Hz (show (y%4=1/\A.aA (y/4)=true/\A.aK (x/4)=true) from ⟨hy4,hyo,hol⟩);clear hy4;go_wp2_with fail;refine (dH y _ HY4.o).mono ?_;rintro e w2 ⟨rfl,rfl⟩;go_wp2_with fail;refine (cT (y/4) _ HW.o.ha).mono ?_;rintro e w2 ⟨rfl,rfl⟩;rw [hyo];go_wp2_with fail;refine (iR (x/4) _ HW.o.ha).mono ?_;rintro e w2 ⟨rfl,rfl⟩;rw [hol];go_wp2_with fail;have hcc:=HW.o.hc;have hcl:=HW.o.ok.hc;have hnn:A.nur=O.ar.nur:=by rw [<-HA.o];exact O.ar.cZ _ _
     refine (xW h.pc h.cb A.nur (x/4) O.cd _ hcc (by rw [hnn];exact HN.o.1) (by rw [hnn];exact HN.o.2) (by omega) (by omega) (by simpa using Za hcl (by decide))).mono ?_;rintro e w2 ⟨rfl,hc2,hk2⟩;have HTO2:=Hz (show ku w h w2 { O with ar:=A,cd:=g7 O.ar.nur O.cd (x/4) } by
      have:=HW.o.cards hc2 (by rw [ig];exact hcl) hk2;rw [hnn] at this
      exact ⟨this,(HT.o.mono (λk _ hk=>.inl hk)).then hk2 (λk hk=>.inl (.inr hk))⟩)
     clear hcc hcl hnn hc2 hk2;go_wp2_with fail;go_ret;refine ⟨by rw [HE.o];rfl,?_⟩;rw [HE.o,if_pos HF.o];exact HTO2.o
  ·have HY4:=Hz hy4;have HF:=Hz (show ¬ (y%4=1/\A.aA (y/4)=true/\A.aK (x/4)=true) from λh=>hy4 h.1);clear hy4;go_wp2_with fail;refine (lV y _ HY4.o).mono ?_;rintro e w2 ⟨rfl,rfl⟩;go_wp2_with fail;go_ret;refine ⟨by rw [HE.o];rfl,?_⟩;rw [HE.o,if_neg HF.o];exact HTO.o
 ·have HE:=Hz (Wo.x5 (y:=y) hc);have HTC:=Hz (qT x i H);obtain ⟨⟨a,c⟩,hT⟩:∃ t,O.ar.get x i=t:=⟨_,rfl⟩;rw [hT] at hc HE HTC;dsimp only at hc HE HTC;have hcb:(c != 0)=true:=by simpa using hc
  clear H hc hT;go_enter Tryz.func34,Tryz.ntmps34;go_wp2_with fail;refine HTC.o.mono ?_;rintro e w1 ⟨rfl,rfl⟩;go_wp2_with fail;go_ret;refine ⟨by rw [HE.o];rfl,?_⟩;rw [HE.o];exact ⟨HH.o,aa.refl _ _⟩
end
end
section
open Go.RowKit
section
variable {w w':World} {h:WH} {O:Wo}
theorem bh.roots (H:bh w h O):∃ g o cap,h.ro=.slice (some ⟨g,o,none⟩) O.rt.length cap/\aq h.ro g/\g<w.heap.size/\w.cell? ⟨h.p,3,none⟩=some (.slice (some ⟨g,o,none⟩) O.rt.length cap)/\(∀ k,w.frozen? ⟨g,k,none⟩=false) /\
  ∀ k,k<O.rt.length->w.cell? ⟨g,o+k,none⟩=some (.int .i64 (O.rt.getD k 0)):=by
 obtain ⟨ao,cap,e,hrd,-,-⟩:=H.hr.rd;have h12:=H.ok.h12;obtain ⟨g,o,rfl,hg,hc⟩:=hrd (by intro e;have:=congrArg List.length e;rw [Zp,h12] at this;cases this);have hown:aq h.ro g:=by rw [e];rfl
 obtain ⟨-,cur,hb⟩:=H.hr.own hown;refine ⟨g,o,cap,e,hown,hg,by have:=H.eJ.2.2.2;rw [e] at this;exact this,λk=>hb.free k,λk hk=>?_⟩;rw [hc k (by simpa using hk)];simp [List.getD,hk]
theorem bh.r7 (H:bh w h O) {g o cap k:Nat} {x:Int} (e:h.ro=.slice (some ⟨g,o,none⟩) O.rt.length cap) (hk:k<O.rt.length) (hx:bm x) :
  bh (w.setCell ⟨g,o+k,none⟩ (.int .i64 x)) h { O with rt:=O.rt.set k x }/\aa (aq h.ro) w (w.setCell ⟨g,o+k,none⟩ (.int .i64 x)):=by
 have hown:aq h.ro g:=by rw [e];rfl
 have kk:aa (aq h.ro) w (w.setCell ⟨g,o+k,none⟩ (.int .i64 x)):=(aa.refl _ _).setCell (p:=⟨g,o+k,none⟩) (.inl hown) _;refine ⟨⟨kk.au H.hp (H.kN H.hp (by decide)),H.ha.ab kk (H.kN H.ha.hp (by decide)) H.ap,H.hc.ab kk (H.kN H.hc.hp (by decide)) (H.kN H.hc.hq (by decide)),H.hs.ab kk (λb hb=>?_),?_,H.ap, { H.ok with h12:=by simpa using H.ok.h12,hR:=λy hy=>?_ }⟩,kk⟩
 ·obtain ⟨c,T,hc,hT⟩:=H.hs.cM hb;rcases hT with rfl | rfl
  ·exact H.kN hc (by decide)
  ·exact H.kN hc (by decide)
 ·have hs:=H.hr;rw [e] at hs ⊢;have:=hs.set (j:=k) (u:=.int .i64 x) (by omega)
  show Sl _ _ _ _ (O.rt.set k x).length ((O.rt.set k x).map _)
  rw [List.length_set,List.map_set];exact this
 ·rcases List.mem_or_eq_of_mem_set hy with h1 | rfl
  ·exact H.ok.hR y h1
  ·exact hx
end
end
section
section
variable {W:Wd}
def Wd.all (W:Wd):List Int:=W.idx false ++ W.idx true
theorem Wd.jO {i:Int}:i ∈ W.all↔W.live i:=by
 unfold Wd.all;rw [List.mem_append,Wd.dr,Wd.dr];constructor
 ·rintro (h | h) <;> exact h.1
 ·intro h;cases ho:(W.th i).aK
  ·exact .inl ⟨h,rfl⟩
  ·exact .inr ⟨h,rfl⟩
theorem Wd.wE (h:W.ok) {i:Int} (hi:W.live i) {v:Vl} (hv:v ∈ (W.gr i).2) (h3:v.1=3):W.live v.2:=by
 unfold Wd.gr at hv;dsimp only at hv;rcases Zk.1 hv with h1 | h1
 ·exact Wd.aY (h.tv i hi v h1) h3
 ·split at h1
  ·obtain ⟨x,hx,rfl⟩:=Zi.1 h1;unfold dY at hx;obtain ⟨e,he,rfl⟩:=Zi.1 hx;exact (h.wv e (Zo.1 he).1).2.2
  ·cases h1
theorem Wd.sJ (h:W.ok):vX W.gr W.all:=⟨λi hi v hv h3=>Wd.jO.2 (Wd.wE h (Wd.jO.1 hi) hv h3)⟩
theorem Wd.r8 (h:W.ok):W.all.length<=1300:=by
 have key:∀ b,((W.idx b).length:Int)<=((W.idx b).map λi=>(W.th i).words).sum:=λb=>by
  generalize W.idx b=l
  induction l with
  | nil=>simp
  | cons a l ih=>
   have hw:(W.th a).words=1+((W.th a).fs.length:Int):=rfl;simp only [List.length_cons,Zs,List.sum_cons];omega
 have h1:=key false;have h2:=key true;rw [Wd.lg] at h1 h2;have e1:(eu W.T λt=>!t.dead && (t.aK == false))=W.aA:=by unfold Wd.aA;congr 1;funext t;cases t.aK <;> rfl
 have e2:(eu W.T λt=>!t.dead && (t.aK == true))=W.cD:=by unfold Wd.cD;congr 1;funext t;cases t.aK <;> rfl
 rw [e1] at h1;rw [e2] at h2;have:=h.uy;have:=h.uo;have:=h.m2;have:=h.g2;unfold Wd.all;rw [Zq];omega
def Wd.met (W:Wd):List Int:=lI W.gr W.roots
structure Seen (W:Wd):Prop where
 eq:W.view=(W.roots.map (gX W.met),W.met.map λx=>rZ W.met (W.gr x))
 nd:W.met.Nodup
 rt:∀ v ∈ W.roots,v.1=3->v.2 ∈ W.met
 fd:∀ x ∈ W.met, ∀ v ∈ (W.gr x).2,v.1=3->v.2 ∈ W.met
 led:∀ (k:Nat) (x:Int),W.met[k]? = some x->((3,x):Vl) ∈ W.roots\/∃ (j:Nat) (y:Int),j<k/\W.met[j]? = some y/\((3,x):Vl) ∈ (W.gr y).2
 lv:∀ x ∈ W.met,W.live x
theorem Wd.seen (h0:W.ok):Seen W:=by
 have h:=h0;have hr:∀ v ∈ W.roots,v.1=3->v.2 ∈ W.all:=λv hv h3=>Wd.jO.2 (Wd.aY (h.rv v hv) h3);obtain ⟨h1,h2,h3,h4,h5⟩:=xm (Wd.sJ h) (by have:=Wd.r8 h;unfold deep;omega) hr;refine ⟨h1,h2,h3,h4,h5,?_⟩;have key:∀ (k:Nat) (x:Int),W.met[k]? = some x->W.live x:=by
  intro k
  induction k using Nat.strongRecOn with
  | _ k ih=>
   intro x hx;rcases h5 k x hx with h | ⟨j,y,hj,hy,hm⟩
   ·exact Wd.aY (h0.rv _ h) rfl
   ·exact Wd.wE h0 (ih j hj y hy) hm rfl
 intro x hx;obtain ⟨k,hk,rfl⟩:=List.mem_iff_getElem.1 hx;exact key k _ (Le hk)
theorem Seen.lens (S:Seen W) (h:W.ok):W.view.1.length=12/\W.view.2.length<=1300/\∀ n ∈ W.view.2,n.2.length<=100:=by
 rw [S.eq];refine ⟨by simpa using h.hr,?_,λn hn=>?_⟩
 ·dsimp only;rw [Zp];have hsub:∀ x ∈ W.met,x ∈ W.all:=λx hx=>Wd.jO.2 (S.lv x hx);have h1:=pA (f:=λ_=>1) (λ_=>by decide) S.nd hsub;have e:∀ l:List Int,(l.map λ_=>(1:Int)).sum=l.length:=λl=>by
   induction l with
   | nil=>rfl
   | cons a l ih=>simp only [Zs,List.sum_cons,ih,List.length_cons];omega
  rw [e,e] at h1;have:=Wd.r8 h;omega
 ·obtain ⟨x,hx,rfl⟩:=Zi.1 hn;have hl:=S.lv x hx;have h1:=(bL (h.tk x hl)).2.2.2;have h2:=h.hq;have h3:(dY W.wait x).length<=W.wait.length:=by unfold dY;rw [Zp];exact List.length_filter_le _ _
  unfold rZ Wd.gr;simp only [Zp,Zq];split
  ·rw [Zp];omega
  ·simp;omega
end
end
section
open Go.RowKit
def l6 (x:Int):Nat:=(x%18446744073709551616).toNat
theorem ny (x:Int):IntKind.u64.wrap x=(l6 x:Int):=by
 unfold l6;rw [Int.toNat_of_nonneg (Int.emod_nonneg _ (by decide))]
 rfl
theorem mH {m k:Nat} {x y:Value} (hx:x=.int .i64 ((k+1:Nat):Int)) (hy:y=.int .i64 (k:Int)) (h:k<m):m-(intOf x).toNat<m-(intOf y).toNat:=by
 subst hx;subst hy;simp [intOf];omega
section
variable {w0 w w':World} {p:Nat} {h:WH} {O O':Wo}
end
end
section
structure Gs where
 lv:List Bool
 st:List Int
 ep:List Int
def aS (s:Gs) (x:Int):Bool:=!decide (x%4=1) || aw s.lv (x/4)
def cP (s:Gs) (x:Int):Gs:=if aS s x=true then s else ⟨s.lv.set (x/4).toNat true,s.st ++ [x/4],s.ep⟩
def eL (s:Gs) (l:List Int):Gs:=l.foldl cP s
def jy (A:Ar) (s:Gs) (i:Int):Gs:=
 if (A.ah i).1=1\/(A.ah i).1=2 then eL s (A.fields i)
 else if (A.ah i).1=3 then cP s (A.load (i+2))
 else if (A.ah i).1=4 then { s with ep:=s.ep ++ [i] }
 else s
def i7 (A:Ar) (s:Gs):Gs:=jy A { s with st:=s.st.dropLast } (s.st.getLastD 0)
def jPops (A:Ar):Nat->Gs->Gs
 | 0,s=>s
 | n+1,s=>if s.st=[] then s else jPops A n (i7 A s)
def fL (A:Ar) (s:Gs) (i:Int):Gs:=if aS s (A.load (i+1))=true then cP s (A.load (i+2)) else s
def iz (A:Ar) (s:Gs) (l:List Int):Gs:=l.foldl (fL A) s
def lN (s:Gs) (x:Int):Gs × Int:=(cP s x,x)
def dv (A:Ar) (q:List (Int × Int)) (s:Gs):Gs:=(wakeM aS lN (iz A (jPops A 2000 s) (jPops A 2000 s).ep) q).1
def eM (A:Ar) (q:List (Int × Int)):Nat->Gs->Gs
 | 0,s=>s
 | n+1,s=>if (dv A q s).st=[] then dv A q s else eM A q n (dv A q s)
def iV (A:Ar) (s:Gs) (q:List (Int × Int)) (x:Int):Gs × List (Int × Int) × Int:=(eM A q 2000 (cP s x),q,x)
def oL (O:Wo):Gs:=eM O.ar O.wt 2000 (eL ⟨List.replicate O.ar.ws.length false,[],[]⟩ O.rt)
def ck (O:Wo):Gs × List (Int × Int) × List It:=dw aS (iV O.ar) (oL O) O.rg O.wt
def fM (s:Gs) (x:Int):Int:=x
def jPlan (A:Ar) (lv:List Bool) (base:Int):List Int->List Int × Int->List Int × Int
 | [],t=>t
 | i :: l,t=>jPlan A lv base l (if aw lv i=true then (t.1.set i.toNat (base+t.2),t.2+(1+(A.ah i).2.1)) else t)
def cB (f:List Int) (x:Int):Int:=if x%4=1 then iq (f.getD (x/4).toNat 0) else x
def jz (s:Gs) (f:List Int) (b:Bool) (A:Ar) (i:Int):Ar:=A.store i (if (b || !aS s (A.load i))=true then 3 else cB f (A.load i))
def jTurnN (s:Gs) (f:List Int) (b:Bool):Nat->Ar->Int->Ar
 | 0,A,_=>A
 | n+1,A,i=>jTurnN s f b n (jz s f b A i) (i+1)
def dZ (s:Gs) (f:List Int) (A:Ar) (i:Int):Ar:=jTurnN s f (decide ((A.ah i).1=4) && !aS s (A.load (i+1))) (A.ah i).2.1.toNat A (i+1)
def bx (f:List Int) (A:Ar) (i:Int):Ar:=
 { A with ws:=lay A.ws (f.getD i.toNat 0).toNat ((A.ws.drop i.toNat).take (1+(A.ah i).2.1).toNat) }
def lO (O:Wo):List Int:=O.ar.aO.2 ++ O.ar.aO.1
def bW (O:Wo):List Int:=(lO O).filter λi=>aw (ck O).1.lv i
def dM (O:Wo):List Int × Int:=jPlan O.ar (ck O).1.lv O.ar.nur (lO O) (List.replicate O.ar.ws.length 0,0)
def cz (f:List Int) (e:Int × Int):Int × Int:=(cB f e.1,cB f e.2)
def dS (O:Wo):Ar:=(bW O).foldl (dZ (ck O).1 (dM O).1) O.ar
def jA (O:Wo):Ar:=(bW O).foldl (bx (dM O).1) (dS O)
def ed (O:Wo):Int × Wo:=
 if (dM O).2 > ((O.ar.grn:Int)-O.ar.nur)+((O.ar.ws.length:Int)-O.ar.grn) then (3,O)
 else (0,⟨((jA O).cut (dM O).2.toNat).clear,O.cd.map λ_=>false,O.rt.map (cB (dM O).1),
  (bq aS fM (ck O).1 (ck O).2.2).map (cz (dM O).1),(bt aS fM (ck O).1 (ck O).2.1).map (cz (dM O).1)⟩)
def bS (l:List Bool):Nat:=(l.filter λb=>!b).length
theorem nz:∀ {l:List Bool} {i:Nat},i<l.length->l.getD i false=false->bS (l.set i true)+1=bS l
 | [],i,h,_=>by simp at h
 | b :: l,0,_,h=>by
  have hb:b=false:=by simpa using h
  subst hb;simp [bS]
 | b :: l,i+1,h,hv=>by
  have:=nz (l:=l) (i:=i) (by simpa using h) (by simpa using hv);unfold bS at *;rw [Zv];cases b <;> simp [List.filter_cons] <;> omega
theorem Bn (l:List Bool):bS l<=l.length:=List.length_filter_le _ _
def jM (s:Gs):Nat:=s.st.length+bS s.lv
theorem nA:∀ (q:List (Int × Int)) (s:Gs),(wakeM aS lN s q).2.1=q
 | [],s=>rfl
 | e :: q,s=>by
  unfold wakeM;split
  ·simp only [nA q];rfl
  ·simp only [nA q]
def wF (W:Wd) (φ:Int->Int) (s:Gs) (S:Int->Prop) (i:Int):Prop:=
 (((W.th i).k=1\/(W.th i).k=2)->∀ v ∈ (W.th i).fs,v.1=3->S v.2)/\((W.th i).k=3->∀ v,(W.th i).fs[1]? = some v->v.1=3->S v.2)/\((W.th i).k=4->φ i ∈ s.ep)
structure Mk (O:Wo) (W:Wd) (φ:Int->Int) (Al Ex:Int->Prop) (s:Gs) (S:Int->Prop):Prop where
 len:s.lv.length=O.ar.ws.length
 at_:∀ p,aw s.lv p=true↔∃ i,S i/\φ i=p
 sl:∀ i,S i->W.live i
 al:∀ i,S i->Al i
 st:∀ p ∈ s.st, ∃ i,S i/\φ i=p
 ep:∀ p ∈ s.ep, ∃ i,S i/\(W.th i).k=4/\φ i=p
 done:∀ i,S i->Ex i\/φ i ∈ s.st\/wF W φ s S i
section
variable {O:Wo} {W:Wd} {φ:Int->Int} {s s':Gs} {S S' Al Ex:Int->Prop} {qw:List (Int × Int)}
theorem Mk.alive (R:aI O W φ) (M:Mk O W φ Al Ex s S) {v:Vl} (hv:W.cI v):aS s (az φ v)=true↔(v.1=3->S v.2):=by
 unfold aS;by_cases h3:v.1=3
 ·have hl:=Wd.aY hv h3;rw [bK φ h3,show (4*φ v.2+1)%4=1 by omega,show (4*φ v.2+1)/4=φ v.2 by omega];simp only [decide_true,Bool.not_true,Bool.false_or];rw [M.at_];constructor
  ·rintro ⟨i,hi,e⟩ _;rw [<-R.inj i v.2 (M.sl i hi) hl e];exact hi
  ·intro h;exact ⟨_,h h3,rfl⟩
 ·have:¬ az φ v%4=1:=λh=>h3 ((fX hv).1 h);simp [this,h3]
theorem Mk.eq (M:Mk O W φ Al Ex s S) (h:∀ k,S k↔S' k):Mk O W φ Al Ex s S':=by
 have e:S=S':=funext λk=>propext (h k);rw [<-e];exact M
structure MX (s:Gs) (S:Int->Prop) (s':Gs) (S':Int->Prop):Prop where
 sub:∀ k,S k->S' k
 ep:∀ p ∈ s.ep,p ∈ s'.ep
 m:jM s'=jM s
 f:bS s'.lv<=bS s.lv
theorem MX.refl:MX s S s S:=⟨λ_ h=>h,λ_ h=>h,rfl,Zb _⟩
theorem MX.trans {s2:Gs} {S2:Int->Prop} (h:MX s S s' S') (k:MX s' S' s2 S2):MX s S s2 S2:=
 ⟨λi hi=>k.sub i (h.sub i hi),λp hp=>k.ep p (h.ep p hp),k.m.trans h.m,Za k.f h.f⟩
theorem Mk.mark (R:aI O W φ) (M:Mk O W φ Al Ex s S) {v:Vl} (hv:W.cI v) (ha:v.1=3->Al v.2) :
  Mk O W φ Al Ex (cP s (az φ v)) (λk=>S k\/(v.1=3/\k=v.2))/\MX s S (cP s (az φ v)) (λk=>S k\/(v.1=3/\k=v.2))/\(cP s (az φ v)).ep=s.ep /\
   ((∀ p ∈ s.st,p ∈ (cP s (az φ v)).st)/\∀ p ∈ (cP s (az φ v)).st,p ∈ s.st\/∃ k,¬ S k/\v.1=3/\k=v.2):=by
 by_cases hc:aS s (az φ v)=true
 ·have e:cP s (az φ v)=s:=if_pos hc;have h:=(M.alive R hv).1 hc;rw [e];refine ⟨M.eq (λk=>⟨.inl,?_⟩),⟨λk h=>.inl h,λ_ h=>h,rfl,Zb _⟩,rfl,λ_ h=>h,λ_ h=>.inl h⟩;rintro (h' | ⟨h',rfl⟩)
  ·exact h'
  ·exact h h'
 ·have hn:¬ (v.1=3->S v.2):=λh=>hc ((M.alive R hv).2 h);have h3:v.1=3:=Decidable.byContradiction λh=>hn (λh'=>(h h').elim);have hs:¬ S v.2:=λh=>hn (λ_=>h);have hl:=Wd.aY hv h3;have e:cP s (az φ v)=⟨s.lv.set (φ v.2).toNat true,s.st ++ [φ v.2],s.ep⟩:=by
   unfold cP;rw [if_neg hc,bK φ h3,show (4*φ v.2+1)/4=φ v.2 by omega]
  have hp:=R.place hl;have hset:∀ p,aw (s.lv.set (φ v.2).toNat true) p=true↔p=φ v.2\/aw s.lv p=true:=λp=>gU hp.1 (by rw [M.len];exact hp.2.2);have hold:s.lv.getD (φ v.2).toNat false=false:=by
   cases h:s.lv.getD (φ v.2).toNat false
   ·rfl
   ·rw [c8 hp.1] at h;obtain ⟨i,hi,e⟩:=(M.at_ _).1 h;rw [R.inj i v.2 (M.sl i hi) hl e] at hi;exact (hs hi).elim
  rw [e];refine ⟨⟨by simpa using M.len,λp=>?_,λi hi=>?_,λi hi=>?_,λp hp=>?_,λp hp=>?_,λi hi=>?_⟩,⟨λk h=>.inl h,λ_ h=>h,?_,?_⟩,rfl,λp hp=>by simp [hp],λp hp=>?_⟩
  ·dsimp only;rw [hset,M.at_];constructor
   ·rintro (h | ⟨i,hi,e⟩)
    ·exact ⟨v.2, .inr ⟨h3,rfl⟩,h.symm⟩
    ·exact ⟨i, .inl hi,e⟩
   ·rintro ⟨i,hi | ⟨_,rfl⟩,e⟩
    ·exact .inr ⟨i,hi,e⟩
    ·exact .inl e.symm
  ·rcases hi with h | ⟨_,rfl⟩
   ·exact M.sl i h
   ·exact hl
  ·rcases hi with h | ⟨h,rfl⟩
   ·exact M.al i h
   ·exact ha h
  ·rcases Zk.1 hp with h | h
   ·obtain ⟨i,hi,e⟩:=M.st p h;exact ⟨i, .inl hi,e⟩
   ·rw [List.mem_singleton.1 h];exact ⟨v.2, .inr ⟨h3,rfl⟩,rfl⟩
  ·obtain ⟨i,hi,e⟩:=M.ep p hp;exact ⟨i, .inl hi,e⟩
  ·rcases hi with h | ⟨_,rfl⟩
   ·rcases M.done i h with h1 | h1 | h1
    ·exact .inl h1
    ·exact .inr (.inl (by simp [h1]))
    ·exact .inr (.inr ⟨λhk v hv h3=>.inl (h1.1 hk v hv h3),λhk v hv h3=>.inl (h1.2.1 hk v hv h3),h1.2.2⟩)
   ·exact .inr (.inl (by simp))
  ·have:=nz (l:=s.lv) (i:=(φ v.2).toNat) (by rw [M.len];omega) hold;simp only [jM,Zq,List.length_cons,List.length_nil];omega
  ·have:=nz (l:=s.lv) (i:=(φ v.2).toNat) (by rw [M.len];omega) hold;dsimp only;omega
  ·rcases Zk.1 hp with h | h
   ·exact .inl h
   ·exact .inr ⟨v.2,hs,h3,rfl⟩
theorem Mk.marks (R:aI O W φ):∀ (l:List Vl) {s:Gs} {S:Int->Prop},Mk O W φ Al Ex s S->(∀ v ∈ l,W.cI v/\(v.1=3->Al v.2)) ->
  ∃ S',Mk O W φ Al Ex (eL s (l.map (az φ))) S'/\MX s S (eL s (l.map (az φ))) S'/\(eL s (l.map (az φ))).ep=s.ep/\(∀ v ∈ l,v.1=3->S' v.2)/\∀ k,S' k->S k\/((3,k):Vl) ∈ l
 | [],s,S,M,_=>⟨S,M,MX.refl,rfl,by simp,λk h=>.inl h⟩
 | v :: l,s,S,M,hl=>by
  have hv:=hl v (by simp);obtain ⟨M1,X1,e1,_,_⟩:=M.mark R hv.1 hv.2;obtain ⟨S2,M2,X2,e2,k2,b2⟩:=Mk.marks R l M1 (λu hu=>hl u (by simp [hu]));have e:eL s ((v :: l).map (az φ))=eL (cP s (az φ v)) (l.map (az φ)):=rfl;rw [e];refine ⟨S2,M2,X1.trans X2,e2.trans e1,λu hu h3=>?_,λk hk=>?_⟩
  ·rcases Zm.1 hu with rfl | hu
   ·exact X2.sub _ (.inr ⟨h3,rfl⟩)
   ·exact k2 u hu h3
  ·rcases b2 k hk with (h | ⟨h,rfl⟩) | h
   ·exact .inl h
   ·exact .inr (by rw [<-h];simp)
   ·exact .inr (by simp [h])
theorem wF.mono {i:Int} (h:wF W φ s S i) (hS:∀ k,S k->S' k) (he:∀ p ∈ s.ep,p ∈ s'.ep):wF W φ s' S' i:=
 ⟨λhk v hv h3=>hS _ (h.1 hk v hv h3),λhk v hv h3=>hS _ (h.2.1 hk v hv h3),λhk=>he _ (h.2.2 hk)⟩
theorem oM {l:List Int} (h:l≠[]):l.getLastD 0 ∈ l/\l=l.dropLast ++ [l.getLastD 0]:=by
 have e:l.getLastD 0=l.getLast h:=by
  cases l with
  | nil=>exact (h rfl).elim
  | cons a l=>rw [List.getLastD_cons,List.getLast_eq_getLastD]
 rw [e];exact ⟨List.getLast_mem h,(List.dropLast_concat_getLast h).symm⟩
theorem Mk.pop (R:aI O W φ) (hal:cv W.nd qw Al) (M:Mk O W φ Al Ex s S) (hne:s.st≠[]) :
  ∃ S',Mk O W φ Al Ex (i7 O.ar s) S'/\(∀ k,S k->S' k)/\(∀ p ∈ s.ep,p ∈ (i7 O.ar s).ep)/\jM (i7 O.ar s)+1=jM s/\bS (i7 O.ar s).lv<=bS s.lv:=by
 obtain ⟨hm,he⟩:=oM hne;obtain ⟨i,hi,hp⟩:=M.st _ hm;have hl:=M.sl i hi;have hth:=R.th i hl;have hmm:jM { s with st:=s.st.dropLast } + 1=jM s:=by
  unfold jM;dsimp only;rw [List.length_dropLast];have:0<s.st.length:=List.length_pos_iff.2 hne;omega
 have M0:Mk O W φ Al (λk=>Ex k\/k=i) { s with st:=s.st.dropLast } S:=⟨M.len,M.at_,M.sl,M.al,λp hp=>M.st p (by rw [he];simp [show p ∈ s.st.dropLast from hp]),M.ep,λk hk=>by
  rcases M.done k hk with h | h | h
  ·exact .inl (.inl h)
  ·by_cases ek:k=i
   ·exact .inl (.inr ek)
   ·rw [he] at h;rcases Zk.1 h with h | h
    ·exact .inr (.inl h)
    ·exact (ek (R.inj k i (M.sl k hk) hl (by rw [List.mem_singleton.1 h,<-hp]))).elim
  ·exact .inr (.inr h)⟩
 generalize hs0:({ s with st:=s.st.dropLast }:Gs)=s0 at *;have hep:s0.ep=s.ep:=by rw [<-hs0]
 have hlv:s0.lv=s.lv:=by rw [<-hs0]
 have fin:∀ {t:Gs} {T:Int->Prop},Mk O W φ Al (λk=>Ex k\/k=i) t T->wF W φ t T i->Mk O W φ Al Ex t T:=λ{t T} M1 hL=>
  ⟨M1.len,M1.at_,M1.sl,M1.al,M1.st,M1.ep,λk hk=>by
   rcases M1.done k hk with (h | rfl) | h
   ·exact .inl h
   ·exact .inr (.inr hL)
   ·exact .inr h⟩
 have okf:∀ v ∈ (W.th i).fs,W.cI v:=λv hv=>R.hw.tv i hl v hv;unfold i7;rw [hs0,<-hp];unfold jy;rw [hth];dsimp only;by_cases k12:(W.th i).k=1\/(W.th i).k=2
 ·rw [if_pos k12,R.fields hl];obtain ⟨S1,M1,X1,e1,k1,b1⟩:=Mk.marks R (W.th i).fs M0 (λv hv=>⟨okf v hv,λh3=>hal i _ (M.al i hi) (.inl ⟨k12,by show ((3,v.2):Vl) ∈ (W.th i).fs;rw [<-h3];exact hv⟩)⟩);refine ⟨S1,fin M1 ⟨λ_=>k1,λh=>by omega,λh=>by omega⟩,X1.sub,λp hp=>by rw [e1,hep];exact hp,by rw [X1.m];exact hmm,by rw [<-hlv];exact X1.f⟩
 ·rw [if_neg k12];by_cases k3:(W.th i).k=3
  ·rw [if_pos k3];have h2:=Wd.two R.hw hl (.inl k3);have hj:(W.th i).fs[1]? = some (W.th i).fs[1]:=Le (by omega);have hld:=R.fl i hl 1 _ hj;rw [show φ i+1+((1:Nat):Int)=φ i+2 by omega] at hld;rw [hld];obtain ⟨M1,X1,e1,_⟩:=M0.mark R (okf _ (Zh hj)) (λh3=>hal i _ (M.al i hi) (.inr (.inl ⟨k3,by
    show (W.th i).fs[1]? = _
    rw [hj];congr 1;exact Prod.ext h3 rfl⟩)))
   refine ⟨_,fin M1 ⟨λh=>(k12 h).elim,λ_ v hv h3=>?_,λh=>by omega⟩,X1.sub,λp hp=>by rw [e1,hep];exact hp,by rw [X1.m];exact hmm,by rw [<-hlv];exact X1.f⟩;rw [hj] at hv;cases hv;exact .inr ⟨h3,rfl⟩
  ·rw [if_neg k3];by_cases k4:(W.th i).k=4
   ·rw [if_pos k4];have M1:Mk O W φ Al (λk=>Ex k\/k=i) { s0 with ep:=s0.ep ++ [φ i] } S:=⟨M0.len,M0.at_,M0.sl,M0.al,M0.st,λp hp=>by
     rcases Zk.1 hp with h | h
     ·exact M0.ep p h
     ·rw [List.mem_singleton.1 h];exact ⟨i,hi,k4,rfl⟩,λk hk=>by
     rcases M0.done k hk with h | h | h
     ·exact .inl h
     ·exact .inr (.inl h)
     ·exact .inr (.inr (h.mono (λ_ h=>h) (λp hp=>by simp [hp])))⟩
    exact ⟨S,fin M1 ⟨λh=>(k12 h).elim,λh=>(k3 h).elim,λ_=>by simp⟩,λ_ h=>h,λp hp=>by rw [<-hep] at hp;simp [hp],hmm,by rw [<-hlv];exact Zb _⟩
   ·rw [if_neg k4];exact ⟨S,fin M0 ⟨λh=>(k12 h).elim,λh=>(k3 h).elim,λh=>(k4 h).elim⟩,λ_ h=>h,λp hp=>by rw [hep];exact hp,hmm,by rw [<-hlv];exact Zb _⟩
theorem Mk.oN (R:aI O W φ) (hal:cv W.nd qw Al):∀ (n:Nat) {s:Gs} {S:Int->Prop},Mk O W φ Al Ex s S->jM s<n ->
  ∃ S',Mk O W φ Al Ex (jPops O.ar n s) S'/\(∀ k,S k->S' k)/\(∀ p ∈ s.ep,p ∈ (jPops O.ar n s).ep)/\(jPops O.ar n s).st=[]/\bS (jPops O.ar n s).lv<=bS s.lv
 | 0,s,S,M,hn=>by omega
 | n+1,s,S,M,hn=>by
  unfold jPops;by_cases hne:s.st=[]
  ·rw [if_pos hne];exact ⟨S,M,λ_ h=>h,λ_ h=>h,hne,Zb _⟩
  ·rw [if_neg hne];obtain ⟨S1,M1,s1,e1,m1,f1⟩:=M.pop R hal hne;obtain ⟨S2,M2,s2,e2,t2,f2⟩:=Mk.oN R hal n M1 (by omega);exact ⟨S2,M2,λk hk=>s2 k (s1 k hk),λp hp=>e2 p (e1 p hp),t2,by omega⟩
theorem Mk.nu (R:aI O W φ) (hal:cv W.nd qw Al):∀ (l:List Int) {s:Gs} {S:Int->Prop},Mk O W φ Al Ex s S->(∀ p ∈ l, ∃ i,S i/\(W.th i).k=4/\φ i=p) ->
  ∃ S',Mk O W φ Al Ex (iz O.ar s l) S'/\MX s S (iz O.ar s l) S'/\(iz O.ar s l).ep=s.ep /\
   ∀ i,S i->(W.th i).k=4->φ i ∈ l->(∀ v,(W.th i).fs[0]? = some v->v.1=3->S v.2)->∀ v,(W.th i).fs[1]? = some v->v.1=3->S' v.2
 | [],s,S,M,hl=>⟨S,M,MX.refl,rfl,λi _ _ h=>by cases h⟩
 | p :: l,s,S,M,hl=>by
  obtain ⟨i,hi,k4,rfl⟩:=hl p (by simp);have hli:=M.sl i hi;have h2:=Wd.two R.hw hli (.inr (.inl k4));have hj0:(W.th i).fs[0]? = some (W.th i).fs[0]:=Le (by omega);have hj1:(W.th i).fs[1]? = some (W.th i).fs[1]:=Le (by omega);have ok0:=R.hw.tv i hli _ (Zh hj0);have ok1:=R.hw.tv i hli _ (Zh hj1);have l0:=R.fl i hli 0 _ hj0;have l1:=R.fl i hli 1 _ hj1;rw [show φ i+1+((0:Nat):Int)=φ i+1 by omega] at l0;rw [show φ i+1+((1:Nat):Int)=φ i+2 by omega] at l1;have step:∃ S1,Mk O W φ Al Ex (fL O.ar s (φ i)) S1/\MX s S (fL O.ar s (φ i)) S1/\(fL O.ar s (φ i)).ep=s.ep/\((∀ v,(W.th i).fs[0]? = some v->v.1=3->S v.2)->∀ v,(W.th i).fs[1]? = some v->v.1=3->S1 v.2):=by
   unfold fL;rw [l0,l1];have ha:=M.alive R ok0;by_cases hm:aS s (az φ (W.th i).fs[0])=true
   ·rw [if_pos hm];obtain ⟨M1,X1,e1,_⟩:=M.mark R ok1 (λh3=>hal i _ (M.al i hi) (.inr (.inr (.inl ⟨k4,by
     show (W.th i).fs[1]? = _
     rw [hj1];congr 1;exact Prod.ext h3 rfl,λv hv h5=>by
     have hv':(W.th i).fs[0]? = some v:=hv;rw [hj0] at hv';cases hv'
     exact M.al _ (ha.1 hm h5)⟩))))
    exact ⟨_,M1,X1,e1,λ_ v hv h3=>by rw [hj1] at hv;cases hv;exact .inr ⟨h3,rfl⟩⟩
   ·rw [if_neg hm];exact ⟨S,M,MX.refl,rfl,λh=>(hm (ha.2 (λh3=>h _ hj0 h3))).elim⟩
  obtain ⟨S1,M1,X1,e1,k1⟩:=step;obtain ⟨S2,M2,X2,e2,k2⟩:=Mk.nu R hal l M1 (λp hp=>by
   obtain ⟨k,h3,h4,h5⟩:=hl p (by simp [hp])
   exact ⟨k,X1.sub k h3,h4,h5⟩)
  have e:iz O.ar s (φ i :: l)=iz O.ar (fL O.ar s (φ i)) l:=rfl;rw [e];refine ⟨S2,M2,X1.trans X2,e2.trans e1,λk hk k4' hkl hkey v hv h3=>?_⟩;rcases Zm.1 hkl with h | h
  ·have:=R.inj k i (M.sl k hk) hli h;subst this;exact X2.sub _ (k1 hkey v hv h3)
  ·exact k2 k (X1.sub k hk) k4' h (λv hv h3=>X1.sub _ (hkey v hv h3)) v hv h3
theorem Mk.fy (R:aI O W φ) (hal:cv W.nd qw Al) (hqw:∀ e ∈ qw,W.dL e):∀ (m:List (Int × Int)) {s:Gs} {S:Int->Prop},Mk O W φ Al Ex s S->(∀ f ∈ m,f ∈ qw) ->
  ∃ S',Mk O W φ Al Ex (wakeM aS lN s (m.map (bs φ))).1 S'/\MX s S (wakeM aS lN s (m.map (bs φ))).1 S'/\∀ f ∈ m,S f.1->S' f.2
 | [],s,S,M,hm=>⟨S,M,MX.refl,λf h=>by cases h⟩
 | f :: m,s,S,M,hm=>by
  have hf:=hqw f (hm f (by simp));have okg:W.cI (3,f.1):=.inr (.inr (.inr ⟨rfl,hf.1⟩));have okt:W.cI (3,f.2):=.inr (.inr (.inr ⟨rfl,hf.2.2⟩));have ag:=M.alive R okg;have at_:=M.alive R okt;simp only [forall_const] at ag at_;rw [Zs];unfold wakeM;rw [dR];dsimp only;by_cases hc:(aS s (az φ (3,f.1)) && !aS s (az φ (3,f.2)))=true
  ·rw [if_pos hc];rw [Zr] at hc;have hg:=ag.1 hc.1;obtain ⟨M1,X1,e1,_⟩:=M.mark R okt (λ_=>hal f.1 _ (M.al _ hg) (.inr (.inr (.inr ⟨hf.2.1,by show (f.1,f.2) ∈ qw;exact hm f (by simp)⟩))));obtain ⟨S2,M2,X2,k2⟩:=Mk.fy R hal hqw m M1 (λf hf=>hm f (by simp [hf]));refine ⟨S2,M2,X1.trans X2,λf' hf' hs=>?_⟩;rcases Zm.1 hf' with rfl | h
   ·exact X2.sub _ (.inr ⟨rfl,rfl⟩)
   ·exact k2 f' h (X1.sub _ hs)
  ·rw [if_neg hc];obtain ⟨S2,M2,X2,k2⟩:=Mk.fy R hal hqw m M (λf hf=>hm f (by simp [hf]));refine ⟨S2,M2,X2,λf' hf' hs=>?_⟩;rcases Zm.1 hf' with rfl | h
   ·have h1:=ag.2 hs;rw [h1] at hc;simp at hc;exact X2.sub _ (at_.1 hc)
   ·exact k2 f' h hs
theorem sX:∀ {l m:List Bool},l.length=m.length->(∀ i,l.getD i false=true->m.getD i false=true)->bS m<=bS l/\(bS m=bS l->m=l)
 | [],[],_,_=>⟨Zb _,λ_=>rfl⟩
 | a :: l,b :: m,hl,h=>by
  have ih:=sX (l:=l) (m:=m) (by simpa using hl) (λi hi=>by have:=h (i+1);simpa using this (by simpa using hi));have h0:=h 0;simp only [List.getD_cons_zero] at h0;unfold bS at *;cases a <;> cases b <;> simp [List.filter_cons] at * <;> first | exact ih | (refine ⟨by omega,λh=>by omega⟩)
 | [],b :: m,hl,_=>by simp at hl
 | a :: l,[],hl,_=>by simp at hl
theorem Mk.same (R:aI O W φ) (M:Mk O W φ Al Ex s S) (M':Mk O W φ Al Ex s' S') (X:MX s S s' S') (h1:s.st=[]) (h2:s'.st=[]):∀ k,S' k->S k:=by
 have hm:=X.m;unfold jM at hm;rw [h1,h2] at hm;simp only [List.length_nil,Nat.zero_add] at hm;have e:=(sX (l:=s.lv) (m:=s'.lv) (M.len.trans M'.len.symm) (λi hi=>by
  rw [<-dQ] at hi ⊢;obtain ⟨k,hk,e⟩:=(M.at_ _).1 hi
  exact (M'.at_ _).2 ⟨k,X.sub k hk,e⟩)).2 hm
 intro k hk;have h3:aw s.lv (φ k)=true:=by rw [<-e];exact (M'.at_ _).2 ⟨k,hk,rfl⟩
 obtain ⟨j,hj,ej⟩:=(M.at_ _).1 h3;rw [<-R.inj j k (M.sl j hj) (M'.sl k hk) ej];exact hj
theorem xy {A:Ar}:∀ (n:Nat) {s:Gs},s.st=[]->jPops A n s=s
 | 0,s,h=>rfl
 | n+1,s,h=>by unfold jPops;rw [if_pos h]
theorem Mk.round (R:aI O W φ) (hal:cv W.nd qw Al) (hqw:∀ e ∈ qw,W.dL e) (M:Mk O W φ Al (λ_=>False) s S) (hm:jM s<2000) :
  ∃ S',Mk O W φ Al (λ_=>False) (dv O.ar (qw.map (bs φ)) s) S'/\(∀ k,S k->S' k)/\jM (dv O.ar (qw.map (bs φ)) s)<=bS s.lv/\((dv O.ar (qw.map (bs φ)) s).st=[]->cv W.nd qw S'):=by
 obtain ⟨S1,M1,s1,e1,t1,f1⟩:=M.oN R hal 2000 hm;obtain ⟨S2,M2,X2,e2,k2⟩:=Mk.nu R hal (jPops O.ar 2000 s).ep M1 M1.ep;obtain ⟨S3,M3,X3,k3⟩:=Mk.fy R hal hqw qw M2 (λf h=>h);have X:=X2.trans X3;have e:dv O.ar (qw.map (bs φ)) s=(wakeM aS lN (iz O.ar (jPops O.ar 2000 s) (jPops O.ar 2000 s).ep) (qw.map (bs φ))).1:=rfl;rw [e];refine ⟨S3,M3,λk hk=>X.sub k (s1 k hk),?_,λhst=>?_⟩
 ·rw [X.m];unfold jM;rw [t1];simpa using f1
 ·have b1:=M1.same R M3 X t1 hst;have b2:∀ k,S3 k->S2 k:=λk hk=>X2.sub k (b1 k hk);intro i j hi hl;have hi1:=b1 i hi;have L:wF W φ (jPops O.ar 2000 s) S1 i:=by
   rcases M1.done i hi1 with h | h | h
   ·exact h.elim
   ·rw [t1] at h;cases h
   ·exact h
  have up:∀ k,S1 k->S3 k:=X.sub;rcases hl with ⟨hk,hm⟩ | ⟨hk,hm⟩ | ⟨hk,hm,hkey⟩ | ⟨hk,hm⟩
  ·exact up _ (L.1 hk (3,j) hm rfl)
  ·exact up _ (L.2.1 hk (3,j) hm rfl)
  ·exact X3.sub _ (k2 i hi1 hk (L.2.2 hk) (λv hv h3=>b1 _ (hkey v hv h3)) (3,j) hm rfl)
  ·exact k3 (i,j) hm (b2 i hi)
theorem Mk.drain (R:aI O W φ) (hal:cv W.nd qw Al) (hqw:∀ e ∈ qw,W.dL e):∀ (n:Nat) {s:Gs} {S:Int->Prop},Mk O W φ Al (λ_=>False) s S->jM s<2000->bS s.lv<n ->
  ∃ S',Mk O W φ Al (λ_=>False) (eM O.ar (qw.map (bs φ)) n s) S'/\(∀ k,S k->S' k)/\(eM O.ar (qw.map (bs φ)) n s).st=[]/\cv W.nd qw S'
 | 0,s,S,M,hm,hn=>by omega
 | n+1,s,S,M,hm,hn=>by
  obtain ⟨S1,M1,s1,m1,c1⟩:=M.round R hal hqw hm;unfold eM;by_cases hst:(dv O.ar (qw.map (bs φ)) s).st=[]
  ·rw [if_pos hst];exact ⟨S1,M1,s1,hst,c1 hst⟩
  ·rw [if_neg hst];have hpos:=List.length_pos_iff.2 hst;unfold jM at m1 hm;obtain ⟨S2,M2,s2,t2,c2⟩:=Mk.drain R hal hqw n M1 (by unfold jM;omega) (by omega);exact ⟨S2,M2,λk hk=>s2 k (s1 k hk),t2,c2⟩
structure Js (O:Wo) (W:Wd) (φ:Int->Int) (s:Gs) (is:List Bool) (qw:List (Int × Int)):Prop where
 M:Mk O W φ (λk=>aw is k=true) (λ_=>False) s (λk=>aw is k=true)
 st:s.st=[]
 shut:cv W.nd qw λk=>aw is k=true
 len:is.length=W.T.length
 ok:∀ e ∈ qw,W.dL e
theorem Mk.nt (M:Mk O W φ Al Ex s S) {Bl:Int->Prop} (h:∀ k,S k->Bl k):Mk O W φ Bl Ex s S:=⟨M.len,M.at_,M.sl,h,M.st,M.ep,M.done⟩
theorem Mk.re (R:aI O W φ) (hqw:∀ e ∈ qw,W.dL e) {is:List Bool} (hlen:is.length=W.T.length) (hS:∀ k,S k↔aw is k=true)
  (M:Mk O W φ Al (λ_=>False) s S) (hm:jM s<=1280):Js O W φ (eM O.ar (qw.map (bs φ)) 2000 s) (W.cY qw is) qw:=by
 have M':=M.nt (Bl:=λk=>cO W.nd qw (λk=>aw is k=true) k) (λk hk=>cO.base ((hS k).1 hk));obtain ⟨S1,M1,s1,t1,c1⟩:=M'.drain R (cO.closed W.nd qw _) hqw 2000 (by omega) (by unfold jM at hm;omega);have e:S1=λk=>aw (W.cY qw is) k=true:=by
  funext k
  refine propext ⟨λhk=>?_,λhk=>?_⟩
  ·have hl:=M1.sl k hk;exact da.2 ⟨hl.1,by rw [hlen];exact hl.2.1,M1.al k hk⟩
  ·exact (da.1 hk).2.2.least (λj hj=>s1 j ((hS j).2 hj)) c1
 subst e;exact ⟨M1.nt (λk hk=>hk),t1,c1,by unfold Wd.cY;rw [fp,hlen],hqw⟩
theorem Js.m {is:List Bool} (h:Js O W φ s is qw) (hO:O.ok):jM s<=1280:=by
 unfold jM;rw [h.st];have:=Bn s.lv;have:=h.M.len;have:=hO.ha.h4;simp;omega
theorem uu (n:Nat):bS (List.replicate n false)=n:=by unfold bS;simp
theorem aI.Ei (R:aI O W φ):Js O W φ (oL O) (W.cY W.wait (W.first true)) W.wait:=by
 have hflen:(W.first true).length=W.T.length:=Wd.gj W true;have M0:Mk O W φ (λ_=>True) (λ_=>False) ⟨List.replicate O.ar.ws.length false,[],[]⟩ (λ_=>False):=
  ⟨by simp,λp=>by
   constructor
   ·intro h;unfold aw at h;simp only [Ld,List.getElem?_replicate] at h;split at h <;> simp at h
   ·rintro ⟨_,h,_⟩;exact h.elim,λ_ h=>h.elim,λ_ h=>h.elim,(by intro p h;cases h),(by intro p h;cases h),λ_ h=>h.elim⟩
 obtain ⟨S1,M1,X1,e1,k1,b1⟩:=Mk.marks R W.roots M0 (λv hv=>⟨R.hw.rv v hv,λ_=>trivial⟩);have hS1:∀ k,S1 k↔aw (W.first true) k=true:=λk=>by
  rw [Wd.gC];constructor
  ·intro hk;have hl:=M1.sl k hk;refine ⟨hl.1,hl.2.1, .inr ?_⟩;rcases b1 k hk with h | h
   ·exact h.elim
   ·exact h
  ·rintro ⟨h0,h4,h5 | h5⟩
   ·cases h5.2.2
   ·exact k1 _ h5 rfl
 unfold oL;rw [R.wt,R.rt];refine M1.re R R.hw.wv hflen hS1 ?_;rw [X1.m];unfold jM;dsimp only;rw [uu];have:=R.ho.ha.h4;simp;omega
theorem Js.ab (R:aI O W φ) {is:List Bool} (P:Js O W φ s is qw) {x g:Int} (hx:W.live x) (hg:W.live g) (hk:(W.th g).k=5) :
  Js O W φ (iV O.ar s (qw.map (bs φ)) (az φ (3,x))).1 (W.cY qw (is.set x.toNat true)) (qw ++ [(g,x)]):=by
 have okx:W.cI (3,x):=.inr (.inr (.inr ⟨rfl,hx⟩));obtain ⟨M1,X1,e1,_⟩:=(P.M.nt (Bl:=λ_=>True) (λ_ _=>trivial)).mark R okx (λ_=>trivial);have hS1:∀ k,(aw is k=true\/((3:Int)=3/\k=x))↔aw (is.set x.toNat true) k=true:=λk=>by
  rw [gU hx.1 (by rw [P.len];exact hx.2.1)];constructor
  ·rintro (h | ⟨_,h⟩)
   ·exact .inr h
   ·exact .inl h
  ·rintro (h | h)
   ·exact .inr ⟨rfl,h⟩
   ·exact .inl h
 have P2:=M1.re R P.ok (by rw [List.length_set];exact P.len) hS1 (by rw [X1.m];exact P.m R.ho);have hxin:aw (W.cY qw (is.set x.toNat true)) x=true:=da.2 ⟨hx.1,by rw [List.length_set,P.len];exact hx.2.1,cO.base ((hS1 x).1 (.inr ⟨rfl,rfl⟩))⟩;refine ⟨P2.M,P2.st,?_,P2.len,λe he=>?_⟩
 ·intro a b ha hl;by_cases hb:b=x
  ·subst hb;exact hxin
  ·refine P2.shut a b ha ?_;rcases hl with h | h | h | ⟨h,h'⟩
   ·exact .inl h
   ·exact .inr (.inl h)
   ·exact .inr (.inr (.inl h))
   ·refine .inr (.inr (.inr ⟨h,?_⟩));rcases Zk.1 h' with h4 | h4
    ·exact h4
    ·simp at h4;exact absurd h4.2 hb
 ·rcases Zk.1 he with h | h
  ·exact P.ok e h
  ·rw [List.mem_singleton.1 h];exact ⟨hg,hk,hx⟩
theorem Js.alive (R:aI O W φ) {is:List Bool} (P:Js O W φ s is qw) {x:Int} (hx:W.live x):aS s (az φ (3,x))=aw is x:=by
 have:=P.M.alive R (v:=(3,x)) (.inr (.inr (.inr ⟨rfl,hx⟩)));simp only [forall_const] at this;rw [Bool.eq_iff_iff];exact this
theorem Js.scan (R:aI O W φ):∀ (l:List It) {s:Gs} {is:List Bool} {qw:List (Int × Int)},Js O W φ s is qw->(∀ i ∈ l,W.dL i.1) ->
  Js O W φ (scanM aS (iV O.ar) s (qw.map (bs φ)) (l.map (cW φ))).1 (scanM aw W.cq is qw l).1 (scanM aw W.cq is qw l).2.1 /\
   (scanM aS (iV O.ar) s (qw.map (bs φ)) (l.map (cW φ))).2.1=(scanM aw W.cq is qw l).2.1.map (bs φ) /\
   (scanM aS (iV O.ar) s (qw.map (bs φ)) (l.map (cW φ))).2.2.1=(scanM aw W.cq is qw l).2.2.1.map (cW φ)/\(scanM aS (iV O.ar) s (qw.map (bs φ)) (l.map (cW φ))).2.2.2=(scanM aw W.cq is qw l).2.2.2
 | [],s,is,qw,P,_=>⟨P,rfl,rfl,rfl⟩
 | i :: l,s,is,qw,P,hl=>by
  have hi:=hl i (by simp);have ea:aS s (cW φ i).1.1=aw is i.1.1:=by
   show aS s (bs φ i.1).1=_
   rw [dR];exact P.alive R hi.1
  simp only [Zs,scanM];rw [ea];have e2:(cW φ i).2=i.2:=rfl;rw [e2];by_cases hc:(i.2.1 && !i.2.2 && aw is i.1.1)=true
  ·rw [if_pos hc,if_pos hc];have P1:=P.ab R hi.2.2 hi.1 hi.2.1;have e3:(cW φ i).1.2=az φ (3,i.1.2):=by show (bs φ i.1).2=_;rw [dR]
   have e4:(cW φ i).1.1=az φ (3,i.1.1):=by show (bs φ i.1).1=_;rw [dR]
   have eq1:(iV O.ar s (qw.map (bs φ)) (cW φ i).1.2).2.1 ++ [((cW φ i).1.1,(iV O.ar s (qw.map (bs φ)) (cW φ i).1.2).2.2)]=(qw ++ [(i.1.1,i.1.2)]).map (bs φ):=by
    rw [List.map_append]
    show qw.map (bs φ) ++ [((cW φ i).1.1,(cW φ i).1.2)]=_
    rfl
   rw [eq1,e3];obtain ⟨P2,h0,h1,h2⟩:=Js.scan R l P1 (λj hj=>hl j (by simp [hj]));refine ⟨P2,h0,?_,rfl⟩;dsimp only;rw [h1];rfl
  ·rw [if_neg hc,if_neg hc];obtain ⟨P2,h0,h1,h2⟩:=Js.scan R l P (λj hj=>hl j (by simp [hj]));refine ⟨P2,h0,?_,h2⟩;dsimp only;rw [h1];rfl
theorem Js.rounds (R:aI O W φ):∀ (n:Nat) (l:List It) {s:Gs} {is:List Bool} {qw:List (Int × Int)},Js O W φ s is qw->(∀ i ∈ l,W.dL i.1) ->
  Js O W φ (roundsM aS (iV O.ar) n s (qw.map (bs φ)) (l.map (cW φ))).1 (roundsM aw W.cq n is qw l).1 (roundsM aw W.cq n is qw l).2.1 /\
   (roundsM aS (iV O.ar) n s (qw.map (bs φ)) (l.map (cW φ))).2.1=(roundsM aw W.cq n is qw l).2.1.map (bs φ) /\
   (roundsM aS (iV O.ar) n s (qw.map (bs φ)) (l.map (cW φ))).2.2=(roundsM aw W.cq n is qw l).2.2.map (cW φ)
 | 0,l,s,is,qw,P,hl=>⟨P,rfl,rfl⟩
 | n+1,l,s,is,qw,P,hl=>by
  obtain ⟨P1,h0,h1,h2⟩:=P.scan R l hl;have hl1:=nk is qw hl;simp only [roundsM];rw [h2];by_cases hc:(scanM aw W.cq is qw l).2.2.2=true
  ·rw [if_pos hc,if_pos hc,h1,h0];exact Js.rounds R n _ P1 hl1
  ·rw [if_neg hc,if_neg hc];exact ⟨P1,h0,h1⟩
theorem aI.jo (R:aI O W φ):Js O W φ (ck O).1 (W.pass true).1 (W.pass true).2.1/\(ck O).2.1=(W.pass true).2.1.map (bs φ)/\(ck O).2.2=(W.pass true).2.2.map (cW φ):=by
 have P0:=R.Ei;have e:c6 aS (oL O) O.rg=(c6 aw (W.cY W.wait (W.first true)) W.ai).map (cW φ):=by
  unfold c6;rw [R.rg,List.map_map,List.map_map];refine Zf λe he=>?_;have:=R.hw.gv e he
  show (bs φ e,!aS _ (bs φ e).2,false)=(bs φ e,!aw _ e.2,false)
  rw [show (bs φ e).2=az φ (3,e.2) by rw [dR],P0.alive R this.2.2]
 have hlen:O.rg.length=W.ai.length:=by rw [R.rg];simp
 unfold ck Wd.pass dw;rw [e,hlen,R.wt];exact P0.rounds R _ _ (λi hi=>by
  simp only [c6,List.mem_map] at hi;obtain ⟨e,he,rfl⟩:=hi
  exact R.hw.gv e he)
end
end
end Go.Proofs.YtjifdalflepcoadGreat
