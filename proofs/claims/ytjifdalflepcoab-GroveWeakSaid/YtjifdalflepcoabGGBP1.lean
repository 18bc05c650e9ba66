/-
  Parts of the proof, merged: what the functions do, and plain laws.
-/
import Derived.Test.YtjifdalflepcoabGGBP0
import Derived.Laws.Tables
import Derived.Deep.LoopGhost
import Derived.Laws.EntriesVeiled
set_option maxHeartbeats 16000000
set_option maxRecDepth 100000
set_option linter.unusedVariables false
set_option linter.unusedSimpArgs false
namespace Go.Proofs.Ytjifdalflepcoab
section
def Wd.live (W:Wd) (i:Int):Prop:=0≤i∧i<W.T.length∧(W.th i).dead=false
def Wd.dp (W:Wd) (v:Vl):Prop:=(v.1=0∧v.2=0)∨(v.1=1∧-dy≤v.2∧v.2<dy)∨(v.1=2∧v.2=0)∨(v.1=3∧W.live v.2)
def Wd.eY (W:Wd) (e:Int × Int):Prop:=W.live e.1∧(W.th e.1).k=5∧W.live e.2
structure Wd.ok (W:Wd):Prop where
 hr:W.roots.length=12
 rv:∀ v ∈ W.roots,W.dp v
 tk:∀ i,W.live i→aQ (W.th i).k (W.th i).fs.length=true
 tv:∀ i,W.live i→∀ v ∈ (W.th i).fs,W.dp v
 gv:∀ e ∈ W.regs,W.eY e
 wv:∀ e ∈ W.wait,W.eY e
 hq:W.regs.length+W.wait.length≤24
 m1:16≤W.most
 m2:W.most≤256
 g1:0≤W.grow
 g2:W.grow≤1024
 uy:W.aL≤W.most
 uo:W.bq≤W.grow
theorem Wd.kP {W:Wd} {i:Int} (h:W.live i):∃ (h':i.toNat<W.T.length),W.th i=W.T[i.toNat]:=by
 have h1:=h.1;have h2:=h.2.1;have h':i.toNat<W.T.length:=by omega
 exact ⟨h',by unfold Wd.th;rw [Ld,Le h'];rfl⟩
theorem Wd.bp {W:Wd} {v:Vl} (h:W.dp v) (h3:v.1=3):W.live v.2:=by
 rcases h with h | h | h | h
 ·have:=h.1;omega
 ·have:=h.1;omega
 ·have:=h.1;omega
 ·exact h.2
theorem Wd.l6 {W W':Wd} (h:∀ i,W.live i→W'.live i) {v:Vl} (hv:W.dp v):W'.dp v:=by
 rcases hv with h1 | h1 | h1 | h1
 ·exact .inl h1
 ·exact .inr (.inl h1)
 ·exact .inr (.inr (.inl h1))
 ·exact .inr (.inr (.inr ⟨h1.1,h _ h1.2⟩))
theorem eP (l:List Th) (p:Th→Bool):0≤cX l p:=by
 unfold cX
 induction l with
 | nil=>simp
 | cons t l ih=>
  simp only [List.map_cons,List.sum_cons];have:0≤(if p t then t.words else 0):=by split <;> simp [Th.words];omega
  omega
theorem l7 (a b:List Th) (p:Th→Bool):cX (a ++ b) p=cX a p+cX b p:=by simp [cX]
theorem l8 (l:List Th) (p:Th→Bool) (i:Nat) (t:Th) (h:i<l.length) (hp:p t=p l[i]) (hw:t.words=l[i].words):cX (l.set i t) p=cX l p:=by
 unfold cX;have:(l.set i t).map (fun t=>if p t then t.words else 0)=l.map (fun t=>if p t then t.words else 0):=by
  apply List.ext_getElem (by simp);intro j h1 h2;simp only [List.getElem_map,List.getElem_set];split
  ·rename_i e;subst e;rw [hp,hw]
  ·rfl
 rw [this]
theorem Wd.jk {W:Wd} (h:W.ok) {k:Int} (h0:0≤k) (h1:k<12):W.rt k ∈ W.roots:=by
 have:=h.hr;unfold Wd.rt;rw [Ld,Le (by omega)];exact List.getElem_mem _
theorem Wd.fT {W:Wd} (h:W.ok) (k:Int):W.dp (W.rt k):=by
 unfold Wd.rt;rw [Ld];cases hx:W.roots[k.toNat]? with
 | none=>exact .inl ⟨rfl,rfl⟩
 | some v=>exact h.rv _ (List.mem_of_getElem? hx)
theorem Wd.ok.aP {W:Wd} (h:W.ok) {v:Vl} (hv:W.dp v) (r:Int):(W.aP r v).ok:=by
 refine ⟨by simpa [Wd.aP] using h.hr,fun u hu=>?_,h.tk,h.tv,h.gv,h.wv,h.hq,h.m1,h.m2,h.g1,h.g2,h.uy,h.uo⟩;rcases List.mem_or_eq_of_mem_set hu with h1 | rfl
 ·exact h.rv u h1
 ·exact hv
theorem Wd.eQ {W:Wd} {r k:Int} {l:List Vl} {i:Int} (h0:0≤i) (h:i<W.T.length):(W.put r k l).th i=W.th i:=by
 unfold Wd.th Wd.put;simp only [Ld];rw [List.getElem?_append_left (by omega)]
theorem Wd.c6 {W:Wd} {r k:Int} {l:List Vl}:(W.put r k l).th W.T.length=⟨k,l,false,false⟩:=by
 unfold Wd.th Wd.put;simp only [Ld,Int.toNat_natCast];rw [List.getElem?_append_right (Nat.le_refl _)];simp
theorem Wd.gQ {W:Wd} {r k:Int} {l:List Vl} {i:Int} (h:W.live i):(W.put r k l).live i:=by
 refine ⟨h.1,?_,?_⟩
 ·have:=h.2.1;simp [Wd.put];omega
 ·rw [Wd.eQ h.1 h.2.1];exact h.2.2
theorem Wd.iO {W:Wd} {r k:Int} {l:List Vl} {i:Int} (h:(W.put r k l).live i):W.live i∨i=W.T.length:=by
 have h1:=h.2.1;simp [Wd.put] at h1;by_cases e:i=W.T.length
 ·exact .inr e
 ·refine .inl ⟨h.1,by omega,?_⟩;have:=h.2.2;rwa [Wd.eQ h.1 (by omega)] at this
theorem Wd.jl {W:Wd} {r k:Int} {l:List Vl}:(W.put r k l).aL=W.aL+(1+l.length):=by
 unfold Wd.aL Wd.put;rw [l7];simp [cX,Th.words]
theorem Wd.l9 {W:Wd} {r k:Int} {l:List Vl}:(W.put r k l).bq=W.bq:=by
 unfold Wd.bq Wd.put;rw [l7];simp [cX]
theorem Wd.ok.put {W:Wd} (h:W.ok) {r k:Int} {l:List Vl} (hf:aQ k l.length=true) (hl:∀ v ∈ l,W.dp v) (hroom:1+(l.length:Int)≤W.most-W.aL):(W.put r k l).ok:=by
 have hm:∀ {v},W.dp v→(W.put r k l).dp v:=fun hv=>Wd.l6 (fun i hi=>Wd.gQ hi) hv;have he:∀ e,W.eY e→(W.put r k l).eY e:=fun e he=>⟨Wd.gQ he.1,by rw [Wd.eQ he.1.1 he.1.2.1];exact he.2.1,Wd.gQ he.2.2⟩;refine ⟨by simpa [Wd.put] using h.hr,fun u hu=>?_,fun i hi=>?_,fun i hi v hv=>?_,fun e h1=>he e (h.gv e h1),fun e h1=>he e (h.wv e h1),h.hq,h.m1,h.m2,h.g1,h.g2,?_,?_⟩
 ·rcases List.mem_or_eq_of_mem_set hu with h1 | rfl
  ·exact hm (h.rv u h1)
  ·refine .inr (.inr (.inr ⟨rfl,?_,?_,?_⟩))
   ·simp [eu]
   ·simp [Wd.put,eu];omega
   ·show ((W.put r k l).th (W.T.length:Int)).dead=false
    rw [Wd.c6]
 ·rcases Wd.iO hi with h1 | rfl
  ·rw [Wd.eQ h1.1 h1.2.1];exact h.tk i h1
  ·rw [Wd.c6];exact hf
 ·rcases Wd.iO hi with h1 | rfl
  ·rw [Wd.eQ h1.1 h1.2.1] at hv;exact hm (h.tv i h1 v hv)
  ·rw [Wd.c6] at hv;exact hm (hl v hv)
 ·show (W.put r k l).aL≤W.most
  rw [Wd.jl];omega
 ·show (W.put r k l).bq≤W.grow
  rw [Wd.l9];exact h.uo
theorem Wd.eF {W:Wd} {j:Int} {fs:List Vl} {i:Int} (h0:0≤i) (hj:W.live j):(W.cm j fs).th i=if i=j then { W.th j with fs:=fs } else W.th i:=by
 obtain ⟨h',e⟩:=Wd.kP hj;unfold Wd.cm;simp only [Wd.th,Ld,List.getElem?_set];by_cases e2:i=j
 ·subst e2;rw [if_pos rfl,if_pos h',if_pos rfl];rfl
 ·have:=hj.1;rw [if_neg (by omega),if_neg e2]
theorem Wd.dK {W:Wd} {j:Int} {fs:List Vl} (hj:W.live j) (i:Int):(W.cm j fs).live i↔W.live i:=by
 unfold Wd.live;constructor
 ·rintro ⟨h0,h1,h2⟩;rw [Wd.eF h0 hj] at h2;refine ⟨h0,by simpa [Wd.cm] using h1,?_⟩;by_cases e:i=j
  ·subst e;exact hj.2.2
  ·rwa [if_neg e] at h2
 ·rintro ⟨h0,h1,h2⟩;refine ⟨h0,by simpa [Wd.cm] using h1,?_⟩;rw [Wd.eF h0 hj];split
  ·exact hj.2.2
  ·exact h2
theorem Wd.lh {W:Wd} {j:Int} {fs:List Vl} (hj:W.live j) {i:Int} (h0:0≤i):((W.cm j fs).th i).k=(W.th i).k:=by
 rw [Wd.eF h0 hj];split
 ·rename_i e;subst e;rfl
 ·rfl
theorem Wd.me {W:Wd} {j:Int} {fs:List Vl} (hj:W.live j) (hl:fs.length=(W.th j).fs.length):(W.cm j fs).aL=W.aL∧(W.cm j fs).bq=W.bq:=by
 obtain ⟨h',e⟩:=Wd.kP hj;constructor
 ·exact l8 _ _ _ _ h' (by simp [e]) (by simp [Th.words,hl,e])
 ·exact l8 _ _ _ _ h' (by simp [e]) (by simp [Th.words,hl,e])
theorem Wd.ok.cm {W:Wd} (h:W.ok) {j:Int} {fs:List Vl} (hj:W.live j) (hl:fs.length=(W.th j).fs.length) (hv:∀ v ∈ fs,W.dp v):(W.cm j fs).ok:=by
 have hm:∀ {v},W.dp v→(W.cm j fs).dp v:=fun hv=>Wd.l6 (fun i hi=>(Wd.dK hj i).2 hi) hv;have he:∀ e,W.eY e→(W.cm j fs).eY e:=fun e he=>⟨(Wd.dK hj _).2 he.1,by rw [Wd.lh hj he.1.1];exact he.2.1,(Wd.dK hj _).2 he.2.2⟩;have hs:=Wd.me hj hl;refine ⟨h.hr,fun u hu=>hm (h.rv u hu),fun i hi=>?_,fun i hi v hv'=>?_,fun e h1=>he e (h.gv e h1),fun e h1=>he e (h.wv e h1),h.hq,h.m1,h.m2,h.g1,h.g2,?_,?_⟩
 ·have h1:=(Wd.dK hj i).1 hi;rw [Wd.eF hi.1 hj];split
  ·rename_i e;subst e;show aQ (W.th i).k (fs.length:Nat)=true;rw [hl];exact h.tk i h1
  ·exact h.tk i h1
 ·have h1:=(Wd.dK hj i).1 hi;rw [Wd.eF hi.1 hj] at hv';split at hv'
  ·exact hm (hv v hv')
  ·exact hm (h.tv i h1 v hv')
 ·show (W.cm j fs).aL≤W.most;rw [hs.1];exact h.uy
 ·show (W.cm j fs).bq≤W.grow;rw [hs.2];exact h.uo
theorem Wd.dg (W:Wd) (major:Bool):(W.first major).length=W.T.length:=by simp [Wd.first]
theorem Wd.cL {W:Wd} {major:Bool} {i:Int}:av (W.first major) i=true↔0≤i∧i<W.T.length∧(((W.th i).aV=true∧(W.th i).dead=false∧major=false)∨((3,i):Vl) ∈ W.roots):=by
 constructor
 ·intro h;have hb:=ev h;rw [Wd.dg] at hb;refine ⟨hb.1,hb.2,?_⟩;unfold av Wd.first at h
  simp only [Bool.and_eq_true,Ld,List.getElem?_map] at h;rw [List.getElem?_range (by omega)] at h;have h2:=h.2;simp only [Option.map_some,Option.getD_some,show ((i.toNat:Nat):Int)=i by omega,Bool.or_eq_true,Bool.and_eq_true,Bool.not_eq_true',List.any_eq_true,beq_iff_eq] at h2;rcases h2 with h2 | ⟨v,h3,h4,h5⟩
  ·exact .inl ⟨h2.1.1,h2.1.2,h2.2⟩
  ·right;have:v=(3,i):=by cases v;simp_all
   rwa [this] at h3
 ·rintro ⟨h0,h1,h2⟩;unfold av Wd.first
  simp only [Bool.and_eq_true,Ld,List.getElem?_map];rw [List.getElem?_range (by omega)];refine ⟨by simpa using h0,?_⟩;simp only [Option.map_some,Option.getD_some,show ((i.toNat:Nat):Int)=i by omega,Bool.or_eq_true,Bool.and_eq_true,Bool.not_eq_true',List.any_eq_true,beq_iff_eq];rcases h2 with h2 | h2
  ·exact .inl ⟨⟨h2.1,h2.2.1⟩,h2.2.2⟩
  ·exact .inr ⟨_,h2,rfl,rfl⟩
structure Wd.dL (W:Wd) (major:Bool) (is:List Bool) (q:List (Int × Int)):Prop where
 len:is.length=W.T.length
 live:∀ i,av is i=true→W.live i
 first:∀ i,av (W.first major) i=true→av is i=true
 shut:eN W.nd q fun i=>av is i=true
 wv:∀ e ∈ q,W.eY e
theorem Wd.dM {W:Wd} (h:W.ok) {q:List (Int × Int)} (hq:∀ e ∈ q,W.eY e):eN W.nd q W.live:=by
 intro i j hi hl;rcases hl with h1 | h1 | h1 | h1
 ·exact Wd.bp (h.tv i hi _ h1.2) rfl
 ·exact Wd.bp (h.tv i hi _ (List.mem_of_getElem? h1.2)) rfl
 ·exact Wd.bp (h.tv i hi _ (List.mem_of_getElem? h1.2.1)) rfl
 ·exact (hq _ h1.2).2.2
theorem Wd.iP {W:Wd} (h:W.ok) {major:Bool} {i:Int} (hi:av (W.first major) i=true):W.live i:=by
 obtain ⟨h0,h1,h2 | h2⟩:=Wd.cL.1 hi
 ·exact ⟨h0,h1,h2.2.1⟩
 ·exact Wd.bp (h.rv _ h2) rfl
theorem Wd.dL.start {W:Wd} (h:W.ok) (major:Bool):W.dL major (W.b8 W.wait (W.first major)) W.wait:=by
 have hlen:(W.b8 W.wait (W.first major)).length=W.T.length:=by unfold Wd.b8;rw [eO,Wd.dg]
 have hl:∀ i,av (W.b8 W.wait (W.first major)) i=true→W.live i:=fun i hi=>
  (bC.1 hi).2.2.least (fun k hk=>Wd.iP h hk) (Wd.dM h h.wv)
 refine ⟨hlen,hl,fun i hi=>bC.2 ⟨(ev hi).1,(ev hi).2,aU.base hi⟩,?_,h.wv⟩;intro i j hi hj;have hlv:=Wd.dM h h.wv i j (hl i hi) (hj.mono (fun k hk=>hl k hk) (fun _ h=>h));refine bC.2 ⟨hlv.1,by rw [Wd.dg];exact hlv.2.1,?_⟩;exact aU.closed _ _ _ i j (bC.1 hi).2.2 (hj.mono (fun k hk=>(bC.1 hk).2.2) (fun _ h=>h))
theorem Wd.dL.ae {W:Wd} (h:W.ok) {major:Bool} {is:List Bool} {q:List (Int × Int)} (m:W.dL major is q) {g x:Int} (hx:W.live x) (hg:W.live g) (hk:(W.th g).k=5) :
  W.dL major (W.b8 q (is.set x.toNat true)) (q ++ [(g,x)])∧(∀ i,av is i=true→av (W.b8 q (is.set x.toNat true)) i=true)∧av (W.b8 q (is.set x.toNat true)) x=true:=by
 have hset:∀ i,av (is.set x.toNat true) i=true↔i=x∨av is i=true:=fun i=>eE hx.1 (by rw [m.len];exact hx.2.1);have hsl:(is.set x.toNat true).length=W.T.length:=by rw [List.length_set,m.len]
 have hq':∀ e ∈ q ++ [(g,x)],W.eY e:=by
  intro e he;rcases List.mem_append.1 he with h1 | h1
  ·exact m.wv e h1
  ·rw [List.mem_singleton.1 h1];exact ⟨hg,hk,hx⟩
 have hsv:∀ k,av (is.set x.toNat true) k=true→W.live k:=by
  intro k hk;rcases (hset k).1 hk with rfl | h1
  ·exact hx
  ·exact m.live k h1
 have hl:∀ i,av (W.b8 q (is.set x.toNat true)) i=true→W.live i:=fun i hi=>(bC.1 hi).2.2.least hsv (Wd.dM h m.wv);have up:∀ i,av (is.set x.toNat true) i=true→av (W.b8 q (is.set x.toNat true)) i=true:=fun i hi=>bC.2 ⟨(ev hi).1,(ev hi).2,aU.base hi⟩;have hxx:=up x ((hset x).2 (.inl rfl));refine ⟨⟨by unfold Wd.b8;rw [eO,hsl],hl,fun i hi=>up i ((hset i).2 (.inr (m.first i hi))),?_,hq'⟩,fun i hi=>up i ((hset i).2 (.inr hi)),hxx⟩;intro i j hi hj;by_cases e:j=x
 ·subst e;exact hxx
 ·have hj':ed W.nd q (fun k=>av (W.b8 q (is.set x.toNat true)) k=true) i j:=by
   rcases hj with h1 | h1 | h1 | ⟨h1,h2⟩
   ·exact .inl h1
   ·exact .inr (.inl h1)
   ·exact .inr (.inr (.inl h1))
   ·refine .inr (.inr (.inr ⟨h1,?_⟩));rcases List.mem_append.1 h2 with h3 | h3
    ·exact h3
    ·simp at h3;exact absurd h3.2 e
  have hlv:=Wd.dM h m.wv i j (hl i hi) (hj'.mono (fun k hk=>hl k hk) (fun _ h=>h));refine bC.2 ⟨hlv.1,by rw [hsl];exact hlv.2.1,?_⟩;exact aU.closed _ _ _ i j (bC.1 hi).2.2 (hj'.mono (fun k hk=>(bC.1 hk).2.2) (fun _ h=>h))
theorem oQ (a:Int × Int) (b:Bool) (l:List It):ck ((a,b,true) :: l)=ck l:=by rw [fH];simp
theorem np {i:It} (h:i.2.2=false) (l:List It):ck (i :: l)=1+ck l:=by rw [fH,h];simp
theorem pT (l:List (Int × Int)) (f:Int × Int→Bool):ck (l.map fun e=>(e,f e,false))=l.length:=by
 induction l with
 | nil=>rfl
 | cons a l ih=>rw [List.map_cons,np rfl,ih];simp;omega
theorem Wd.dL.scan {W:Wd} (h:W.ok) {major:Bool}:∀ (l:List It) (is:List Bool) (q:List (Int × Int)),W.dL major is q→(∀ i ∈ l,W.eY i.1) →
  W.dL major (scanM av W.bh is q l).1 (scanM av W.bh is q l).2.1∧(∀ i,av is i=true→av (scanM av W.bh is q l).1 i=true) ∧
  (scanM av W.bh is q l).2.1.length+ck (scanM av W.bh is q l).2.2.1=q.length+ck l
 | [],is,q,m,_=>⟨m,fun _ h=>h,rfl⟩
 | i :: l,is,q,m,hl=>by
  have hi:=hl i (by simp);simp only [scanM];split
  ·rename_i hc;simp only [Bool.and_eq_true,Bool.not_eq_true'] at hc;obtain ⟨m',hm1,_⟩:=m.ae h (g:=i.1.1) (x:=i.1.2) hi.2.2 hi.1 hi.2.1;have ih:=Wd.dL.scan h l _ _ m' (fun j hj=>hl j (by simp [hj]));simp only [Wd.bh];refine ⟨ih.1,fun k hk=>ih.2.1 k (hm1 k hk),?_⟩;have h3:=ih.2.2;simp only [Wd.bh,List.length_append,List.length_cons,List.length_nil] at h3;rw [oQ,np hc.1.2];omega
  ·have ih:=Wd.dL.scan h l is q m (fun j hj=>hl j (by simp [hj]));refine ⟨ih.1,ih.2.1,?_⟩;have h3:=ih.2.2;simp only [fH] at h3 ⊢;omega
theorem ko {W:Wd} {l:List It} (is:List Bool) (q:List (Int × Int)) (hl:∀ i ∈ l,W.eY i.1):∀ i ∈ (scanM av W.bh is q l).2.2.1,W.eY i.1:=by
 intro i hi;have h1:(i.1,i.2.1) ∈ (scanM av W.bh is q l).2.2.1.map (fun i=>(i.1,i.2.1)):=List.mem_map.2 ⟨i,hi,rfl⟩;rw [eX] at h1;obtain ⟨j,hj,e⟩:=List.mem_map.1 h1;have:=hl j hj;have e1:j.1=i.1:=congrArg (fun p:(Int × Int) × Bool=>p.1) e;rwa [e1] at this
theorem Wd.dL.rounds {W:Wd} (h:W.ok) {major:Bool}:∀ (n:Nat) (l:List It) (is:List Bool) (q:List (Int × Int)),W.dL major is q→(∀ i ∈ l,W.eY i.1) →
  W.dL major (roundsM av W.bh n is q l).1 (roundsM av W.bh n is q l).2.1∧(∀ i,av is i=true→av (roundsM av W.bh n is q l).1 i=true) ∧
  (roundsM av W.bh n is q l).2.1.length+ck (roundsM av W.bh n is q l).2.2=q.length+ck l ∧
  (roundsM av W.bh n is q l).2.2.map (fun i=>(i.1,i.2.1))=l.map (fun i=>(i.1,i.2.1))
 | 0,l,is,q,m,_=>⟨m,fun _ h=>h,rfl,rfl⟩
 | n+1,l,is,q,m,hl=>by
  have hs:=Wd.dL.scan h l is q m hl;have hf:=eX av W.bh l is q;simp only [roundsM];split
  ·have ih:=Wd.dL.rounds h n (scanM av W.bh is q l).2.2.1 _ _ hs.1 (ko is q hl);refine ⟨ih.1,fun k hk=>ih.2.1 k (hs.2.1 k hk),by rw [ih.2.2.1,hs.2.2],by rw [ih.2.2.2,hf]⟩
  ·exact ⟨hs.1,hs.2.1,hs.2.2,hf⟩
theorem Wd.dh {W:Wd} (h:W.ok) (major:Bool):W.dL major (W.pass major).1 (W.pass major).2.1∧(∀ i,av (W.b8 W.wait (W.first major)) i=true→av (W.pass major).1 i=true) ∧
  (W.pass major).2.1.length+ck (W.pass major).2.2=W.wait.length+W.regs.length ∧
  (W.pass major).2.2.map (fun i=>(i.1,i.2.1))=W.regs.map fun e=>(e,!av (W.b8 W.wait (W.first major)) e.2):=by
 have:=Wd.dL.rounds h (W.regs.length+1) (bY av (W.b8 W.wait (W.first major)) W.regs) _ _ (Wd.dL.start h major) (by
  intro i hi;simp only [bY,List.mem_map] at hi;obtain ⟨e,he,rfl⟩:=hi
  exact h.gv e he)
 refine ⟨this.1,this.2.1,?_,?_⟩
 ·have h3:=this.2.2.1;have:ck (bY av (W.b8 W.wait (W.first major)) W.regs)=W.regs.length:=pT _ _;rw [this] at h3;exact h3
 ·have h3:=this.2.2.2;rw [Wd.pass,ec,h3];simp [bY]
end
section
theorem cJ {is:List Bool} {i:Int} (h0:0≤i):is.getD i.toNat false=av is i:=by unfold av;simp [h0]
theorem g3 (is:List Bool) (i:Nat) (t:Th):(bV is i t).k=t.k:=by unfold bV;split <;> rfl
theorem lj {is:List Bool} {i:Nat} {t:Th} (h:is.getD i false=true):(bV is i t).dead=t.dead∧(bV is i t).aV=true:=by unfold bV;rw [if_pos h];exact ⟨rfl,rfl⟩
theorem lp {is:List Bool} {i:Nat} {t:Th} (h:is.getD i false=false):(bV is i t).dead=true:=by unfold bV;rw [if_neg (by rw [h];decide)]
theorem jW {is:List Bool} {i:Nat} {t:Th} (h:is.getD i false=true) (hf:aQ t.k t.fs.length=true):(bV is i t).fs.length=t.fs.length:=by
 unfold bV;rw [if_pos h]
 show List.length (if _ then _ else _)=_
 split
 ·rename_i hc;rw [hc.1] at hf;simp [aQ] at hf;simp;omega
 ·split
  ·rename_i hc;rw [hc.1] at hf;simp [aQ] at hf;simp;omega
  ·rfl
theorem pU {W:Wd} {is:List Bool} {i:Int} (h0:0≤i) (h1:i<W.T.length):(gA is W.T).getD i.toNat Th.none=bV is i.toNat (W.th i):=by
 unfold gA Wd.th;simp only [Ld,List.getElem?_mapIdx];rw [Le (by omega)]
 rfl
theorem Wd.di {W:Wd} {major:Bool} {i:Int} (h0:0≤i) (h1:i<W.T.length):(W.after major).th i=bV (W.pass major).1 i.toNat (W.th i):=pU h0 h1
theorem Wd.eZ {W:Wd} {major:Bool}:(W.after major).T.length=W.T.length:=by simp [Wd.after,gA]
theorem Wd.bB {W:Wd} (h:W.ok) {major:Bool} {i:Int}:(W.after major).live i↔av (W.pass major).1 i=true:=by
 obtain ⟨m,_⟩:=Wd.dh h major;constructor
 ·rintro ⟨h0,h1,h2⟩;rw [Wd.eZ] at h1;rw [Wd.di h0 h1] at h2;cases hb:av (W.pass major).1 i
  ·rw [lp (by rw [cJ h0,hb])] at h2;cases h2
  ·rfl
 ·intro hb;have hl:=m.live i hb;refine ⟨hl.1,by rw [Wd.eZ];exact hl.2.1,?_⟩;rw [Wd.di hl.1 hl.2.1,(lj (by rw [cJ hl.1];exact hb)).1];exact hl.2.2
theorem ia {W:Wd} (h:W.ok) {q:List (Int × Int)} {is:List Bool} (hs:eN W.nd q fun k=>av is k=true) {i:Int} (hi:W.live i) (hb:av is i=true) :
  ∀ v ∈ (bV is i.toNat (W.th i)).fs,(v=(2,0))∨(v ∈ (W.th i).fs∧aO is v=true):=by
 intro v hv;have hf:=h.tk i hi;unfold bV at hv;rw [if_pos (by rw [cJ hi.1];exact hb)] at hv;have shut:∀ j,ed W.nd q (fun k=>av is k=true) i j→av is j=true:=fun j hj=>hs i j hb hj;have inS_of:∀ v:Vl,(v.1=3→av is v.2=true)→aO is v=true:=fun v hv=>by
  unfold aO;by_cases e:v.1=3
  ·simp [e,hv e]
  ·simp [e]
 have two:(W.th i).fs.length=2→∃ a b,(W.th i).fs=[a,b]:=fun hl=>by
  match hx:(W.th i).fs,hl with
  | [a,b],_=>exact ⟨a,b,rfl⟩
 change v ∈ (if _ then _ else _) at hv;split at hv
 ·left;simp at hv;exact hv
 ·rename_i hc4;split at hv
  ·rename_i hc3;rw [hc3.1] at hf;simp [aQ] at hf;obtain ⟨a,b,e⟩:=two (by omega);rw [e] at hv;simp at hv;rcases hv with rfl | rfl
   ·exact .inl rfl
   ·refine .inr ⟨by rw [e];simp,inS_of _ fun e3=>shut _ (.inr (.inl ⟨hc3.1,?_⟩))⟩
    show (W.th i).fs[1]? = _
    rw [e];cases v;simp_all
  ·rename_i hc3;right;refine ⟨hv,inS_of v fun e3=>?_⟩;have e4:v=(3,v.2):=by cases v;simp_all
   have hk:=aX hf;by_cases k12:(W.th i).k=1∨(W.th i).k=2
   ·exact shut _ (.inl ⟨k12,by rw [←e4];exact hv⟩)
   by_cases k3:(W.th i).k=3
   ·have h0:aO is ((W.th i).fs.getD 0 (0,0))=true:=by
     cases hx:aO is ((W.th i).fs.getD 0 (0,0))
     ·exact absurd ⟨k3,hx⟩ hc3
     ·rfl
    rw [k3] at hf;simp [aQ] at hf;obtain ⟨a,b,e⟩:=two (by omega);rw [e] at hv h0;simp at hv h0;rcases hv with rfl | rfl
    ·simp [aO,e3] at h0;exact h0
    ·exact shut _ (.inr (.inl ⟨k3,by show (W.th i).fs[1]? = _;rw [e,←e4];rfl⟩))
   by_cases k4:(W.th i).k=4
   ·have h0:aO is ((W.th i).fs.getD 0 (0,0))=true:=by
     cases hx:aO is ((W.th i).fs.getD 0 (0,0))
     ·exact absurd ⟨k4,hx⟩ hc4
     ·rfl
    rw [k4] at hf;simp [aQ] at hf;obtain ⟨a,b,e⟩:=two (by omega);rw [e] at hv h0;simp at hv h0;rcases hv with rfl | rfl
    ·simp [aO,e3] at h0;exact h0
    ·refine shut _ (.inr (.inr (.inl ⟨k4,by show (W.th i).fs[1]? = _;rw [e,←e4];rfl,fun u hu hu3=>?_⟩)));have hu':(W.th i).fs[0]? = some u:=hu;rw [e] at hu';simp at hu';subst hu';simp [aO,hu3] at h0;exact h0
   ·have k5:(W.th i).k=5:=by
     have h1:(W.th i).k≠1:=fun e=>k12 (.inl e);have h2:(W.th i).k≠2:=fun e=>k12 (.inr e);omega
    rw [k5] at hf;simp [aQ] at hf;have:(W.th i).fs=[]:=by
     cases hx:(W.th i).fs with
     | nil=>rfl
     | cons a l=>rw [hx] at hf;simp at hf
    rw [this] at hv;cases hv
theorem lq (is:List Bool):∀ (l:List Th) (n:Nat) (hl:∀ j (h:j<l.length),is.getD (n+j) false=true→l[j].dead=false∧aQ l[j].k l[j].fs.length=true),
  cX (l.mapIdx fun i t=>bV is (n+i) t) (fun t=>!t.dead && !t.aV)=0 ∧
  cX (l.mapIdx fun i t=>bV is (n+i) t) (fun t=>!t.dead && t.aV)=(l.mapIdx fun i t=>if is.getD (n+i) false then t.words else 0).sum
 | [],_,_=>⟨rfl,rfl⟩
 | t :: l,n,hl=>by
  have ih:=lq is l (n+1) (fun j h=>by
   have:=hl (j+1) (by simp;omega);simp only [List.getElem_cons_succ] at this
   rw [show n+1+j=n+(j+1) by omega];exact this)
  have e:∀ (f:Nat→Th→Th),(fun i t=>f (n+1+i) t)=fun i t=>f (n+(i+1)) t:=fun f=>by funext i t;rw [show n+1+i=n+(i+1) by omega]
  have e2:∀ (f:Nat→Th→Int),(fun i t=>f (n+1+i) t)=fun i t=>f (n+(i+1)) t:=fun f=>by funext i t;rw [show n+1+i=n+(i+1) by omega]
  rw [e (bV is),e2 (fun i t=>if is.getD i false then t.words else 0)] at ih;have h0:=hl 0 (by simp);simp only [List.getElem_cons_zero,Nat.add_zero] at h0;simp only [cX] at ih ⊢;simp only [List.mapIdx_cons,List.map_cons,List.sum_cons,Nat.add_zero];rw [ih.1,ih.2];cases hb:is.getD n false
  ·have hd:=lp (t:=t) hb;simp [hd]
  ·obtain ⟨h1,h2⟩:=h0 hb;have hl2:=lj (t:=t) hb;have hl3:=jW hb h2;simp only [hl2.1,hl2.2,h1,Th.words,hl3];simp
theorem Wd.fr {W:Wd} (h:W.ok) (major:Bool):(W.after major).aL=0∧(W.after major).bq=fI (W.pass major).1 W.T:=by
 obtain ⟨m,_⟩:=Wd.dh h major;have:=lq (W.pass major).1 W.T 0 (fun j hj hb=>by
  rw [Nat.zero_add,←cG] at hb;have hl:=m.live _ hb;obtain ⟨h',e⟩:=Wd.kP hl;simp only [Int.toNat_natCast] at e;rw [←e]
  exact ⟨hl.2.2,h.tk _ hl⟩)
 simp only [Nat.zero_add] at this;exact this
theorem Wd.fJ {W:Wd} (h:W.ok) {major:Bool} {i:Int} (hb:av (W.pass major).1 i=true):((W.after major).th i).k=(W.th i).k:=by
 obtain ⟨m,_⟩:=Wd.dh h major;have hl:=m.live i hb;rw [Wd.di hl.1 hl.2.1,g3]
theorem jH {is:List Bool} {l:List It} {e:Int × Int} (h:e ∈ bR av fq is l):∃ i ∈ l,i.1=e∧i.2.1=false∧av is e.1=true:=by
 unfold bR at h;simp only [List.mem_map,List.mem_filter,Bool.and_eq_true,Bool.not_eq_true'] at h;obtain ⟨i,⟨hi,h1,h2⟩,rfl⟩:=h;exact ⟨i,hi,rfl,h1,h2⟩
theorem jI {is:List Bool} {l:List (Int × Int)} {e:Int × Int} (h:e ∈ bG av fq is l):e ∈ l∧av is e.1=true:=by
 unfold bG at h;simp only [List.mem_map,List.mem_filter] at h;obtain ⟨i,⟨hi,h1⟩,rfl⟩:=h;exact ⟨hi,h1⟩
theorem Wd.ok.after {W:Wd} (h:W.ok) {major:Bool} (hroom:fI (W.pass major).1 W.T≤W.grow):(W.after major).ok:=by
 obtain ⟨m,hfst,hcnt,hits⟩:=Wd.dh h major;have hs:=Wd.fr h major;have lv:∀ i,av (W.pass major).1 i=true→(W.after major).live i:=fun i hi=>(Wd.bB h).2 hi;have clo1:∀ i,av (W.first major) i=true→av (W.pass major).1 i=true:=m.first
 have root:∀ v ∈ W.roots,v.1=3→av (W.pass major).1 v.2=true:=fun v hv e=>by
  have hl:=Wd.bp (h.rv v hv) e;have e2:v=(3,v.2):=by cases v;simp_all
  exact m.first _ (Wd.cL.2 ⟨hl.1,hl.2.1, .inr (by rw [←e2];exact hv)⟩)
 refine ⟨h.hr,fun v hv=>?_,fun i hi=>?_,fun i hi v hv=>?_,fun e he=>?_,fun e he=>?_,?_,h.m1,h.m2,h.g1,h.g2,?_,?_⟩
 ·rcases h.rv v hv with h1 | h1 | h1 | h1
  ·exact .inl h1
  ·exact .inr (.inl h1)
  ·exact .inr (.inr (.inl h1))
  ·exact .inr (.inr (.inr ⟨h1.1,lv _ (root v hv h1.1)⟩))
 ·have hb:=(Wd.bB h).1 hi;have hl:=m.live i hb;rw [Wd.di hl.1 hl.2.1,g3,jW (by rw [cJ hl.1];exact hb) (h.tk i hl)];exact h.tk i hl
 ·have hb:=(Wd.bB h).1 hi;have hl:=m.live i hb;rw [Wd.di hl.1 hl.2.1] at hv;rcases ia h m.shut hl hb v hv with rfl | ⟨hv1,hv2⟩
  ·exact .inr (.inr (.inl ⟨rfl,rfl⟩))
  ·rcases h.tv i hl v hv1 with h1 | h1 | h1 | h1
   ·exact .inl h1
   ·exact .inr (.inl h1)
   ·exact .inr (.inr (.inl h1))
   ·refine .inr (.inr (.inr ⟨h1.1,lv _ ?_⟩));simp [aO,h1.1] at hv2;exact hv2
 ·obtain ⟨i,hi,rfl,hd,hg⟩:=jH he;have h1:(i.1,i.2.1) ∈ (W.pass major).2.2.map (fun i=>(i.1,i.2.1)):=List.mem_map.2 ⟨i,hi,rfl⟩;rw [hits] at h1;obtain ⟨e,he',e2⟩:=List.mem_map.1 h1;have e3:e=i.1:=congrArg (fun p:(Int × Int) × Bool=>p.1) e2;have e4:(!av (W.b8 W.wait (W.first major)) e.2)=i.2.1:=congrArg (fun p:(Int × Int) × Bool=>p.2) e2;have hgv:=h.gv e he';rw [e3] at hgv e4;rw [hd] at e4;refine ⟨lv _ hg,?_,lv _ (hfst _ (by simpa using e4))⟩;rw [Wd.fJ h hg];exact hgv.2.1
 ·obtain ⟨h1,h2⟩:=jI he;have hwv:=m.wv e h1;refine ⟨lv _ h2,by rw [Wd.fJ h h2];exact hwv.2.1,lv _ (m.shut _ _ h2 (.inr (.inr (.inr ⟨hwv.2.1,h1⟩))))⟩
 ·have hq:=h.hq;have h1:(W.after major).wait.length≤(W.pass major).2.1.length:=by
   simp only [Wd.after,bG,List.length_map];exact List.length_filter_le _ _
  have h2:(W.after major).regs.length≤ck (W.pass major).2.2:=by
   simp only [Wd.after,bR,List.length_map];have hmv:∀ i ∈ (W.pass major).2.2,i.2.1=false→i.2.2=false:=by
    have key:∀ (l:List It) (is:List Bool) (q:List (Int × Int)),(∀ i ∈ l,i.2.1=false→i.2.2=false)→∀ i ∈ (scanM av W.bh is q l).2.2.1,i.2.1=false→i.2.2=false:=by
     intro l
     induction l with
     | nil=>intro is q _ i hi;simp [scanM] at hi
     | cons a l ih=>
      intro is q hl i hi;simp only [scanM] at hi;split at hi
      ·rename_i hc;simp only [Bool.and_eq_true] at hc;rcases List.mem_cons.1 hi with rfl | hi
       ·intro e;rw [hc.1.1] at e;cases e
       ·exact ih _ _ (fun j hj=>hl j (by simp [hj])) i hi
      ·rcases List.mem_cons.1 hi with rfl | hi
       ·exact hl _ (by simp)
       ·exact ih _ _ (fun j hj=>hl j (by simp [hj])) i hi
    have key2:∀ (n:Nat) (l:List It) (is:List Bool) (q:List (Int × Int)),(∀ i ∈ l,i.2.1=false→i.2.2=false)→∀ i ∈ (roundsM av W.bh n is q l).2.2,i.2.1=false→i.2.2=false:=by
     intro n
     induction n with
     | zero=>intro l is q hl;exact hl
     | succ n ih=>
      intro l is q hl;simp only [roundsM];split
      ·exact ih _ _ _ (key l is q hl)
      ·exact key l is q hl
    exact key2 _ _ _ _ (fun i hi=>by simp only [bY,List.mem_map] at hi;obtain ⟨e,_,rfl⟩:=hi;intro _;rfl)
   unfold ck;rw [←List.countP_eq_length_filter,←List.countP_eq_length_filter];exact List.countP_mono_left fun i hi h=>by
    simp only [Bool.and_eq_true,Bool.not_eq_true'] at h;simp [hmv i hi h.1]
  show (W.after major).regs.length+(W.after major).wait.length≤24
  omega
 ·show (W.after major).aL≤W.most;rw [hs.1];have:=h.m1;omega
 ·show (W.after major).bq≤W.grow;rw [hs.2];exact hroom
theorem Wd.ok.cut {W:Wd} (h:W.ok) (major:Bool):(W.cut major).2.ok:=by
 unfold Wd.cut;split
 ·exact h
 ·split
  ·exact h
  ·exact h.after (by omega)
theorem Wd.ok.room {W:Wd} (h:W.ok) (n:Int) (hn:n≤13):(W.room n).2.ok∧((W.room n).1=0→n≤(W.room n).2.most-(W.room n).2.aL):=by
 unfold Wd.room;split
 ·refine ⟨h.cut _,fun h0=>?_⟩;unfold Wd.cut at h0 ⊢;split
  ·rename_i hc;rw [if_pos hc] at h0;simp at h0
  ·rename_i hc;rw [if_neg hc] at h0;split
   ·rename_i hd;rw [if_pos hd] at h0;simp at h0
   ·show n≤W.most-(W.after _).aL
    rw [(Wd.fr h _).1];have:=h.m1;omega
 ·exact ⟨h,fun _=>by show n≤W.most-W.aL;omega⟩
theorem Wd.ok.aW {W:Wd} (h:W.ok) {r k:Int} {l:List Int} (hf:aQ k l.length=true):(W.aW r k l).2.ok:=by
 unfold Wd.aW;have hl:=(aX hf).2.2.2;have hr:=h.room (1+l.length) (by omega);split
 ·rename_i h0;refine hr.1.put (by simpa using hf) (fun v hv=>?_) (by simpa using hr.2 h0);obtain ⟨a,_,rfl⟩:=List.mem_map.1 hv;exact Wd.fT hr.1 a
 ·exact h
theorem Wd.bJ {W:Wd} (h:W.ok) {k:Int} (hk:¬ W.au k<0):W.live (W.au k):=by
 unfold Wd.au at hk ⊢;split
 ·rename_i h3;exact Wd.bp (Wd.fT h k) h3
 ·rename_i h3;rw [if_neg h3] at hk;simp at hk
theorem Wd.nU {W:Wd} (h:W.ok) {k:Int} (hk:¬ W.guard k<0):W.live (W.guard k)∧(W.th (W.guard k)).k=5∧W.guard k=W.au k:=by
 unfold Wd.guard at hk ⊢;split
 ·rename_i h3;rw [if_pos h3] at hk;simp at hk
 ·rename_i h3;have h5:(W.th (W.au k)).k=5:=by
   by_cases e:(W.th (W.au k)).k=5
   ·exact e
   ·exact absurd (Or.inr e) h3
  exact ⟨Wd.bJ h (fun e=>h3 (.inl e)),h5,rfl⟩
theorem jX:∀ {l:List (Int × Int)} {g:Int} {r:Int × List (Int × Int)},popW l g=some r→(g,r.1) ∈ l∧(∀ e ∈ r.2,e ∈ l)∧r.2.length+1=l.length
 | [],g,r,h=>by simp [popW] at h
 | e :: l,g,r,h=>by
  unfold popW at h;split at h
  ·rename_i hg;simp at h;subst h;refine ⟨?_,fun e he=>by simp [he],rfl⟩;rw [←hg];simp
  ·simp only [Option.map_eq_some_iff] at h;obtain ⟨r',h1,rfl⟩:=h;have ih:=jX h1;refine ⟨by simp [ih.1],fun x hx=>?_,by simp;omega⟩;rcases List.mem_cons.1 hx with rfl | hx
   ·simp
   ·simp [ih.2.1 x hx]
theorem Wd.fK {W:Wd} {x:St} (h:W.bm x=0):¬ W.au x.a<0∧(W.th (W.au x.a)).k≠5∧0≤x.i∧x.i<(W.th (W.au x.a)).fs.length:=by
 unfold Wd.bm at h;split at h
 ·simp at h
 ·rename_i hc;split at h
  ·simp at h
  ·rename_i hd;exact ⟨fun e=>hc (.inl e),fun e=>hc (.inr e),by omega,by omega⟩
theorem Wd.gF {W:Wd} {n:Int} (h1:-dy≤n) (h2:n<dy):W.dp (1,n):=.inr (.inl ⟨rfl,h1,h2⟩)
theorem aN {x:St} (h:bZ x=0):¬ aJ x.k=-1∧(aJ x.k%2=1→cD x.r=true)∧(aJ x.k/2%2=1→cD x.a=true)∧(aJ x.k/4%2=1→cD x.b=true) ∧
  (x.k=1→-dy≤x.n∧x.n<dy)∧(x.k=5→0≤x.n∧x.n≤12):=by
 unfold bZ at h;split at h
 ·simp at h
 ·rename_i h1;split at h
  ·simp at h
  ·rename_i h2;split at h
   ·simp at h
   ·rename_i h3;split at h
    ·simp at h
    ·rename_i h4;have nb:∀ b:Bool,¬ b=false→b=true:=fun b=>by cases b <;> simp
     exact ⟨h1,fun h=>nb _ fun e=>h2 (.inl ⟨h,e⟩),fun h=>nb _ fun e=>h2 (.inr (.inl ⟨h,e⟩)),fun h=>nb _ fun e=>h2 (.inr (.inr ⟨h,e⟩)),
      fun h=>Classical.not_not.1 fun e=>h3 ⟨h,e⟩,fun h=>Classical.not_not.1 fun e=>h4 ⟨h,e⟩⟩
theorem Wd.ok.do {W:Wd} (h:W.ok) (x:St):(W.do x).2.ok:=by
 unfold Wd.do
 split
 ·rename_i hc;have hu:=aN hc;unfold Wd.step;by_cases k1:x.k=1
  ·rw [if_pos k1];exact h.aP (Wd.gF (hu.2.2.2.2.1 k1).1 (hu.2.2.2.2.1 k1).2) _
  rw [if_neg k1];by_cases k2:x.k=2
  ·rw [if_pos k2];exact h.aP (.inl ⟨rfl,rfl⟩) _
  rw [if_neg k2];by_cases k3:x.k=3
  ·rw [if_pos k3];exact h.aP (Wd.fT h _) _
  rw [if_neg k3];by_cases k4:x.k=4
  ·rw [if_pos k4];exact h.aW rfl
  rw [if_neg k4];by_cases k5:x.k=5
  ·rw [if_pos k5];refine h.aW ?_;have:=hu.2.2.2.2.2 k5;simp [aQ];omega
  rw [if_neg k5];by_cases k6:x.k=6
  ·rw [if_pos k6];exact h.aW rfl
  rw [if_neg k6];by_cases k7:x.k=7
  ·rw [if_pos k7];exact h.aW rfl
  rw [if_neg k7];by_cases k8:x.k=8
  ·rw [if_pos k8];exact h.aW rfl
  rw [if_neg k8];by_cases k9:x.k=9
  ·rw [if_pos k9];unfold Wd.gP;split
   ·exact h
   ·rename_i h1;split
    ·exact h
    ·rename_i h2;have ha:=Wd.bJ h (fun e=>h1 (.inl e));have hb:=Wd.nU h (fun e=>h1 (.inr e));refine ⟨h.hr,h.rv,h.tk,h.tv,fun e he=>?_,h.wv,?_,h.m1,h.m2,h.g1,h.g2,h.uy,h.uo⟩
     ·rcases List.mem_append.1 he with he | he
      ·exact h.gv e he
      ·rw [List.mem_singleton.1 he];exact ⟨hb.1,hb.2.1,ha⟩
     ·show (W.regs ++ _).length+W.wait.length≤24
      simp;omega
  rw [if_neg k9];by_cases k10:x.k=10
  ·rw [if_pos k10];unfold Wd.pop;split
   ·exact h
   ·rename_i h1;split
    ·exact h
    ·rename_i r hr;have hp:=jX hr;have hw:=h.wv _ hp.1;refine ⟨by simpa using h.hr,fun v hv=>?_,h.tk,h.tv,h.gv,fun e he=>h.wv e (hp.2.1 e he),?_,h.m1,h.m2,h.g1,h.g2,h.uy,h.uo⟩
     ·rcases List.mem_or_eq_of_mem_set hv with h2 | rfl
      ·exact h.rv v h2
      ·exact .inr (.inr (.inr ⟨rfl,hw.2.2⟩))
     ·have:=h.hq
      show W.regs.length+r.2.length≤24
      omega
  rw [if_neg k10];by_cases k11:x.k=11
  ·rw [if_pos k11];unfold Wd.get;split
   ·rename_i h0;have hf:=Wd.fK h0;refine h.aP ?_ _;rw [Ld,Le (by omega)];exact h.tv _ (Wd.bJ h hf.1) _ (List.getElem_mem _)
   ·exact h
  rw [if_neg k11];by_cases k12:x.k=12
  ·rw [if_pos k12];unfold Wd.set;split
   ·rename_i h0;have hf:=Wd.fK h0;have hl:=Wd.bJ h hf.1;refine h.cm hl (by simp) fun v hv=>?_;rcases List.mem_or_eq_of_mem_set hv with h2 | rfl
    ·exact h.tv _ hl v h2
    ·exact Wd.fT h _
   ·exact h
  rw [if_neg k12];by_cases k13:x.k=13
  ·rw [if_pos k13];unfold Wd.len;split
   ·exact h
   ·rename_i h1;have hl:=Wd.bJ h (fun e=>h1 (.inl e));have:=aX (h.tk _ hl);exact h.aP (Wd.gF (by unfold dy;omega) (by unfold dy;omega)) _
  rw [if_neg k13];by_cases k14:x.k=14
  ·rw [if_pos k14];unfold Wd.same;exact h.aP (Wd.gF (by unfold dy;split <;> omega) (by unfold dy;split <;> omega)) _
  rw [if_neg k14];by_cases k15:x.k=15
  ·rw [if_pos k15];exact h.cut _
  rw [if_neg k15];exact h.cut _
 ·exact h
theorem Wd.fY {n o:Int} (h1:16≤n) (h2:n≤256) (h3:0≤o) (h4:o≤1024):(Wd.new n o).ok:=by
 have nl:∀ i,¬ (Wd.new n o).live i:=fun i h=>by have h1:=h.1;have h2:=h.2.1;simp [Wd.new] at h2;omega
 refine ⟨by simp [Wd.new],fun v hv=>?_,fun i hi=>(nl i hi).elim,fun i hi=>(nl i hi).elim,fun e he=>by simp [Wd.new] at he,fun e he=>by simp [Wd.new] at he,by simp [Wd.new],h1,h2,h3,h4,?_,?_⟩
 ·simp [Wd.new] at hv;subst hv;exact .inl ⟨rfl,rfl⟩
 ·show cX [] _≤n;simp [cX];omega
 ·show cX [] _≤o;simp [cX];omega
end
section
open Go.RowKit
structure RW where
 p:Nat
 tv:Value
 rv:Value
 gv:Value
 wv:Value
 F:Nat→Prop
section
variable {w w':World} {h:RW} {W:Wd}
end
end
section
def bu (M:List Int) (v:Vl):Vl:=cZ (fun x=>((M.idxOf x:Nat):Int)) v
def eJ (M:List Int) (n:Nd):Nd:=(n.1,n.2.map (bu M))
theorem mg {M m:List Int} {v:Vl} (h:v.1=3→v.2 ∈ M):bu (M ++ m) v=bu M v:=by
 unfold bu cZ;by_cases h3:v.1=3
 ·rw [if_pos h3,if_pos h3];dsimp only;rw [List.idxOf_append,if_pos (h h3)]
 ·rw [if_neg h3,if_neg h3]
theorem mh {M m:List Int} {l:List Vl} (h:∀ v ∈ l,v.1=3→v.2 ∈ M):l.map (bu (M ++ m))=l.map (bu M):=
 List.map_congr_left fun v hv=>mg (h v hv)
structure Told (G:Gr) (L:List Vl) (s s':VS):Prop where
 pre:∃ m,s'.1=s.1 ++ m
 len:s'.2.length=s'.1.length
 nodup:s.1.Nodup→s'.1.Nodup
 met:∀ v ∈ L,v.1=3→v.2 ∈ s'.1
 shut:∀ (k:Nat) (x:Int),s.1.length≤k→s'.1[k]? = some x→∀ v ∈ (G x).2,v.1=3→v.2 ∈ s'.1
 node:∀ (k:Nat) (x:Int),s.1.length≤k→s'.1[k]? = some x→s'.2[k]? = some (eJ s'.1 (G x))
 ae:∀ k,k<s.1.length→s'.2[k]? = s.2[k]?
 led:∀ (k:Nat) (x:Int),s.1.length≤k→s'.1[k]? = some x→((3,x):Vl) ∈ L∨∃ (j:Nat) (y:Int),s.1.length≤j∧j<k∧s'.1[j]? = some y∧((3,x):Vl) ∈ (G y).2
theorem Told.refl (G:Gr) {L:List Vl} {s:VS} (hl:s.2.length=s.1.length) (hm:∀ v ∈ L,v.1=3→v.2 ∈ s.1):Told G L s s:=
 have no:∀ (k:Nat) (x:Int),s.1.length≤k→s.1[k]? = some x→False:=fun k x h1 h2=>by
  rw [List.getElem?_eq_none h1] at h2;cases h2
 ⟨⟨[],by simp⟩,hl,fun h=>h,hm,fun k x h1 h2=>(no k x h1 h2).elim,fun k x h1 h2=>(no k x h1 h2).elim,fun _ _=>rfl,fun k x h1 h2=>(no k x h1 h2).elim⟩
theorem fw {α:Type} {a m:List α} {k:Nat} (h:k<a.length):(a ++ m)[k]? = a[k]? := List.getElem?_append_left h
theorem Told.then {G:Gr} {L L':List Vl} {s t u:VS} (A:Told G L s t) (B:Told G L' t u):Told G (L ++ L') s u:=by
 obtain ⟨m,hm⟩:=A.pre;obtain ⟨m',hm'⟩:=B.pre;have hsub:∀ x ∈ t.1,x ∈ u.1:=fun x hx=>by rw [hm'];simp [hx]
 have ht:s.1.length≤t.1.length:=by rw [hm];simp
 refine ⟨⟨m ++ m',by rw [hm',hm];simp⟩,B.len,fun h=>B.nodup (A.nodup h),fun v hv h3=>?_,fun k x hk hx v hv h3=>?_,fun k x hk hx=>?_,fun k hk=>?_,fun k x hk hx=>?_⟩
 ·rcases List.mem_append.1 hv with h | h
  ·exact hsub _ (A.met v h h3)
  ·exact B.met v h h3
 ·by_cases hlt:k<t.1.length
  ·rw [hm',fw hlt] at hx;exact hsub _ (A.shut k x hk hx v hv h3)
  ·exact B.shut k x (by omega) hx v hv h3
 ·by_cases hlt:k<t.1.length
  ·have hx':t.1[k]? = some x:=by rw [hm',fw hlt] at hx;exact hx
   rw [B.ae k hlt,A.node k x hk hx'];unfold eJ;rw [hm',mh (A.shut k x hk hx')]
  ·exact B.node k x (by omega) hx
 ·rw [B.ae k (by omega),A.ae k hk]
 ·by_cases hlt:k<t.1.length
  ·have hx':t.1[k]? = some x:=by rw [hm',fw hlt] at hx;exact hx
   rcases A.led k x hk hx' with h | ⟨j,y,h1,h0,h2,h3⟩
   ·exact .inl (by simp [h])
   ·exact .inr ⟨j,y,h1,h0,by rw [hm',fw (by omega)];exact h2,h3⟩
  ·rcases B.led k x (by omega) hx with h | ⟨j,y,h1,h0,h2,h3⟩
   ·exact .inl (by simp [h])
   ·exact .inr ⟨j,y,by omega,h0,h2,h3⟩
theorem jm {G:Gr} {U:List Int} {n:Nat} {f:Vl→VS→Vl × VS}
  (h:∀ v s,(v.1=3→v.2 ∈ U)→cK U s.1≤n→s.2.length=s.1.length→Told G [v] s (f v s).2∧(f v s).1=bu (f v s).2.1 v) :
  ∀ (l:List Vl) (s:VS),(∀ v ∈ l,v.1=3→v.2 ∈ U)→cK U s.1≤n→s.2.length=s.1.length→Told G l s (fldM f l s).2∧(fldM f l s).1=l.map (bu (fldM f l s).2.1)
 | [],s,_,_,hl=>⟨Told.refl G hl (fun v hv=>by cases hv),rfl⟩
 | v :: l,s,hL,hn,hl=>by
  obtain ⟨A,e⟩:=h v s (hL v (by simp)) hn hl;obtain ⟨m,hm⟩:=A.pre;have:=m8 U s.1 m;obtain ⟨B,e2⟩:=jm h l (f v s).2 (fun u hu=>hL u (by simp [hu])) (by rw [hm];omega) A.len;refine ⟨A.then B,?_⟩;simp only [fldM,List.map_cons];obtain ⟨m',hm'⟩:=B.pre;have h1:bu (fldM f l (f v s).2).2.1 v=bu (f v s).2.1 v:=by rw [hm'];exact mg (A.met v (by simp))
  rw [h1,←e,←e2]
theorem oR {G:Gr} {U:List Int} (I:m9 G U):∀ (n:Nat) (v:Vl) (s:VS),(v.1=3→v.2 ∈ U)→cK U s.1≤n→s.2.length=s.1.length →
  Told G [v] s (valM G n v s).2∧(valM G n v s).1=bu (valM G n v s).2.1 v:=by
 intro n
 induction n with
 | zero=>
  intro v s hv hn hl;by_cases h3:v.1=3
  ·have hm:=jS (Nat.le_zero.1 hn) (hv h3);rw [dx G _ h3 hm];refine ⟨Told.refl G hl (fun u hu h=>by rw [List.mem_singleton.1 hu];exact hm),?_⟩;simp [bu,cZ,h3,eu]
  ·rw [cj G _ _ h3];exact ⟨Told.refl G hl (fun u hu h=>absurd (by rw [←List.mem_singleton.1 hu];exact h) h3),by simp [bu,cZ,h3]⟩
 | succ n ih=>
  intro v s hv hn hl;by_cases h3:v.1=3
  ·by_cases hm:v.2 ∈ s.1
   ·rw [dx G _ h3 hm];refine ⟨Told.refl G hl (fun u hu h=>by rw [List.mem_singleton.1 hu];exact hm),?_⟩;simp [bu,cZ,h3,eu]
   ·have hu:=gN (hv h3) hm;obtain ⟨A,e⟩:=jm ih (G v.2).2 (s.1 ++ [v.2],s.2 ++ [((G v.2).1,[])]) (I.shut _ (hv h3)) (Nat.le_of_lt_succ (Nat.lt_of_lt_of_le hu hn)) (by simp [hl]);obtain ⟨m,hmm⟩:=A.pre;dsimp only at hmm;rw [df G n h3 hm];have hat:(fldM (valM G n) (G v.2).2 (s.1 ++ [v.2],s.2 ++ [((G v.2).1,[])])).2.1[s.1.length]? = some v.2:=by rw [hmm];simp
    have hlt:s.1.length<(fldM (valM G n) (G v.2).2 (s.1 ++ [v.2],s.2 ++ [((G v.2).1,[])])).2.1.length:=by rw [hmm];simp
    refine ⟨⟨⟨v.2 :: m,by dsimp only;rw [hmm];simp⟩,by dsimp only;rw [List.length_set];exact A.len,fun h=>A.nodup (by
      rw [List.nodup_append]
      exact ⟨h,by simp,fun a ha b hb e=>hm (by rw [←List.mem_singleton.1 hb,←e];exact ha)⟩),fun u hu h=>?_,fun k x hk hx u hu h=>?_,fun k x hk hx=>?_,fun k hk=>?_,fun k x hk hx=>?_⟩,?_⟩
    ·rw [List.mem_singleton.1 hu];dsimp only;rw [hmm];simp
    ·by_cases he:k=s.1.length
     ·subst he;dsimp only at hx ⊢;rw [hat] at hx;cases hx;exact A.met u hu h
     ·exact A.shut k x (by simp;omega) hx u hu h
    ·dsimp only at hx ⊢;by_cases he:k=s.1.length
     ·subst he;rw [hat] at hx;cases hx;rw [List.getElem?_set_self (by rw [A.len];exact hlt)];unfold eJ;rw [←e]
     ·rw [List.getElem?_set_ne (by omega)];exact A.node k x (by simp;omega) hx
    ·dsimp only;rw [List.getElem?_set_ne (by omega),A.ae k (by simp;omega)];dsimp only;rw [List.getElem?_append_left (by omega)]
    ·dsimp only at hx ⊢;by_cases he:k=s.1.length
     ·subst he;rw [hat] at hx;cases hx;left;rw [List.mem_singleton,←h3]
     ·right;rcases A.led k x (by simp;omega) hx with h | ⟨j,y,h1,h0,h2,h4⟩
      ·exact ⟨s.1.length,v.2,Nat.le_refl _,by omega,hat,h⟩
      ·exact ⟨j,y,by simp at h1;omega,h0,h2,h4⟩
    ·dsimp only;unfold bu cZ;rw [if_pos h3,hmm];dsimp only;rw [List.idxOf_append,if_pos (by simp),List.idxOf_append,if_neg hm];simp [eu]
  ·rw [cj G _ _ h3];exact ⟨Told.refl G hl (fun u hu h=>absurd (by rw [←List.mem_singleton.1 hu];exact h) h3),by simp [bu,cZ,h3]⟩
def gR (G:Gr) (roots:List Vl):List Int:=(fldM (valM G deep) roots ([],[])).2.1
theorem nV {G:Gr} {U:List Int} (I:m9 G U) (hU:U.length≤deep) {roots:List Vl} (hr:∀ v ∈ roots,v.1=3→v.2 ∈ U) :
  dZ G roots=(roots.map (bu (gR G roots)),(gR G roots).map fun x=>eJ (gR G roots) (G x))∧(gR G roots).Nodup∧(∀ v ∈ roots,v.1=3→v.2 ∈ gR G roots) ∧
  (∀ x ∈ gR G roots, ∀ v ∈ (G x).2,v.1=3→v.2 ∈ gR G roots)∧∀ (k:Nat) (x:Int),(gR G roots)[k]? = some x→((3,x):Vl) ∈ roots∨∃ (j:Nat) (y:Int),j<k∧(gR G roots)[j]? = some y∧((3,x):Vl) ∈ (G y).2:=by
 obtain ⟨A,e⟩:=jm (oR I deep) roots ([],[]) hr (Nat.le_trans (kL U) hU) rfl;unfold dZ;have hM:gR G roots=(fldM (valM G deep) roots ([],[])).2.1:=rfl;rw [←hM] at e;refine ⟨Prod.ext e ?_,A.nodup (by simp),A.met,fun x hx v hv h3=>?_,fun k x hx=>?_⟩
 ·refine List.ext_getElem? fun k=>?_;dsimp only;rw [List.getElem?_map,hM];cases hk:(fldM (valM G deep) roots ([],[])).2.1[k]? with
  | none=>
   rw [List.getElem?_eq_none_iff] at hk;rw [List.getElem?_eq_none (by rw [A.len];exact hk)];rfl
  | some x=>rw [A.node k x (by simp) hk];rfl
 ·obtain ⟨k,hk,rfl⟩:=List.mem_iff_getElem.1 hx;exact A.shut k _ (by simp) (Le hk) v hv h3
 ·rcases A.led k x (by simp) hx with h | ⟨j,y,h1,h0,h2,h3⟩
  ·exact .inl h
  ·exact .inr ⟨j,y,h0,h2,h3⟩
end
section
section
variable {O:Wo} {W:Wd} {φ:Int→Int}
def Wd.idx (W:Wd) (aV:Bool):List Int:=((List.range W.T.length).map (Int.ofNat ·)).filter fun i=>!(W.th i).dead && ((W.th i).aV == aV)
theorem Wd.nu {W:Wd} {b:Bool} {i:Int}:i ∈ W.idx b↔W.live i∧(W.th i).aV=b:=by
 unfold Wd.idx Wd.live;simp only [List.mem_filter,List.mem_map,List.mem_range,Bool.and_eq_true,Bool.not_eq_true',beq_iff_eq];constructor
 ·rintro ⟨⟨n,hn,rfl⟩,h1,h2⟩;exact ⟨⟨Int.natCast_nonneg n,Int.ofNat_lt.2 hn,h1⟩,h2⟩
 ·rintro ⟨⟨h0,h1,h2⟩,h3⟩;have h4:i.toNat<W.T.length:=by omega
  have h5:((i.toNat:Nat):Int)=i:=by omega
  exact ⟨⟨i.toNat,h4,h5⟩,h2,h3⟩
theorem kp (n:Nat):((List.range n).map (Int.ofNat ·)).Nodup:=by
 rw [List.Nodup,List.pairwise_map];refine List.Pairwise.imp ?_ (List.nodup_range (n:=n));intro a b h e;exact h (Int.ofNat.inj e)
theorem pV {l m:List Int} (h:l.Perm m):l.sum=m.sum:=by
 induction h with
 | nil=>rfl
 | cons x _ ih=>simp [ih]
 | swap x y l=>simp;omega
 | trans _ _ ih1 ih2=>exact ih1.trans ih2
theorem nW {l:List Int} (h:∀ x ∈ l,0≤x):0≤l.sum:=by
 induction l with
 | nil=>simp
 | cons a l ih=>simp only [List.sum_cons];have:=h a (by simp);have:=ih (fun x hx=>h x (by simp [hx]));omega
theorem jB {f:Int→Int} (h0:∀ i,0≤f i):∀ {l m:List Int},l.Nodup→(∀ i ∈ l,i ∈ m)→(l.map f).sum≤(m.map f).sum
 | [],m,_,_=>by simpa using nW (l:=m.map f) (fun x hx=>by obtain ⟨i,_,rfl⟩:=List.mem_map.1 hx;exact h0 i)
 | a :: l,m,hn,hs=>by
  have ha:=hs a (by simp);have hp:m.Perm (a :: m.erase a):=List.perm_cons_erase ha;rw [pV (hp.map f)];simp only [List.map_cons,List.sum_cons];rw [List.nodup_cons] at hn;have:=jB h0 (l:=l) (m:=m.erase a) hn.2 (fun i hi=>(List.mem_erase_of_ne (fun e=>hn.1 (by rw [←e];exact hi))).2 (hs i (by simp [hi])));omega
theorem gB {p:Int→Bool} {f:Int→Int}:∀ (l:List Int),((l.filter p).map f).sum=(l.map fun i=>if p i then f i else 0).sum
 | []=>rfl
 | a :: l=>by
  simp only [List.filter_cons,List.map_cons,List.sum_cons];cases h:p a
  ·simp [gB l]
  ·simp [gB l]
theorem nX (W:Wd) (p:Th→Bool):cX W.T p=(((List.range W.T.length).map (Int.ofNat ·)).map fun i=>if p (W.th i) then (W.th i).words else 0).sum:=by
 unfold cX;congr 1;apply List.ext_getElem
 ·simp
 ·intro k h1 h2;simp only [List.length_map] at h1;simp only [List.getElem_map,List.getElem_range];have e:W.th (Int.ofNat k)=W.T[k]:=by
   unfold Wd.th;rw [Ld,show (Int.ofNat k).toNat=k from rfl,Le h1];rfl
  rw [e]
theorem Wd.ra (W:Wd) (b:Bool):((W.idx b).map fun i=>(W.th i).words).sum=cX W.T fun t=>!t.dead && (t.aV == b):=by
 rw [nX];unfold Wd.idx;rw [gB]
end
end
section
section
variable {W:Wd}
def Wd.all (W:Wd):List Int:=W.idx false ++ W.idx true
theorem Wd.fL {i:Int}:i ∈ W.all↔W.live i:=by
 unfold Wd.all;rw [List.mem_append,Wd.nu,Wd.nu];constructor
 ·rintro (h | h) <;> exact h.1
 ·intro h;cases ho:(W.th i).aV
  ·exact .inl ⟨h,rfl⟩
  ·exact .inr ⟨h,rfl⟩
theorem Wd.nw (h:W.ok) {i:Int} (hi:W.live i) {v:Vl} (hv:v ∈ (W.gr i).2) (h3:v.1=3):W.live v.2:=by
 unfold Wd.gr at hv;dsimp only at hv;rcases List.mem_append.1 hv with h1 | h1
 ·exact Wd.bp (h.tv i hi v h1) h3
 ·split at h1
  ·obtain ⟨x,hx,rfl⟩:=List.mem_map.1 h1;unfold cS at hx;obtain ⟨e,he,rfl⟩:=List.mem_map.1 hx;exact (h.wv e (List.mem_filter.1 he).1).2.2
  ·cases h1
theorem Wd.rV (h:W.ok):m9 W.gr W.all:=⟨fun i hi v hv h3=>Wd.fL.2 (Wd.nw h (Wd.fL.1 hi) hv h3)⟩
theorem Wd.kQ (h:W.ok):W.all.length≤1300:=by
 have key:∀ b,((W.idx b).length:Int)≤((W.idx b).map fun i=>(W.th i).words).sum:=fun b=>by
  generalize W.idx b=l
  induction l with
  | nil=>simp
  | cons a l ih=>
   have hw:(W.th a).words=1+((W.th a).fs.length:Int):=rfl;simp only [List.length_cons,List.map_cons,List.sum_cons];omega
 have h1:=key false;have h2:=key true;rw [Wd.ra] at h1 h2;have e1:(cX W.T fun t=>!t.dead && (t.aV == false))=W.aL:=by unfold Wd.aL;congr 1;funext t;cases t.aV <;> rfl
 have e2:(cX W.T fun t=>!t.dead && (t.aV == true))=W.bq:=by unfold Wd.bq;congr 1;funext t;cases t.aV <;> rfl
 rw [e1] at h1;rw [e2] at h2;have:=h.uy;have:=h.uo;have:=h.m2;have:=h.g2;unfold Wd.all;rw [List.length_append];omega
def Wd.met (W:Wd):List Int:=gR W.gr W.roots
structure Seen (W:Wd):Prop where
 eq:W.view=(W.roots.map (bu W.met),W.met.map fun x=>eJ W.met (W.gr x))
 nd:W.met.Nodup
 rt:∀ v ∈ W.roots,v.1=3→v.2 ∈ W.met
 fd:∀ x ∈ W.met, ∀ v ∈ (W.gr x).2,v.1=3→v.2 ∈ W.met
 led:∀ (k:Nat) (x:Int),W.met[k]? = some x→((3,x):Vl) ∈ W.roots∨∃ (j:Nat) (y:Int),j<k∧W.met[j]? = some y∧((3,x):Vl) ∈ (W.gr y).2
 lv:∀ x ∈ W.met,W.live x
theorem Wd.seen (h0:W.ok):Seen W:=by
 have h:=h0;have hr:∀ v ∈ W.roots,v.1=3→v.2 ∈ W.all:=fun v hv h3=>Wd.fL.2 (Wd.bp (h.rv v hv) h3);obtain ⟨h1,h2,h3,h4,h5⟩:=nV (Wd.rV h) (by have:=Wd.kQ h;unfold deep;omega) hr;refine ⟨h1,h2,h3,h4,h5,?_⟩;have key:∀ (k:Nat) (x:Int),W.met[k]? = some x→W.live x:=by
  intro k
  induction k using Nat.strongRecOn with
  | _ k ih=>
   intro x hx;rcases h5 k x hx with h | ⟨j,y,hj,hy,hm⟩
   ·exact Wd.bp (h0.rv _ h) rfl
   ·exact Wd.nw h0 (ih j hj y hy) hm rfl
 intro x hx;obtain ⟨k,hk,rfl⟩:=List.mem_iff_getElem.1 hx;exact key k _ (Le hk)
theorem Seen.lens (S:Seen W) (h:W.ok):W.view.1.length=12∧W.view.2.length≤1300∧∀ n ∈ W.view.2,n.2.length≤100:=by
 rw [S.eq];refine ⟨by simpa using h.hr,?_,fun n hn=>?_⟩
 ·dsimp only;rw [List.length_map];have hsub:∀ x ∈ W.met,x ∈ W.all:=fun x hx=>Wd.fL.2 (S.lv x hx);have h1:=jB (f:=fun _=>1) (fun _=>by decide) S.nd hsub;have e:∀ l:List Int,(l.map fun _=>(1:Int)).sum=l.length:=fun l=>by
   induction l with
   | nil=>rfl
   | cons a l ih=>simp only [List.map_cons,List.sum_cons,ih,List.length_cons];omega
  rw [e,e] at h1;have:=Wd.kQ h;omega
 ·obtain ⟨x,hx,rfl⟩:=List.mem_map.1 hn;have hl:=S.lv x hx;have h1:=(aX (h.tk x hl)).2.2.2;have h2:=h.hq;have h3:(cS W.wait x).length≤W.wait.length:=by unfold cS;rw [List.length_map];exact List.length_filter_le _ _
  unfold eJ Wd.gr;simp only [List.length_map,List.length_append];split
  ·rw [List.length_map];omega
  ·simp;omega
end
end
section
open Go.RowKit
structure rW where
 mb:Nat
 wb:Nat
 vb:Nat
 fb:Nat
section
variable {w w':World} {g:rW} {h:RW} {W:Wd} {rv mv nv:Value} {F:Nat→Prop} {s:VS}
end
end
section
open Go.RowKit
section
variable {w w':World} {g:rW} {h:RW} {W:Wd} {rv mv nv:Value} {F:Nat→Prop} {s:VS}
theorem aa.cellAt {S:Nat→Prop} {w w':World} (k:aa S w w') {b:Nat} (hb:b<w.heap.size) (hn:¬ S b) (i:Nat):w'.cell? ⟨b,i,none⟩=w.cell? ⟨b,i,none⟩:=
 World.cell?_of_block (w:=w) (a:=⟨b,i,none⟩) (k.block b hb hn)
section
variable {ao:Option Addr} {fs:List Vl} {w1 wr w2 wa:World} {xb rb tb:Nat} {tc xc rc:List Value} {lv lv2 mv' nv':Value} {l:List Vl} {F':Nat→Prop} {s2:VS} {v:Vl}
end
theorem oS {G:Gr} {U:List Int} (I:m9 G U) {n:Nat} {x:Int} {s:VS} (hx:x ∈ U) (j:Nat) (h:cK U (s.1 ++ [x])≤n) (hc:(s.1 ++ [x]).length+cK U (s.1 ++ [x])≤5000) :
  cK U (NS G n x s j).2.1≤n∧(NS G n x s j).2.1.length+cK U (NS G n x s j).2.1≤5000:=by
 unfold NS;obtain ⟨m,hm⟩:=iG (iH G n) ((G x).2.take j) (s.1 ++ [x],s.2 ++ [((G x).1,[])]);have h1:=m8 U (s.1 ++ [x]) m;have h2:=fp (f:=valM G n) (U:=U) (iK I n) ((G x).2.take j) (s.1 ++ [x],s.2 ++ [((G x).1,[])]) (fun v hv=>I.shut x hx v (List.mem_of_mem_take hv));rw [hm] at h2 ⊢;dsimp only at h2 ⊢;exact ⟨by omega,by omega⟩
theorem re (G:Gr) (n:Nat) (x:Int) (s:VS) (j:Nat) (hl:s.2.length=s.1.length):(NS G n x s j).2.2.length=(NS G n x s j).2.1.length:=by
 unfold NS;exact iI (iJ G n) _ _ (by simp [hl])
end
end
section
open Go.RowKit
section
variable {w:World} {g:rW} {h:RW} {W:Wd} {tb:Nat}
variable {wr w2:World} {rv mv nv:Value} {F:Nat→Prop} {s s2:VS} {l:List Vl}
end
def TR (W:Wd) (k:Nat):List Vl × VS:=fldM (valM W.gr 5000) (W.roots.take k) ([],[])
theorem rf {W:Wd} {k:Nat} (h:k<W.roots.length):TR W (k+1)=((TR W k).1 ++ [(valM W.gr 5000 (W.roots.getD k (0,0)) (TR W k).2).1],(valM W.gr 5000 (W.roots.getD k (0,0)) (TR W k).2).2):=by
 unfold TR;have e:W.roots[k]? = some (W.roots.getD k (0,0)):=by rw [Le h];simp [List.getD,h]
 rw [List.take_add_one,e,Option.toList_some,iE]
 rfl
theorem rX {W:Wd} {k:Nat} (h:k≤W.roots.length):(TR W k).1.length=k:=by
 unfold TR;rw [iF,List.length_take];omega
theorem qD {W:Wd} (h:W.ok) (k:Nat):cK W.all (TR W k).2.1≤5000∧(TR W k).2.1.length+cK W.all (TR W k).2.1≤5000:=by
 have I:=Wd.rV h;unfold TR;have h1:=Wd.kQ h;have h2:=kL W.all;have h3:=fp (f:=valM W.gr 5000) (U:=W.all) (iK I 5000) (W.roots.take k) ([],[]) (fun v hv h3=>Wd.fL.2 (Wd.bp (h.rv v (List.mem_of_mem_take hv)) h3));simp only [List.length_nil] at h3;exact ⟨by omega,by omega⟩
end
section
open Go.RowKit
theorem mR (k:Int):k=1∨k=2∨k=3∨k=4∨k=5∨k=6∨k=7∨k=8∨k=9∨k=10∨k=11∨k=12∨k=13∨k=14∨k=15∨k=16∨(k<1∨16<k):=by omega
theorem cH {a b:Int} (h:a=b):(Ending.returned (.int .i64 a))=.returned (.int .i64 b):=by rw [h]
theorem oT (k:Int) (w:World):Calls Try.prog 70 #[.int .i64 k] w fun e w'=>e=.returned (.int .i64 (aJ k))∧aa (fun _=>False) w w':=by
 rcases mR k with rfl | rfl | rfl | rfl | rfl | rfl | rfl | rfl | rfl | rfl | rfl | rfl | rfl | rfl | rfl | rfl | h
 case inr.inr.inr.inr.inr.inr.inr.inr.inr.inr.inr.inr.inr.inr.inr.inr=>
  have HE:=Hz (show aJ k=-1 by unfold aJ;repeat' (rw [if_neg (by omega)]));have e1:(k == 1)=false:=by simp;omega
  have e2:(k == 2)=false:=by simp;omega
  have e3:(k == 3)=false:=by simp;omega
  have e4:(k == 4)=false:=by simp;omega
  have e5:(k == 5)=false:=by simp;omega
  have e6:(k == 6)=false:=by simp;omega
  have e7:(k == 7)=false:=by simp;omega
  have e8:(k == 8)=false:=by simp;omega
  have e9:(k == 9)=false:=by simp;omega
  have e10:(k == 10)=false:=by simp;omega
  have e11:(k == 11)=false:=by simp;omega
  have e12:(k == 12)=false:=by simp;omega
  have e13:(k == 13)=false:=by simp;omega
  have e14:(k == 14)=false:=by simp;omega
  have e15:(k == 15)=false:=by simp;omega
  have e16:(k == 16)=false:=by simp;omega
  clear h;go_enter Try.func70,Try.ntmps70;go_wp2_with fail;go_ret;exact ⟨cH HE.out.symm,aa.refl _ _⟩
 all_goals
  go_enter Try.func70,Try.ntmps70;go_wp2_with fail;go_ret;exact ⟨cH rfl,aa.refl _ _⟩
theorem nY (k:Int):aJ k=-1∨aJ k=0∨aJ k=1∨aJ k=3∨aJ k=6∨aJ k=7:=by
 unfold aJ
 repeat' split
 all_goals simp
def St.mi (x:St) (j:Nat):Int:=if j=0 then x.r else if j=1 then x.a else x.b
def fZ (u:Int) (j:Nat):Bool:=decide (u/2 ^ j%2=1)
theorem mS {x:St} (h:aJ x.k=-1):bZ x=2:=by unfold bZ;rw [if_pos h]
theorem mT {x:St} (h:aJ x.k≠-1) {j:Nat} (hj:j<3) (hb:fZ (aJ x.k) j=true) (hr:cD (x.mi j)=false):bZ x=1:=by
 unfold bZ;rw [if_neg h,if_pos];unfold fZ at hb;have hb:aJ x.k/2 ^ j%2=1:=by simpa using hb
 rcases (by omega:j=0∨j=1∨j=2) with rfl | rfl | rfl
 ·exact .inl ⟨by simpa using hb,hr⟩
 ·exact .inr (.inl ⟨by simpa using hb,hr⟩)
 ·exact .inr (.inr ⟨by simpa using hb,hr⟩)
theorem mU {x:St} (h:aJ x.k≠-1) (hb:∀ j,j<3→fZ (aJ x.k) j=true→cD (x.mi j)=true) :
  bZ x=if x.k=1∧¬ (-dy≤x.n∧x.n<dy) then 1 else if x.k=5∧¬ (0≤x.n∧x.n≤12) then 1 else 0:=by
 unfold bZ;rw [if_neg h,if_neg];rintro (⟨h1,h2⟩ | ⟨h1,h2⟩ | ⟨h1,h2⟩)
 ·have:=hb 0 (by decide) (by unfold fZ;simpa using h1);rw [show x.mi 0=x.r from rfl,h2] at this;cases this
 ·have:=hb 1 (by decide) (by unfold fZ;simpa using h1);rw [show x.mi 1=x.a from rfl,h2] at this;cases this
 ·have:=hb 2 (by decide) (by unfold fZ;simpa using h1);rw [show x.mi 2=x.b from rfl,h2] at this;cases this
section
variable {w:World} {h:RW} {W:Wd}
end
end
section
open Go.RowKit
@[go_sem] theorem pG {P:Program} {a:Addr} {m:Mode} {w:World} (f:Fn) (x y:Array Value):(store a (.func f x y) m).run P w=stored P w a (.func f x y) m:=run_store P w a _ m rfl
section
variable {h:RW} {W:Wd}
end
end
section
def jn (n:Nat) (v:Vl):Prop:=v.1=3→0≤v.2∧v.2<n
def eK (l:List Bool) (v:Vl):List Bool:=if aO l v=true then l else l.set v.2.toNat true
theorem pW (l:List Bool) (v:Vl):(eK l v).length=l.length:=by unfold eK;split <;> simp
theorem kq {l:List Bool} {v:Vl} (h:aO l v=false):v.1=3∧av l v.2=false:=by
 unfold aO at h;simp only [Bool.or_eq_false_iff,bne_eq_false_iff_eq] at h;exact h
theorem gG {l:List Bool} {v:Vl} (h:aO l v=true):v.1=3→av l v.2=true:=fun h3=>by
 unfold aO at h;simpa [h3] using h
def ir (l:List Bool):Nat:=(l.filter (! ·)).length
theorem nz:∀ {l:List Bool} {i:Nat},i<l.length→l.getD i false=false→ir (l.set i true)+1=ir l
 | [],i,h,_=>by simp at h
 | b :: l,0,_,h=>by
  have:b=false:=by simpa using h
  subst this;simp [ir]
 | b :: l,i+1,h,h2=>by
  have ih:=nz (l:=l) (i:=i) (by simpa using h) (by simpa using h2);unfold ir at *;cases b <;> simp at ih ⊢ <;> omega
theorem rh {l:List Bool} {v:Vl} (hv:jn l.length v) (h:aO l v=false):ir (eK l v)+1=ir l:=by
 obtain ⟨h3,h4⟩:=kq h;obtain ⟨h0,h1⟩:=hv h3;unfold eK;rw [if_neg (by rw [h];decide)];exact nz (by omega) (by unfold av at h4;simpa [h0] using h4)
theorem jJ {W:Wd} {q:List (Int × Int)} {l:List Bool} {i:Int} (hk:(W.th i).k=1∨(W.th i).k=2) {v:Vl} (hv:v ∈ (W.th i).fs):v.1=3→ed W.nd q (fun k=>av l k=true) i v.2:=fun h3=>
 .inl ⟨hk,by show (3,v.2) ∈ (W.th i).fs;rw [←h3];exact hv⟩
theorem oU {W:Wd} {q:List (Int × Int)} {l:List Bool} {i:Int} (hk:(W.th i).k=3) {u v:Vl} (hf:(W.th i).fs=[u,v]):v.1=3→ed W.nd q (fun k=>av l k=true) i v.2:=fun h3=>
 .inr (.inl ⟨hk,by show (W.th i).fs[1]? = _;rw [hf,←h3];rfl⟩)
theorem mm {W:Wd} {q:List (Int × Int)} {l:List Bool} {i:Int} (hk:(W.th i).k=4) {u v:Vl} (hf:(W.th i).fs=[u,v]) (h:aO l u=true):v.1=3→ed W.nd q (fun k=>av l k=true) i v.2:=fun h3=>
 .inr (.inr (.inl ⟨hk,by show (W.th i).fs[1]? = _;rw [hf,←h3];rfl,fun x hx h3'=>by
  have hx:(W.th i).fs[0]? = some x:=hx;rw [hf] at hx;simp at hx;subst hx
  exact gG h h3'⟩))
theorem nZ {W:Wd} {q:List (Int × Int)} {l:List Bool} {i:Int} (hk:(W.th i).k=5) {e:Int × Int} (he:e ∈ q) (h1:e.1=i):((3,e.2):Vl).1=3→ed W.nd q (fun k=>av l k=true) i ((3,e.2):Vl).2:=fun _=>
 .inr (.inr (.inr ⟨hk,by rw [←h1];exact he⟩))
end
section
structure Gs where
 lv:List Bool
 st:List Int
 ep:List Int
def ks (s:Gs) (x:Int):Bool:=!decide (x%4=1) || av s.lv (x/4)
def kt (s:Gs) (x:Int):Gs:=if ks s x=true then s else ⟨s.lv.set (x/4).toNat true,s.st ++ [x/4],s.ep⟩
def oV (s:Gs) (l:List Int):Gs:=l.foldl kt s
def sO (A:Ar) (s:Gs) (i:Int):Gs:=
 if (A.au i).1=1∨(A.au i).1=2 then oV s (A.fields i)
 else if (A.au i).1=3 then kt s (A.load (i+2))
 else if (A.au i).1=4 then { s with ep:=s.ep ++ [i] }
 else s
def tm (A:Ar) (s:Gs):Gs:=sO A { s with st:=s.st.dropLast } (s.st.getLastD 0)
def jPops (A:Ar):Nat→Gs→Gs
 | 0,s=>s
 | n+1,s=>if s.st=[] then s else jPops A n (tm A s)
def sP (A:Ar) (s:Gs) (i:Int):Gs:=if ks s (A.load (i+1))=true then kt s (A.load (i+2)) else s
def tp (A:Ar) (s:Gs) (l:List Int):Gs:=l.foldl (sP A) s
def tB (s:Gs) (x:Int):Gs × Int:=(kt s x,x)
def mn (A:Ar) (q:List (Int × Int)) (s:Gs):Gs:=(wakeM ks tB (tp A (jPops A 2000 s) (jPops A 2000 s).ep) q).1
def mq (A:Ar) (q:List (Int × Int)):Nat→Gs→Gs
 | 0,s=>s
 | n+1,s=>if (mn A q s).st=[] then mn A q s else mq A q n (mn A q s)
def sQ (A:Ar) (s:Gs) (q:List (Int × Int)) (x:Int):Gs × List (Int × Int) × Int:=(mq A q 2000 (kt s x),q,x)
def tq (O:Wo):Gs:=mq O.ar O.wt 2000 (oV ⟨List.replicate O.ar.ws.length false,[],[]⟩ O.rt)
def qE (O:Wo):Gs × List (Int × Int) × List It:=ec ks (sQ O.ar) (tq O) O.rg O.wt
def jPlan (A:Ar) (lv:List Bool) (base:Int):List Int→List Int × Int→List Int × Int
 | [],t=>t
 | i :: l,t=>jPlan A lv base l (if av lv i=true then (t.1.set i.toNat (base+t.2),t.2+(1+(A.au i).2.1)) else t)
def rY (O:Wo):List Int:=O.ar.oH.2 ++ O.ar.oH.1
def kR (O:Wo):List Int:=(rY O).filter fun i=>av (qE O).1.lv i
def qF (O:Wo):List Int × Int:=jPlan O.ar (qE O).1.lv O.ar.nur (rY O) (List.replicate O.ar.ws.length 0,0)
section
variable {O:Wo} {W:Wd} {φ:Int→Int} {s s':Gs} {S S' Al Ex:Int→Prop} {qw:List (Int × Int)}
end
end
section
def s7 (sz f:Int→Int):List Int→Int→Int→Prop
 | [],a,b=>a=b
 | p :: l,a,b=>f p=a∧s7 sz f l (a+sz p) b
def sR (f:List Int) (p:Int):Int:=f.getD p.toNat 0
def wd (A:Ar) (i:Int):Int:=A.ws.getD i.toNat 0
def rZ (sz:Int→Int) (n:Int):List Int→Int→Prop
 | [],_=>True
 | p :: l,a=>0≤a∧0≤p∧p+sz p≤n∧a+sz p≤n∧(∀ q ∈ l,a+sz p≤q∨q+sz q≤a)∧rZ sz n l (a+sz p)
end
section
section
variable {O:Wo} {W:Wd} {φ:Int→Int}
structure Pl (O:Wo) (W:Wd) (φ:Int→Int) (is:List Bool) (N:List Int):Prop where
 eq:N.map φ=kR O
 nd:N.Nodup
 nm:∀ i,i ∈ N↔av is i=true
 sit:s7 (fun p=>1+(O.ar.au p).2.1) (sR (qF O).1) (kR O) O.ar.nur (O.ar.nur+(qF O).2)
 sum:(qF O).2=fI is W.T
 slid:(qF O).2≤(O.ar.ws.length:Int)-O.ar.nur→rZ (fun p=>1+(O.ar.au p).2.1) O.ar.ws.length (kR O) O.ar.nur
end
end
section
section
variable {O:Wo} {W:Wd} {φ:Int→Int}
theorem jY (W:Wd) (r:Int) (v:Vl):(W.aP r v).T.length=W.T.length:=rfl
theorem pX (W:Wd) (i:Int) (fs:List Vl):(W.cm i fs).T.length=W.T.length:=by simp [Wd.cm]
def dO (l:List Nd):Int:=(l.map fun n=>1+if n.1=5 then 0 else (n.2.length:Int)).sum
theorem Wd.pY (hok:W.ok):dO W.view.2=(W.met.map fun i=>(W.th i).words).sum:=by
 have S:=Wd.seen hok;rw [S.eq];unfold dO;dsimp only;rw [List.map_map];congr 1;refine List.map_congr_left fun i hi=>?_;have hl:=S.lv i hi;have hf:=hok.tk i hl;simp only [Function.comp];unfold eJ Wd.gr Th.words;dsimp only;by_cases h5:(W.th i).k=5
 ·rw [if_pos h5];have:(W.th i).fs.length=0:=by
   rw [h5] at hf;simp [aQ] at hf;rw [hf];rfl
  omega
 ·rw [if_neg h5,if_neg h5,List.append_nil,List.length_map]
theorem n3 (W:Wd) (is:List Bool):fI is W.T=(((List.range W.T.length).map (Int.ofNat ·)).map fun i=>if av is i then (W.th i).words else 0).sum:=by
 unfold fI;congr 1;apply List.ext_getElem
 ·simp
 ·intro k h1 h2;simp only [List.length_mapIdx] at h1;simp only [List.getElem_mapIdx,List.getElem_map,List.getElem_range];have e1:av is (Int.ofNat k)=is.getD k false:=cG is k;have e2:W.th (Int.ofNat k)=W.T[k]:=by
   unfold Wd.th;rw [show (Int.ofNat k).toNat=k from rfl,Ld,Le h1];rfl
  rw [e1,e2]
theorem jo (t:Th):0≤t.words:=by unfold Th.words;omega
end
end
section
section
variable {O:Wo} {W:Wd} {φ:Int→Int}
theorem Wd.ri (W:Wd) (major:Bool):(W.cut major).2.T.length=W.T.length:=by
 unfold Wd.cut;split
 ·rfl
 ·split
  ·rfl
  ·exact Wd.eZ
end
end
section
theorem mV {α β:Type} (f:Nat→α→β) (l:List α) (a:α):(l ++ [a]).mapIdx f=l.mapIdx f ++ [f l.length a]:=by
 simp [List.mapIdx_append]
def eU (is:List Bool) (l:List Th) (k:Nat):Int:=fI is (l.take k)
theorem lr {is:List Bool} {l:List Th} {k:Nat} (h:k<l.length):eU is l (k+1)=eU is l k+(if is.getD k false then (l.getD k Th.none).words else 0):=by
 unfold eU fI;rw [←List.take_append_getElem h,mV,List.sum_append,List.length_take,Nat.min_eq_left (by omega),Ld (l:=l),Le h];simp
theorem lu (is:List Bool) (l:List Th):eU is l 0=0:=by simp [eU,fI]
theorem pZ (is:List Bool) (l:List Th):eU is l l.length=fI is l:=by simp [eU]
theorem nA {W:Wd} (h:W.ok) {is:List Bool} (hl:∀ i,av is i=true→W.live i):∀ k:Nat,k≤W.T.length→0≤eU is W.T k∧eU is W.T k≤13*k
 | 0,_=>by rw [lu];omega
 | k+1,hk=>by
  have ih:=nA h hl k (by omega);rw [lr (by omega)];split
  ·rename_i hb;have hlv:=hl (k:Int) (by rw [cG];exact hb);have hf:=aX (h.tk _ hlv);have e:W.th (k:Int)=W.T.getD k Th.none:=by unfold Wd.th;rw [Int.toNat_natCast]
   rw [e] at hf;unfold Th.words;omega
  ·omega
def dU (is:List Bool) (l:List Th) (k:Nat):List Th:=l.mapIdx fun i t=>if i<k then bV is i t else t
theorem oW (is:List Bool) (l:List Th):dU is l 0=l:=by
 unfold dU;apply List.ext_getElem (by simp);intro j h1 h2;simp
theorem p8 (is:List Bool) (l:List Th):dU is l l.length=gA is l:=by
 unfold dU gA;apply List.ext_getElem (by simp);intro j h1 h2;have:j<l.length:=by simpa using h2
 simp [this]
theorem ew (is:List Bool) (l:List Th) (k:Nat):(dU is l k).length=l.length:=by simp [dU]
theorem mr (is:List Bool) (l:List Th) {k:Nat} (h:k<l.length):(dU is l k)[k]'(by rw [ew];exact h)=l[k]:=by simp [dU]
theorem oX (is:List Bool) (l:List Th) {k:Nat} (h:k<l.length):(dU is l k).set k (bV is k l[k])=dU is l (k+1):=by
 unfold dU;apply List.ext_getElem (by simp);intro j h1 h2;simp only [List.getElem_set,List.getElem_mapIdx];by_cases e:k=j
 ·subst e;simp
 ·rw [if_neg e];by_cases e2:j<k
  ·rw [if_pos e2,if_pos (by omega)]
  ·rw [if_neg e2,if_neg (by omega)]
theorem rj {is:List Bool} {k:Nat} {t:Th} (h:is.getD k false=false):bV is k t=⟨t.k,[],t.aV,true⟩:=by unfold bV;rw [if_neg (by rw [h];decide)]
theorem jZ {is:List Bool} {k:Nat} {t:Th} (h:is.getD k false=true) {u v:Vl} (hk:t.k=4) (hf:t.fs=[u,v]):bV is k t=⟨t.k,if aO is u=false then [(2,0),(2,0)] else t.fs,true,t.dead⟩:=by
 unfold bV;rw [if_pos h,hf,hk];simp
theorem lx {is:List Bool} {k:Nat} {t:Th} (h:is.getD k false=true) {u v:Vl} (hk:t.k=3) (hf:t.fs=[u,v]):bV is k t=⟨t.k,if aO is u=false then [(2,0),v] else t.fs,true,t.dead⟩:=by
 unfold bV;rw [if_pos h,hf,hk];simp
theorem ku {is:List Bool} {k:Nat} {t:Th} (h:is.getD k false=true) (h3:t.k≠3) (h4:t.k≠4):bV is k t=⟨t.k,t.fs,true,t.dead⟩:=by
 unfold bV;rw [if_pos h,if_neg (fun h=>h4 h.1),if_neg (fun h=>h3 h.1)]
end
section
section
variable {W:Wd}
def Wd.dq (W:Wd) (g:Bool) (is:List Bool) (q:List (Int × Int)):Prop:=∀ i,av is i=true→aU W.nd q (fun k=>av (W.first g) k=true) i
theorem Wd.dq.start (g:Bool):W.dq g (W.b8 W.wait (W.first g)) W.wait:=fun i hi=>(bC.1 hi).2.2
theorem Wd.dq.ae {g:Bool} {is:List Bool} {q:List (Int × Int)} (h:W.dq g is q) (hlen:is.length=W.T.length) {a x:Int} (hx:W.live x) (ha:av is a=true) (hk:(W.th a).k=5) :
  W.dq g (W.b8 q (is.set x.toNat true)) (q ++ [(a,x)]):=by
 intro i hi;have hup:∀ k,aU W.nd q (fun k=>av (W.first g) k=true) k→aU W.nd (q ++ [(a,x)]) (fun k=>av (W.first g) k=true) k:=fun k hk=>hk.mono (fun _ h=>aU.base h) (fun e he=>by simp [he]);refine (bC.1 hi).2.2.mono (fun k hk'=>?_) (fun e he=>by simp [he]);rcases (eE hx.1 (by rw [hlen];exact hx.2.1)).1 hk' with rfl | h1
 ·exact aU.closed _ _ _ a k (hup a (h a ha)) (.inr (.inr (.inr ⟨hk,by simp⟩)))
 ·exact hup k (h k h1)
theorem Wd.dq.scan (hok:W.ok) {g:Bool}:∀ (l:List It) (is:List Bool) (q:List (Int × Int)),W.dL g is q→W.dq g is q→(∀ i ∈ l,W.eY i.1) →
  W.dq g (scanM av W.bh is q l).1 (scanM av W.bh is q l).2.1
 | [],is,q,_,h,_=>h
 | i :: l,is,q,m,h,hl=>by
  have hi:=hl i (by simp);simp only [scanM];split
  ·rename_i hc;simp only [Bool.and_eq_true,Bool.not_eq_true'] at hc;obtain ⟨m',_,_⟩:=m.ae hok (g:=i.1.1) (x:=i.1.2) hi.2.2 hi.1 hi.2.1;simp only [Wd.bh];exact Wd.dq.scan hok l _ _ m' (h.ae m.len hi.2.2 hc.2 hi.2.1) (fun j hj=>hl j (by simp [hj]))
  ·exact Wd.dq.scan hok l is q m h (fun j hj=>hl j (by simp [hj]))
theorem Wd.dq.rounds (hok:W.ok) {g:Bool}:∀ (n:Nat) (l:List It) (is:List Bool) (q:List (Int × Int)),W.dL g is q→W.dq g is q→(∀ i ∈ l,W.eY i.1) →
  W.dq g (roundsM av W.bh n is q l).1 (roundsM av W.bh n is q l).2.1
 | 0,l,is,q,_,h,_=>h
 | n+1,l,is,q,m,h,hl=>by
  have hs:=Wd.dL.scan hok l is q m hl;have hs2:=h.scan hok l is q m hl;simp only [roundsM];split
  ·exact Wd.dq.rounds hok n _ _ _ hs.1 hs2 (ko is q hl)
  ·exact hs2
theorem Wd.kv (hok:W.ok) (g:Bool):W.dq g (W.pass g).1 (W.pass g).2.1:=
 Wd.dq.rounds hok (W.regs.length+1) (bY av (W.b8 W.wait (W.first g)) W.regs) _ _ (Wd.dL.start hok g) (Wd.dq.start g) (by
  intro i hi;simp only [bY,List.mem_map] at hi;obtain ⟨e,he,rfl⟩:=hi
  exact hok.gv e he)
theorem Wd.p9 {g:Bool} {i:Int} (h0:0≤i) (h1:i<W.T.length):(W.after g).nd i=((W.th i).k,(bV (W.pass g).1 i.toNat (W.th i)).fs):=by
 show (((W.after g).th i).k,((W.after g).th i).fs)=_
 rw [Wd.di h0 h1,g3]
theorem Wd.n4 {g:Bool} {e:Int × Int} (he:e ∈ (W.pass g).2.1) (ha:av (W.pass g).1 e.1=true):e ∈ (W.after g).wait:=by
 show e ∈ bG av fq _ _
 unfold bG;exact List.mem_map.2 ⟨e,List.mem_filter.2 ⟨he,ha⟩,rfl⟩
theorem Wd.mW {i:Int} (h0:0≤i) (h1:i<W.T.length):av ((W.after true).first true) i=true↔av (W.first true) i=true:=by
 rw [Wd.cL,Wd.cL,Wd.eZ];constructor
 ·rintro ⟨a,b,c | c⟩
  ·exact absurd c.2.2 (by decide)
  ·exact ⟨a,b, .inr c⟩
 ·rintro ⟨a,b,c | c⟩
  ·exact absurd c.2.2 (by decide)
  ·exact ⟨a,b, .inr c⟩
theorem Wd.mX (hok:W.ok) {i:Int} (hi:av (W.pass true).1 i=true):aU (W.after true).nd (W.after true).wait (fun k=>av ((W.after true).first true) k=true) i:=by
 obtain ⟨m,_⟩:=Wd.dh hok true;refine ((Wd.kv hok true i hi).least (S:=fun k=>av (W.pass true).1 k=true∧aU (W.after true).nd (W.after true).wait (fun k=>av ((W.after true).first true) k=true) k) (fun k hk=>?_) (fun a b ha hl=>?_)).2
 ·have hb:=ev hk;rw [Wd.dg] at hb;exact ⟨m.first k hk,aU.base ((Wd.mW hb.1 hb.2).2 hk)⟩
 ·obtain ⟨ha1,ha2⟩:=ha;have hb1:av (W.pass true).1 b=true:=m.shut a b ha1 (hl.mono (fun k hk=>hk.1) (fun _ h=>h));refine ⟨hb1,aU.closed _ _ _ a b ha2 ?_⟩;have hlv:=m.live a ha1;have hat:(W.pass true).1.getD a.toNat false=true:=by rw [cJ hlv.1];exact ha1
  have hnd:=Wd.p9 (W:=W) (g:=true) hlv.1 hlv.2.1;have hf:=hok.tk a hlv;rcases hl with ⟨h1,h2⟩ | ⟨h1,h2⟩ | ⟨h1,h2,h3⟩ | ⟨h1,h2⟩
  ·have h1':(W.th a).k=1∨(W.th a).k=2:=h1;refine .inl ⟨by rw [hnd];exact h1,?_⟩;rw [hnd,ku hat (by omega) (by omega)];exact h2
  ·have h1':(W.th a).k=3:=h1;have h2':(W.th a).fs[1]? = some (3,b):=h2;obtain ⟨u,v,huv⟩:∃ u v,(W.th a).fs=[u,v]:=by
    rw [h1'] at hf;simp [aQ] at hf
    match hh:(W.th a).fs,hf with
    | [],hf=>simp at hf
    | [x],hf=>simp at hf
    | [x,y],_=>exact ⟨x,y,rfl⟩
    | x :: y :: z :: l,hf=>simp at hf;omega
   refine .inr (.inl ⟨by rw [hnd];exact h1,?_⟩);rw [hnd,lx hat h1' huv];dsimp only;split
   ·rw [huv] at h2';exact h2'
   ·exact h2'
  ·have h1':(W.th a).k=4:=h1;have h2':(W.th a).fs[1]? = some (3,b):=h2;obtain ⟨u,v,huv⟩:∃ u v,(W.th a).fs=[u,v]:=by
    rw [h1'] at hf;simp [aQ] at hf
    match hh:(W.th a).fs,hf with
    | [],hf=>simp at hf
    | [x],hf=>simp at hf
    | [x,y],_=>exact ⟨x,y,rfl⟩
    | x :: y :: z :: l,hf=>simp at hf;omega
   have h3':=h3 u (show (W.th a).fs[0]? = some u by rw [huv];rfl);have hin:aO (W.pass true).1 u=true:=by
    unfold aO;by_cases hu:u.1=3
    ·simp [hu,(h3' hu).1]
    ·simp [hu]
   refine .inr (.inr (.inl ⟨by rw [hnd];exact h1,?_,?_⟩))
   ·rw [hnd,jZ hat h1' huv,if_neg (by rw [hin];decide)];exact h2'
   ·intro w hw h6;rw [hnd,jZ hat h1' huv,if_neg (by rw [hin];decide)] at hw;exact (h3 w hw h6).2
  ·exact .inr (.inr (.inr ⟨by rw [hnd];exact h1,Wd.n4 h2 ha1⟩))
end
end
section
section
variable {W V:Wd}
theorem jq {W:Wd}:∀ (l:List It) (is:List Bool) (q:List (Int × Int)), ∀ e ∈ (scanM av W.bh is q l).2.1,e ∈ q∨∃ i ∈ l,i.1=e
 | [],is,q,e,he=>.inl he
 | i :: l,is,q,e,he=>by
  simp only [scanM] at he;split at he
  ·rcases jq l _ _ e he with h | ⟨j,hj,h⟩
   ·simp only [Wd.bh,List.mem_append,List.mem_singleton] at h;rcases h with h | h
    ·exact .inl h
    ·exact .inr ⟨i,by simp,h.symm⟩
   ·exact .inr ⟨j,by simp [hj],h⟩
  ·rcases jq l _ _ e he with h | ⟨j,hj,h⟩
   ·exact .inl h
   ·exact .inr ⟨j,by simp [hj],h⟩
theorem oY {W:Wd} {l:List It} {is:List Bool} {q:List (Int × Int)} {P:Int × Int→Prop} (h:∀ i ∈ l,P i.1):∀ i ∈ (scanM av W.bh is q l).2.2.1,P i.1:=by
 intro i hi;have h1:(i.1,i.2.1) ∈ (scanM av W.bh is q l).2.2.1.map (fun i=>(i.1,i.2.1)):=List.mem_map.2 ⟨i,hi,rfl⟩;rw [eX] at h1;obtain ⟨j,hj,e⟩:=List.mem_map.1 h1;have:=h j hj;have e1:j.1=i.1:=congrArg (fun p:(Int × Int) × Bool=>p.1) e;rwa [e1] at this
theorem jK {W:Wd} {P:Int × Int→Prop}:∀ (n:Nat) (l:List It) (is:List Bool) (q:List (Int × Int)),(∀ i ∈ l,P i.1)→(∀ e ∈ q,P e)→∀ e ∈ (roundsM av W.bh n is q l).2.1,P e
 | 0,l,is,q,hl,hq,e,he=>hq e he
 | n+1,l,is,q,hl,hq,e,he=>by
  have hs:∀ e ∈ (scanM av W.bh is q l).2.1,P e:=fun e he=>by
   rcases jq l is q e he with h | ⟨i,hi,rfl⟩
   ·exact hq e h
   ·exact hl i hi
  simp only [roundsM] at he;split at he
  ·exact jK n _ _ _ (oY hl) hs e he
  ·exact hs e he
theorem Wd.mw (W:Wd) (g:Bool):∀ e ∈ (W.pass g).2.1,e ∈ W.wait∨e ∈ W.regs:=
 jK (P:=fun e=>e ∈ W.wait∨e ∈ W.regs) _ _ _ _ (by
  intro i hi;simp only [bY,List.mem_map] at hi;obtain ⟨e,he,rfl⟩:=hi
  exact .inr he) (fun e he=>.inl he)
structure dP (W V:Wd):Prop where
 T:V.T.length=W.T.length
 roots:V.roots=W.roots
 regs:∀ e ∈ V.regs,e ∈ W.regs
 wait:∀ e ∈ V.wait,e ∈ W.wait∨e ∈ W.regs
 live:∀ i,V.live i→W.live i
 kind:∀ i,V.live i→(V.th i).k=(W.th i).k
 fs:∀ i,V.live i→∀ v ∈ (V.th i).fs,v=(2,0)∨v ∈ (W.th i).fs
 plain:∀ i,V.live i→(W.th i).k≠3→(W.th i).k≠4→(V.th i).fs=(W.th i).fs
theorem dP.refl (W:Wd):dP W W:=⟨rfl,rfl,fun _ h=>h,fun _ h=>.inl h,fun _ h=>h,fun _ _=>rfl,fun _ _ _ h=>.inr h,fun _ _ _ _=>rfl⟩
theorem Wd.fM (h:W.ok) (g:Bool):dP W (W.after g):=by
 obtain ⟨m,hf,-,hits⟩:=Wd.dh h g;refine ⟨Wd.eZ,rfl,fun e he=>?_,fun e he=>?_,fun i hi=>m.live i ((Wd.bB h).1 hi),fun i hi=>Wd.fJ h ((Wd.bB h).1 hi),fun i hi v hv=>?_,fun i hi h3 h4=>?_⟩
 ·obtain ⟨i,hi,rfl,-,-⟩:=jH he;have h1:(i.1,i.2.1) ∈ (W.pass g).2.2.map (fun i=>(i.1,i.2.1)):=List.mem_map.2 ⟨i,hi,rfl⟩;rw [hits] at h1;obtain ⟨e,he,h2⟩:=List.mem_map.1 h1;have:e=i.1:=congrArg (fun p:(Int × Int) × Bool=>p.1) h2;rwa [←this]
 ·exact Wd.mw W g e (jI he).1
 ·have hb:=(Wd.bB h).1 hi;have hl:=m.live i hb;rw [Wd.di hl.1 hl.2.1] at hv;rcases ia h m.shut hl hb v hv with h1 | h1
  ·exact .inl h1
  ·exact .inr h1.1
 ·have hb:=(Wd.bB h).1 hi;have hl:=m.live i hb;rw [Wd.di hl.1 hl.2.1];unfold bV;rw [if_pos (by rw [cJ hl.1];exact hb),if_neg (fun h=>h4 h.1),if_neg (fun h=>h3 h.1)]
theorem Wd.jr (h:W.ok) (g:Bool):dP W (W.cut g).2:=by
 unfold Wd.cut;split
 ·exact dP.refl W
 ·split
  ·exact dP.refl W
  ·exact W.fM h g
theorem Wd.nB (h:W.ok) (n:Int):dP W (W.room n).2:=by
 unfold Wd.room;split
 ·exact W.jr h _
 ·exact dP.refl W
theorem gH (h:W.ok) {r s:Int} {v:Vl} (h0:0≤r) (h1:r<12) (h2:0≤s):(W.aP r v).rt s=if s=r then v else W.rt s:=by
 have hl:=h.hr;unfold Wd.rt Wd.aP;simp only [Ld,List.getElem?_set];by_cases e:s=r
 ·subst e;rw [if_pos rfl,if_pos rfl,if_pos (by omega)];rfl
 ·rw [if_neg (by omega),if_neg e]
theorem mx (h:W.ok) {r k s:Int} {l:List Vl} (h0:0≤r) (h1:r<12) (h2:0≤s):(W.put r k l).rt s=if s=r then (3,(W.T.length:Int)) else W.rt s:=by
 have hl:=h.hr;unfold Wd.rt Wd.put eu;simp only [Ld,List.getElem?_set];by_cases e:s=r
 ·subst e;rw [if_pos rfl,if_pos rfl,if_pos (by omega)];rfl
 ·rw [if_neg (by omega),if_neg e]
theorem dP.rt (C:dP W V) (s:Int):V.rt s=W.rt s:=by unfold Wd.rt;rw [C.roots]
structure Wd.dj (W:Wd) (i:Int) (X:Int→Prop):Prop where
 fs:∀ x,W.live x→¬ X x→((3,i):Vl) ∉ (W.th x).fs
 regs:∀ e ∈ W.regs,e.2≠i
 wait:∀ e ∈ W.wait,e.2≠i
theorem Wd.dj.aP {i r:Int} {X:Int→Prop} {v:Vl} (h:W.dj i X):(W.aP r v).dj i X:=⟨h.fs,h.regs,h.wait⟩
theorem Wd.dj.cut {i:Int} {X:Int→Prop} (h:W.dj i X) (C:dP W V):V.dj i X:=⟨fun x hx hX hv=>by
  rcases C.fs x hx _ hv with h1 | h1
  ·cases h1
  ·exact h.fs x (C.live x hx) hX h1,fun e he=>h.regs e (C.regs e he),fun e he=>(C.wait e he).elim (h.wait e) (h.regs e)⟩
theorem Wd.dj.new (hok:W.ok) {X:Int→Prop}:W.dj W.T.length X:=by
 have nl:¬ W.live W.T.length:=fun h=>by have:=h.2.1;omega
 exact ⟨fun x hx _ hv=>nl (Wd.bp (hok.tv x hx _ hv) rfl),fun e he e2=>nl (e2 ▸ (hok.gv e he).2.2),fun e he e2=>nl (e2 ▸ (hok.wv e he).2.2)⟩
theorem Wd.dj.put {i r k:Int} {X:Int→Prop} {l:List Vl} (h:W.dj i X) (hl:X W.T.length∨((3,i):Vl) ∉ l):(W.put r k l).dj i X:=⟨fun x hx hX hv=>by
  rcases Wd.iO hx with h1 | rfl
  ·rw [Wd.eQ h1.1 h1.2.1] at hv;exact h.fs x h1 hX hv
  ·rw [Wd.c6] at hv;rcases hl with hl | hl
   ·exact hX hl
   ·exact hl hv,h.regs,h.wait⟩
def Wd.Is (W:Wd) (i k:Int) (l:List Vl):Prop:=W.live i∧(W.th i).k=k∧(W.th i).fs=l
theorem Wd.Is.aP {i k r:Int} {l:List Vl} {v:Vl} (h:W.Is i k l):(W.aP r v).Is i k l:=h
theorem Wd.Is.put {i k r kk:Int} {l ll:List Vl} (h:W.Is i k l):(W.put r kk ll).Is i k l:=⟨Wd.gQ h.1,by rw [Wd.eQ h.1.1 h.1.2.1];exact h.2.1,by rw [Wd.eQ h.1.1 h.1.2.1];exact h.2.2⟩
theorem Wd.Is.cut {i k:Int} {l:List Vl} (h:W.Is i k l) (C:dP W V) (hl:V.live i) (h3:k≠3) (h4:k≠4):V.Is i k l:=
 ⟨hl,by rw [C.kind i hl];exact h.2.1,by rw [C.plain i hl (by rw [h.2.1];exact h3) (by rw [h.2.1];exact h4)];exact h.2.2⟩
theorem Wd.Is.new {r k:Int} {l:List Vl}:(W.put r k l).Is W.T.length k l:=⟨⟨by omega,by simp [Wd.put];omega,by rw [Wd.c6]⟩,by rw [Wd.c6],by rw [Wd.c6]⟩
theorem Wd.kS (h:W.ok) {r k:Int} {l:List Int} (hf:aQ k l.length=true) (h0:(W.aW r k l).1=0) :
  ∃ U,dP W U∧U.ok∧(W.aW r k l).2=U.put r k (l.map W.rt):=by
 unfold Wd.aW at h0 ⊢;have hr:=h.room (1+l.length) (by have:=(aX hf).2.2.2;omega);have hc:=W.nB h (1+l.length);split at h0
 ·rename_i hz;rw [if_pos hz];refine ⟨_,hc,hr.1,?_⟩;dsimp only;congr 1;exact List.map_congr_left fun a _=>hc.rt a
 ·rename_i hz;exact absurd h0 hz
structure qa (V:Wd) (i:Int) (kept:Bool):Prop where
 ok:V.ok
 r1:kept=true→V.rt 1=(3,i)
 r3:V.rt 3=(3,i+2)
 a:kept=true→V.Is i 1 [(1,5),(1,5)]
 b:V.Is (i+1) 1 [(1,6),(1,6)]
 c:V.Is (i+2) 3 [if kept then (3,i) else (2,0),(3,i+1)]
theorem Wd.iu (h:W.ok) {s i:Int} (e:W.rt s=(3,i)):W.live i:=by
 have:=Wd.bp (Wd.fT h s) (by rw [e]);rwa [e] at this
theorem Wd.oZ (h:W.ok) {v:Vl} (hv:v ∈ W.roots):∃ s:Int,0≤s∧s<12∧W.rt s=v:=by
 obtain ⟨k,hk,rfl⟩:=List.mem_iff_getElem.1 hv;refine ⟨(k:Int),by omega,by have:=h.hr;omega,?_⟩;unfold Wd.rt;rw [Int.toNat_natCast,Ld,Le hk];rfl
theorem rk {W1 W2 W3 W4 W5 W6 W7 W8:Wd} {kept:Bool} (h:W.ok) (e1:W.do ⟨1,0,0,0,0,5⟩=(0,W1)) (e2:W1.do ⟨4,1,0,0,0,0⟩=(0,W2)) (e3:W2.do ⟨1,0,0,0,0,6⟩=(0,W3)) (e4:W3.do ⟨4,2,0,0,0,0⟩=(0,W4))
  (e5:W4.do ⟨6,3,1,2,0,0⟩=(0,W5)) (e6:W6=if kept then W5 else (W5.do ⟨2,1,0,0,0,0⟩).2) (e7:W6.do ⟨2,2,0,0,0,0⟩=(0,W7)) (e8:W7.do ⟨16,0,0,0,0,0⟩=(0,W8)):∃ i,qa W8 i kept:=by
 have d1:W.do ⟨1,0,0,0,0,5⟩=(0,W.aP 0 (1,5)):=by unfold Wd.do;rw [if_pos (by decide)];rfl
 have d2:W1.do ⟨4,1,0,0,0,0⟩=W1.aW 1 1 [0,0]:=by unfold Wd.do;rw [if_pos (by decide)];rfl
 have d3:W2.do ⟨1,0,0,0,0,6⟩=(0,W2.aP 0 (1,6)):=by unfold Wd.do;rw [if_pos (by decide)];rfl
 have d4:W3.do ⟨4,2,0,0,0,0⟩=W3.aW 2 1 [0,0]:=by unfold Wd.do;rw [if_pos (by decide)];rfl
 have d5:W4.do ⟨6,3,1,2,0,0⟩=W4.aW 3 3 [1,2]:=by unfold Wd.do;rw [if_pos (by decide)];rfl
 have d6:W5.do ⟨2,1,0,0,0,0⟩=(0,W5.aP 1 (0,0)):=by unfold Wd.do;rw [if_pos (by decide)];rfl
 have d7:W6.do ⟨2,2,0,0,0,0⟩=(0,W6.aP 2 (0,0)):=by unfold Wd.do;rw [if_pos (by decide)];rfl
 have d8:W7.do ⟨16,0,0,0,0,0⟩=W7.cut true:=by unfold Wd.do;rw [if_pos (by decide)];rfl
 rw [d1] at e1;rw [d3] at e3;rw [d6] at e6;rw [d7] at e7;have w1:W.aP 0 (1,5)=W1:=congrArg Prod.snd e1;have w3:W2.aP 0 (1,6)=W3:=congrArg Prod.snd e3;have w7:W6.aP 2 (0,0)=W7:=congrArg Prod.snd e7;have o1:W1.ok:=by rw [←w1];exact h.aP (Wd.gF (by decide) (by decide)) 0
 rw [d2] at e2;rw [d4] at e4;rw [d5] at e5;rw [d8] at e8;obtain ⟨U2,C2,u2,p2⟩:=Wd.kS o1 (r:=1) (k:=1) (l:=[0,0]) rfl (by rw [e2]);have x2:=o1.aW (r:=1) (k:=1) (l:=[0,0]) rfl;rw [e2] at p2 x2;dsimp only at p2 x2;have r10:W1.rt 0=(1,5):=by rw [←w1,gH h (by decide) (by decide) (by decide)];rfl
 simp only [List.map_cons,List.map_nil,r10] at p2;obtain ⟨i,hi⟩:∃ i:Int,(U2.T.length:Int)=i:=⟨_,rfl⟩;have I2:W2.Is i 1 [(1,5),(1,5)]:=by rw [p2,←hi];exact Wd.Is.new
 have N2:W2.dj i (·=i+2):=by rw [p2,←hi];exact (Wd.dj.new u2).put (.inr (by simp))
 have t2:(W2.T.length:Int)=i+1:=by rw [p2,←hi];simp [Wd.put]
 have R2:∀ s:Int,0≤s→W2.rt s=if s=1 then (3,i) else U2.rt s:=fun s hs=>by rw [p2,mx u2 (by decide) (by decide) hs,hi]
 have n2:∀ s:Int,U2.rt s≠(3,i):=fun s e=>by have:=(Wd.iu u2 e).2.1;omega
 clear p2 e2 d2 C2 hi r10;have o3:W3.ok:=by rw [←w3];exact x2.aP (Wd.gF (by decide) (by decide)) 0
 have I3:W3.Is i 1 [(1,5),(1,5)]:=by rw [←w3];exact I2.aP
 have N3:W3.dj i (·=i+2):=by rw [←w3];exact N2.aP
 have t3:(W3.T.length:Int)=i+1:=by rw [←w3];exact t2
 have R3:∀ s:Int,0≤s→W3.rt s=if s=0 then (1,6) else if s=1 then (3,i) else U2.rt s:=fun s hs=>by rw [←w3,gH x2 (by decide) (by decide) hs,R2 s hs]
 clear e3 d3 I2 N2 t2 R2;obtain ⟨U4,C4,u4,p4⟩:=Wd.kS o3 (r:=2) (k:=1) (l:=[0,0]) rfl (by rw [e4]);have x4:=o3.aW (r:=2) (k:=1) (l:=[0,0]) rfl;rw [e4] at p4 x4;dsimp only at p4 x4;have r30:W3.rt 0=(1,6):=R3 0 (by decide);simp only [List.map_cons,List.map_nil,r30] at p4;have r41:U4.rt 1=(3,i):=by rw [C4.rt,R3 1 (by decide)];rfl
 have hT4:(U4.T.length:Int)=i+1:=by rw [C4.T];exact t3
 have I4:W4.Is i 1 [(1,5),(1,5)]:=by rw [p4];exact (I3.cut C4 (Wd.iu u4 r41) (by decide) (by decide)).put
 have J4:W4.Is (i+1) 1 [(1,6),(1,6)]:=by rw [p4,←hT4];exact Wd.Is.new
 have N4:W4.dj i (·=i+2):=by rw [p4];exact (N3.cut C4).put (.inr (by simp))
 have t4:(W4.T.length:Int)=i+2:=by rw [p4];simp [Wd.put];omega
 have R4:∀ s:Int,0≤s→W4.rt s=if s=2 then (3,i+1) else if s=0 then (1,6) else if s=1 then (3,i) else U2.rt s:=fun s hs=>by rw [p4,mx u4 (by decide) (by decide) hs,hT4,C4.rt,R3 s hs]
 clear p4 e4 d4 I3 N3 t3 R3 r30 r41 C4 hT4;obtain ⟨U5,C5,u5,p5⟩:=Wd.kS x4 (r:=3) (k:=3) (l:=[1,2]) rfl (by rw [e5]);have x5:=x4.aW (r:=3) (k:=3) (l:=[1,2]) rfl;rw [e5] at p5 x5;dsimp only at p5 x5;have r41:W4.rt 1=(3,i):=R4 1 (by decide);have r42:W4.rt 2=(3,i+1):=R4 2 (by decide);simp only [List.map_cons,List.map_nil,r41,r42] at p5;have hT5:(U5.T.length:Int)=i+2:=by rw [C5.T];exact t4
 have I5:W5.Is i 1 [(1,5),(1,5)]:=by rw [p5];exact (I4.cut C5 (Wd.iu u5 (by rw [C5.rt];exact r41)) (by decide) (by decide)).put
 have J5:W5.Is (i+1) 1 [(1,6),(1,6)]:=by rw [p5];exact (J4.cut C5 (Wd.iu u5 (by rw [C5.rt];exact r42)) (by decide) (by decide)).put
 have K5:W5.Is (i+2) 3 [(3,i),(3,i+1)]:=by rw [p5,←hT5];exact Wd.Is.new
 have N5:W5.dj i (·=i+2):=by rw [p5];exact (N4.cut C5).put (.inl hT5)
 have R5:∀ s:Int,0≤s→W5.rt s=if s=3 then (3,i+2) else if s=2 then (3,i+1) else if s=0 then (1,6) else if s=1 then (3,i) else U2.rt s:=fun s hs=>by rw [p5,mx u5 (by decide) (by decide) hs,hT5,C5.rt,R4 s hs]
 clear p5 e5 d5 I4 J4 N4 t4 R4 r41 r42 C5 hT5;have hz:∀ V:Wd,V.dp (0,0):=fun V=>.inl ⟨rfl,rfl⟩;have key:∃ V:Wd,W6=V∧V.ok∧V.Is i 1 [(1,5),(1,5)]∧V.Is (i+1) 1 [(1,6),(1,6)]∧V.Is (i+2) 3 [(3,i),(3,i+1)]∧V.dj i (·=i+2)∧∀ s:Int,0≤s→V.rt s=if s=1 then (if kept then (3,i) else (0,0)) else if s=3 then (3,i+2) else if s=2 then (3,i+1) else if s=0 then (1,6) else U2.rt s:=by
  refine ⟨W6,rfl,?_⟩;cases kept
  ·rw [if_neg (by decide)] at e6;dsimp only at e6;rw [e6];refine ⟨x5.aP (hz _) 1,I5.aP,J5.aP,K5.aP,N5.aP,fun s hs=>?_⟩;rw [gH x5 (by decide) (by decide) hs,R5 s hs];by_cases h1:s=1
   ·rw [if_pos h1,if_pos h1];rfl
   ·rw [if_neg h1,if_neg h1,if_neg h1]
  ·rw [if_pos rfl] at e6;rw [e6];refine ⟨x5,I5,J5,K5,N5,fun s hs=>?_⟩;rw [R5 s hs];by_cases h1:s=1
   ·subst h1;rfl
   ·rw [if_neg h1,if_neg h1]
 obtain ⟨_,rfl,x6,I6,J6,K6,N6,R6⟩:=key;clear e6 d6 I5 J5 K5 N5 R5;have x7:W7.ok:=by rw [←w7];exact x6.aP (hz _) 2
 have I7:W7.Is i 1 [(1,5),(1,5)]:=by rw [←w7];exact I6.aP
 have J7:W7.Is (i+1) 1 [(1,6),(1,6)]:=by rw [←w7];exact J6.aP
 have K7:W7.Is (i+2) 3 [(3,i),(3,i+1)]:=by rw [←w7];exact K6.aP
 have N7:W7.dj i (·=i+2):=by rw [←w7];exact N6.aP
 have R7:∀ s:Int,0≤s→W7.rt s=if s=2 then (0,0) else if s=1 then (if kept then (3,i) else (0,0)) else if s=3 then (3,i+2) else if s=0 then (1,6) else U2.rt s:=fun s hs=>by
  rw [←w7,gH x6 (by decide) (by decide) hs,R6 s hs];by_cases h2:s=2
  ·rw [if_pos h2,if_pos h2]
  ·rw [if_neg h2,if_neg h2,if_neg h2]
 clear e7 d7 I6 J6 K6 N6 R6;have e9:W8=W7.after true:=by
  unfold Wd.cut at e8;rw [if_neg (by simp)] at e8;split at e8
  ·cases e8
  ·cases e8;rfl
 have x8:W8.ok:=by have:=x7.cut true;rwa [e8] at this
 have C8:dP W7 W8:=by rw [e9];exact W7.fM x7 true
 obtain ⟨m,-⟩:=Wd.dh x7 true;have r73:W7.rt 3=(3,i+2):=R7 3 (by decide);have ac:av (W7.pass true).1 (i+2)=true:=m.first _ (Wd.cL.2 ⟨K7.1.1,K7.1.2.1, .inr (by rw [←r73];exact Wd.jk x7 (by decide) (by decide))⟩)
 have ab:av (W7.pass true).1 (i+1)=true:=m.shut _ _ ac (.inr (.inl ⟨K7.2.1,by show (W7.th (i+2)).fs[1]? = _;rw [K7.2.2];rfl⟩));have lb:W8.live (i+1):=by rw [e9];exact (Wd.bB x7).2 ab
 have lc:W8.live (i+2):=by rw [e9];exact (Wd.bB x7).2 ac
 have hx:(W8.th (i+2)).k=3∧(W8.th (i+2)).fs=if av (W7.pass true).1 i then [(3,i),(3,i+1)] else [(2,0),(3,i+1)]:=by
  rw [e9,Wd.di K7.1.1 K7.1.2.1];unfold bV;rw [if_pos (by rw [cJ K7.1.1];exact ac),K7.2.1,K7.2.2];refine ⟨rfl,?_⟩;dsimp only;rw [if_neg (fun h=>absurd h.1 (by decide))];unfold aO;simp only [List.getD_cons_zero,List.getD_cons_succ,bne_self_eq_false,Bool.false_or,true_and];cases av (W7.pass true).1 i <;> rfl
 refine ⟨i,x8,fun hk=>?_,by rw [C8.rt];exact r73,fun hk=>?_,J7.cut C8 lb (by decide) (by decide),lc,hx.1,?_⟩
 ·rw [C8.rt,R7 1 (by decide),hk];rfl
 ·exact I7.cut C8 (Wd.iu x8 (s:=1) (by rw [C8.rt,R7 1 (by decide),hk];rfl)) (by decide) (by decide)
 ·rw [hx.2];cases kept
  ·have na:av (W7.pass true).1 i=false:=by
    rw [Bool.eq_false_iff];intro ha;have S:=(Wd.kv x7 true i ha).least (S:=fun x=>W7.live x∧x≠i) (fun k hk=>?_) (fun a b hS hl=>?_)
    ·exact S.2 rfl
    ·refine ⟨Wd.iP x7 hk,?_⟩;rintro rfl;obtain ⟨-,-,h1 | h1⟩:=Wd.cL.1 hk
     ·cases h1.2.2
     ·obtain ⟨s,h0,hs,e⟩:=Wd.oZ x7 h1;rw [R7 s h0] at e;split at e
      ·cases e
      ·split at e
       ·cases e
       ·split at e
        ·injection e with _ e;omega
        ·split at e
         ·cases e
         ·exact n2 s e
    ·have hlb:=Wd.dM x7 m.wv a b hS.1 (hl.mono (fun k hk=>hk.1) (fun _ h=>h));refine ⟨hlb,?_⟩;rintro rfl;by_cases ea:a=b+2
     ·subst ea;rcases hl with ⟨h1,_⟩ | ⟨_,h2⟩ | ⟨h1,_⟩ | ⟨h1,_⟩
      ·have h1:(W7.th (b+2)).k=1∨(W7.th (b+2)).k=2:=h1;rw [K7.2.1] at h1;omega
      ·have h2:(W7.th (b+2)).fs[1]? = some (3,b):=h2;rw [K7.2.2] at h2;injection h2 with h2;injection h2 with _ h2;omega
      ·have h1:(W7.th (b+2)).k=4:=h1;rw [K7.2.1] at h1;omega
      ·have h1:(W7.th (b+2)).k=5:=h1;rw [K7.2.1] at h1;omega
     ·rcases hl with ⟨_,h2⟩ | ⟨_,h2⟩ | ⟨_,h2,_⟩ | ⟨_,h2⟩
      ·exact N7.fs a hS.1 ea h2
      ·exact N7.fs a hS.1 ea (List.mem_of_getElem? h2)
      ·exact N7.fs a hS.1 ea (List.mem_of_getElem? h2)
      ·rcases Wd.mw W7 true _ h2 with h3 | h3
       ·exact N7.wait _ h3 rfl
       ·exact N7.regs _ h3 rfl
   rw [na];rfl
  ·have ha:av (W7.pass true).1 i=true:=by
    have r71:W7.rt 1=(3,i):=R7 1 (by decide);exact m.first _ (Wd.cL.2 ⟨I7.1.1,I7.1.2.1, .inr (by rw [←r71];exact Wd.jk x7 (by decide) (by decide))⟩)
   rw [ha];rfl
theorem iQ (M:List Int) (x:Int):bu M (3,x)=(3,((M.idxOf x:Nat):Int)):=by unfold bu cZ;rw [if_pos rfl]
theorem iR {M:List Int} {v:Vl} (h:v.1≠3):bu M v=v:=by unfold bu cZ;rw [if_neg h]
theorem Seen.node (S:Seen W) {x k:Int} {l:List Vl} (hx:x ∈ W.met) (I:W.Is x k l) (h5:k≠5):W.met.idxOf x<W.view.2.length∧W.view.2.getD (W.met.idxOf x) (0,[])=(k,l.map (bu W.met)):=by
 have hlt:=List.idxOf_lt_length_of_mem hx;rw [S.eq];dsimp only;refine ⟨by rw [List.length_map];exact hlt,?_⟩;rw [Ld,List.getElem?_map,Le hlt,List.getElem_idxOf]
 show eJ W.met (W.gr x)=_
 unfold eJ Wd.gr;rw [if_neg (by rw [I.2.1];exact h5),I.2.1,I.2.2,List.append_nil]
theorem Seen.n5 (S:Seen W) (hok:W.ok) {s:Nat} (hs:s<12):W.view.1.getD s (0,0)=bu W.met (W.rt s):=by
 have:=hok.hr;rw [S.eq];dsimp only;unfold Wd.rt;rw [Ld,List.getElem?_map,Le (by omega),Int.toNat_natCast,Ld,Le (by omega)]
 rfl
structure o8 (L:List Vl × List Nd) (kept:Bool) (x y z:Nat):Prop where
 l1:L.1.length=12
 r3:L.1.getD 3 (0,0)=(3,(x:Int))
 xl:x<L.2.length
 nx:L.2.getD x (0,[])=(3,[if kept then (3,(z:Int)) else (2,0),(3,(y:Int))])
 yl:y<L.2.length
 ny:L.2.getD y (0,[])=(1,[(1,6),(1,6)])
 k1:kept=true→L.1.getD 1 (0,0)=(3,(z:Int))∧z<L.2.length∧L.2.getD z (0,[])=(1,[(1,5),(1,5)])
theorem qa.view {i:Int} {kept:Bool} (K:qa V i kept):∃ x y z,o8 V.view kept x y z:=by
 have S:=Wd.seen K.ok;have mc:i+2 ∈ V.met:=S.rt (3,i+2) (by rw [←K.r3];exact Wd.jk K.ok (by decide) (by decide)) rfl;have hg:∀ v ∈ (V.th (i+2)).fs,v ∈ (V.gr (i+2)).2:=fun v hv=>by unfold Wd.gr;exact List.mem_append_left _ hv
 have mb:i+1 ∈ V.met:=S.fd _ mc (3,i+1) (hg _ (by rw [K.c.2.2];simp)) rfl;have nc:=S.node mc K.c (by decide);have nb:=S.node mb K.b (by decide);refine ⟨V.met.idxOf (i+2),V.met.idxOf (i+1),V.met.idxOf i,⟨by rw [S.eq];simp [K.ok.hr],?_,nc.1,?_,nb.1,?_,fun hk=>?_⟩⟩
 ·have:=S.n5 K.ok (s:=3) (by decide);rw [this,show V.rt ((3:Nat):Int)=(3,i+2) from K.r3,iQ]
 ·rw [nc.2];simp only [List.map_cons,List.map_nil,iQ];cases kept
  ·rw [if_neg (by decide),if_neg (by decide),iR (by decide)]
  ·rw [if_pos rfl,if_pos rfl,iQ]
 ·rw [nb.2];simp only [List.map_cons,List.map_nil];rw [iR (by decide)]
 ·have ma:i ∈ V.met:=S.rt (3,i) (by rw [←K.r1 hk];exact Wd.jk K.ok (by decide) (by decide)) rfl;have na:=S.node ma (K.a hk) (by decide);refine ⟨?_,na.1,?_⟩
  ·have:=S.n5 K.ok (s:=1) (by decide);rw [this,show V.rt ((1:Nat):Int)=(3,i) from K.r1 hk,iQ]
  ·rw [na.2];simp only [List.map_cons,List.map_nil];rw [iR (by decide)]
end
end
section
def vG (ns:List Nd):Gr:=fun i=>ns.getD i.toNat (0,[])
def leastOf (L:List Vl × List Nd):Int→Prop:=aU (vG L.2) [] (fun j=>((3,j):Vl) ∈ L.1)
structure kT (L:List Vl × List Nd) (is:List Bool):Prop where
 len:is.length=L.2.length
 at':∀ j:Int,av is j=true↔0≤j∧j<L.2.length∧leastOf L j
def eV (is:List Bool) (n:Nd):Nd:=(n.1,n.2.map fun v=>if (n.1=4∧aO is (n.2.getD 0 (0,0))=false)∨aO is v=false then (2,0) else v)
def fN (L:List Vl × List Nd) (is:List Bool):List Vl × List Nd:=(L.1,L.2.map (eV is))
def Wd.b9 (W:Wd):Prop:=W.regs=[]∧W.wait=[]
section
variable {W V:Wd}
theorem pb {α:Type} {l:List α} (h:∀ x ∈ l,False):l=[]:=by
 cases l with
 | nil=>rfl
 | cons a l=>exact (h a (by simp)).elim
theorem Wd.b9.of (h:W.b9) (C:dP W V):V.b9:=by
 refine ⟨pb fun e he=>?_,pb fun e he=>?_⟩
 ·have:=C.regs e he;rw [h.1] at this;cases this
 ·rcases C.wait e he with h1 | h1
  ·rw [h.2] at h1;cases h1
  ·rw [h.1] at h1;cases h1
theorem Wd.b9.aW (h:W.b9) (hok:W.ok) {r k:Int} {l:List Int}:(W.aW r k l).2.b9:=by
 have:=h.of (W.nB hok (1+l.length));unfold Wd.aW;split
 ·exact this
 ·exact h
theorem Wd.b9.do (h:W.b9) (hok:W.ok) {x:St} (h9:x.k≠9):(W.do x).2.b9:=by
 unfold Wd.do
 split
 case isFalse=>exact h
 unfold Wd.step;by_cases k1:x.k=1
 ·rw [if_pos k1];exact h
 rw [if_neg k1];by_cases k2:x.k=2
 ·rw [if_pos k2];exact h
 rw [if_neg k2];by_cases k3:x.k=3
 ·rw [if_pos k3];exact h
 rw [if_neg k3];by_cases k4:x.k=4
 ·rw [if_pos k4];exact h.aW hok
 rw [if_neg k4];by_cases k5:x.k=5
 ·rw [if_pos k5];exact h.aW hok
 rw [if_neg k5];by_cases k6:x.k=6
 ·rw [if_pos k6];exact h.aW hok
 rw [if_neg k6];by_cases k7:x.k=7
 ·rw [if_pos k7];exact h.aW hok
 rw [if_neg k7];by_cases k8:x.k=8
 ·rw [if_pos k8];exact h.aW hok
 rw [if_neg k8,if_neg h9];by_cases k10:x.k=10
 ·rw [if_pos k10];unfold Wd.pop;split
  ·exact h
  ·rw [h.2];exact h
 rw [if_neg k10];by_cases k11:x.k=11
 ·rw [if_pos k11];unfold Wd.get;split <;> exact h
 rw [if_neg k11];by_cases k12:x.k=12
 ·rw [if_pos k12];unfold Wd.set;split <;> exact h
 rw [if_neg k12];by_cases k13:x.k=13
 ·rw [if_pos k13];unfold Wd.len;split <;> exact h
 rw [if_neg k13];by_cases k14:x.k=14
 ·rw [if_pos k14];exact h
 rw [if_neg k14];split
 ·exact h.of (W.jr hok _)
 ·exact h.of (W.jr hok _)
theorem Wd.b9.new (a b:Int):(Wd.new a b).b9:=⟨rfl,rfl⟩
theorem Wd.b9.pass (h:W.b9) (b:Bool):(W.pass b).1=W.b8 [] (W.first b):=by
 unfold Wd.pass ec;rw [h.1,h.2];rfl
theorem Wd.b9.gr (h:W.b9) (i:Int):W.gr i=W.nd i:=by
 unfold Wd.gr Wd.nd;rw [h.2];by_cases h5:(W.th i).k=5
 ·rw [if_pos h5];simp [cS]
 ·rw [if_neg h5];simp
theorem Wd.b9.ly (h:W.b9) (hok:W.ok) {i:Int} (hi:aU W.nd [] (fun k=>av (W.first true) k=true) i):i ∈ W.met:=by
 have S:=Wd.seen hok;refine hi.least (S:=(· ∈ W.met)) (fun k hk=>?_) (fun a b ha hl=>?_)
 ·obtain ⟨_,_,h1 | h1⟩:=Wd.cL.1 hk
  ·cases h1.2.2
  ·exact S.rt _ h1 rfl
 ·have key:∀ v,v ∈ (W.nd a).2→v.1=3→v.2 ∈ W.met:=fun v hv h3=>S.fd a ha v (by rw [h.gr];exact hv) h3;rcases hl with h1 | h1 | h1 | h1
  ·exact key _ h1.2 rfl
  ·exact key _ (List.mem_of_getElem? h1.2) rfl
  ·exact key _ (List.mem_of_getElem? h1.2.1) rfl
  ·cases h1.2
theorem my (h:W.b9) (hok:W.ok) {x:Int} (hx:x ∈ W.met):vG W.view.2 ((W.met.idxOf x:Nat):Int)=eJ W.met (W.nd x):=by
 have hlt:=List.idxOf_lt_length_of_mem hx;unfold vG;rw [(Wd.seen hok).eq];dsimp only;rw [Int.toNat_natCast,Ld,List.getElem?_map,Le hlt,List.getElem_idxOf,←h.gr]
 rfl
theorem js {l:List Int} {a b:Int} (ha:a ∈ l) (hb:b ∈ l) (e:l.idxOf a=l.idxOf b):a=b:=by
 have h1:=List.getElem_idxOf (List.idxOf_lt_length_of_mem ha);have h2:=List.getElem_idxOf (List.idxOf_lt_length_of_mem hb);have h3:l[l.idxOf a]'(List.idxOf_lt_length_of_mem ha)=l[l.idxOf b]'(List.idxOf_lt_length_of_mem hb):=by simp only [e]
 rw [h1,h2] at h3;exact h3
theorem Wd.b9.least (h:W.b9) (hok:W.ok) {x:Int} (hx:x ∈ W.met):leastOf W.view ((W.met.idxOf x:Nat):Int)↔aU W.nd [] (fun k=>av (W.first true) k=true) x:=by
 have S:=Wd.seen hok;have nv:∀ v:Vl,v.1=3→bu W.met v=(3,((W.met.idxOf v.2:Nat):Int)):=fun v h3=>by unfold bu cZ;rw [if_pos h3]
 have nk:∀ v:Vl,(bu W.met v).1=v.1:=fun v=>by unfold bu;exact gL _ v
 constructor
 ·intro hl;have:=hl.least (S:=fun j=>∃ y ∈ W.met,((W.met.idxOf y:Nat):Int)=j∧aU W.nd [] (fun k=>av (W.first true) k=true) y) (fun j hj=>?_) (fun a b ha hab=>?_)
  ·obtain ⟨y,hy,e,hA⟩:=this;rw [←js hy hx (by omega)];exact hA
  ·rw [S.eq] at hj;obtain ⟨v,hv,e⟩:=List.mem_map.1 hj;have h3:v.1=3:=by rw [←nk v,e]
   rw [nv v h3] at e;have hm:=S.rt v hv h3;have hlv:=S.lv _ hm;refine ⟨v.2,hm,congrArg Prod.snd e,aU.base (Wd.cL.2 ⟨hlv.1,hlv.2.1, .inr ?_⟩)⟩;have:v=(3,v.2):=Prod.ext h3 rfl;rw [←this];exact hv
  ·obtain ⟨y,hy,rfl,hA⟩:=ha;have hg:=my h hok hy;have lift:∀ v ∈ (W.nd y).2,v.1=3→v.2 ∈ W.met:=fun v hv h3=>S.fd y hy v (by rw [h.gr];exact hv) h3;have fin:∀ v ∈ (W.nd y).2,bu W.met v=(3,b)→(v=(3,v.2)∧v.2 ∈ W.met∧((W.met.idxOf v.2:Nat):Int)=b):=fun v hv e=>by
    have h3:v.1=3:=by rw [←nk v,e]
    rw [nv v h3] at e;exact ⟨Prod.ext h3 rfl,lift v hv h3,congrArg Prod.snd e⟩
   have at1:(vG W.view.2 ((W.met.idxOf y:Nat):Int)).2[1]? = some (3,b)→∃ c,(W.nd y).2[1]? = some (3,c)∧c ∈ W.met∧((W.met.idxOf c:Nat):Int)=b:=fun e=>by
    rw [hg] at e;unfold eJ at e;dsimp only at e;rw [List.getElem?_map] at e;cases hv:(W.nd y).2[1]? with
    | none=>rw [hv] at e;cases e
    | some v=>
     rw [hv] at e;injection e with e
     obtain ⟨e1,e2,e3⟩:=fin v (List.mem_of_getElem? hv) e;exact ⟨v.2,congrArg some e1,e2,e3⟩
   rcases hab with ⟨h1,h2⟩ | ⟨h1,h2⟩ | ⟨h1,h2,h3⟩ | ⟨_,h2⟩
   ·rw [hg] at h1 h2;obtain ⟨v,hv,e⟩:=List.mem_map.1 h2;obtain ⟨e1,e2,e3⟩:=fin v hv e;exact ⟨v.2,e2,e3,aU.closed _ _ _ y v.2 hA (.inl ⟨h1,by rw [←e1];exact hv⟩)⟩
   ·obtain ⟨c,c1,c2,c3⟩:=at1 h2;rw [hg] at h1;exact ⟨c,c2,c3,aU.closed _ _ _ y c hA (.inr (.inl ⟨h1,c1⟩))⟩
   ·obtain ⟨c,c1,c2,c3⟩:=at1 h2;rw [hg] at h1 h3;refine ⟨c,c2,c3,aU.closed _ _ _ y c hA (.inr (.inr (.inl ⟨h1,c1,fun v hv hv3=>?_⟩)))⟩;obtain ⟨z,hz,e,hA'⟩:=h3 (bu W.met v) (by unfold eJ;dsimp only;rw [List.getElem?_map,hv];rfl) (by rw [nk];exact hv3);rw [nv v hv3] at e;have:=js hz (lift v (List.mem_of_getElem? hv) hv3) (by have e:((W.met.idxOf z:Nat):Int)=((W.met.idxOf v.2:Nat):Int):=e;omega);rw [←this];exact hA'
   ·cases h2
 ·intro hA;have:=hA.least (S:=fun y=>y ∈ W.met∧leastOf W.view ((W.met.idxOf y:Nat):Int)) (fun k hk=>?_) (fun a b ha hab=>?_)
  ·exact this.2
  ·obtain ⟨_,_,h1 | h1⟩:=Wd.cL.1 hk
   ·cases h1.2.2
   ·refine ⟨S.rt _ h1 rfl,aU.base ?_⟩;rw [S.eq];exact List.mem_map.2 ⟨_,h1,nv _ rfl⟩
  ·obtain ⟨hm,hl⟩:=ha;have hg:=my h hok hm;have lift:∀ v ∈ (W.nd a).2,v.1=3→v.2 ∈ W.met:=fun v hv h3=>S.fd a hm v (by rw [h.gr];exact hv) h3;have at1:(W.nd a).2[1]? = some (3,b)→(vG W.view.2 ((W.met.idxOf a:Nat):Int)).2[1]? = some (3,((W.met.idxOf b:Nat):Int)):=fun e=>by
    rw [hg];unfold eJ;dsimp only;rw [List.getElem?_map,e];exact congrArg some (nv _ rfl)
   rcases hab with ⟨h1,h2⟩ | ⟨h1,h2⟩ | ⟨h1,h2,h3⟩ | ⟨_,h2⟩
   ·refine ⟨lift _ h2 rfl,aU.closed _ _ _ _ _ hl (.inl ⟨by rw [hg];exact h1,?_⟩)⟩;rw [hg];exact List.mem_map.2 ⟨_,h2,nv _ rfl⟩
   ·exact ⟨lift _ (List.mem_of_getElem? h2) rfl,aU.closed _ _ _ _ _ hl (.inr (.inl ⟨by rw [hg];exact h1,at1 h2⟩))⟩
   ·refine ⟨lift _ (List.mem_of_getElem? h2) rfl,aU.closed _ _ _ _ _ hl (.inr (.inr (.inl ⟨by rw [hg];exact h1,at1 h2,fun v hv hv3=>?_⟩)))⟩;rw [hg] at hv;unfold eJ at hv;dsimp only at hv;rw [List.getElem?_map] at hv;cases hu:(W.nd a).2[0]? with
    | none=>rw [hu] at hv;cases hv
    | some u=>
     rw [hu] at hv;injection hv with hv
     have hu3:u.1=3:=by rw [←nk u,hv];exact hv3
     rw [←hv,nv u hu3];exact (h3 u hu hu3).2
   ·cases h2
theorem Wd.b9.r9 (h:W.b9) (hok:W.ok) (ho2:(W.after true).ok) {is:List Bool} (I:kT W.view is):dZ (vG (fN W.view is).2) (fN W.view is).1=(W.after true).view:=by
 have S:=Wd.seen hok;have m:=(Wd.dh hok true).1;have F2:(W.after true).b9:=h.of (W.fM hok true);have al:∀ x,av (W.pass true).1 x=true→x ∈ W.met:=fun x hx=>by
  rw [h.pass] at hx;exact h.ly hok (bC.1 hx).2.2
 have ats:∀ x,x ∈ W.met→av is ((W.met.idxOf x:Nat):Int)=av (W.pass true).1 x:=fun x hx=>by
  rw [Bool.eq_iff_iff,I.at',h.least hok hx,h.pass];have hl:=S.lv x hx;have hlt:=List.idxOf_lt_length_of_mem hx;constructor
  ·rintro ⟨-,-,h3⟩;exact bC.2 ⟨hl.1,by rw [Wd.dg];exact hl.2.1,h3⟩
  ·intro h3;refine ⟨by omega,?_,(bC.1 h3).2.2⟩;rw [S.eq];dsimp only;rw [List.length_map];omega
 have inE:∀ v:Vl,(v.1=3→v.2 ∈ W.met)→aO is (bu W.met v)=aO (W.pass true).1 v:=fun v hv=>by
  unfold aO bu cZ;by_cases h3:v.1=3
  ·rw [if_pos h3,ats _ (hv h3),h3]
  ·have hb:(v.1 != 3)=true:=by simpa using h3
   rw [if_neg h3,hb]
   rfl
 have I2:qA (W.after true).gr (vG (fN W.view is).2) (fun x=>av (W.pass true).1 x=true) (fun x=>((W.met.idxOf x:Nat):Int)):=by
  refine ⟨fun i j hi hj e=>js (al i hi) (al j hj) (by have e:((W.met.idxOf i:Nat):Int)=((W.met.idxOf j:Nat):Int):=e;omega),fun x hx=>?_,fun x hx v hv h3=>?_⟩
  ·have hm:=al x hx;have hl:=m.live x hx;have hlt:=List.idxOf_lt_length_of_mem hm;have e1:vG (fN W.view is).2 ((W.met.idxOf x:Nat):Int)=eV is (vG W.view.2 ((W.met.idxOf x:Nat):Int)):=by
    unfold vG fN;dsimp only;have:W.met.idxOf x<W.view.2.length:=by rw [S.eq];dsimp only;rw [List.length_map];exact hlt
    rw [Int.toNat_natCast,Ld,Ld,List.getElem?_map,Le this]
    rfl
   have hfd:∀ v ∈ (W.th x).fs,v.1=3→v.2 ∈ W.met:=fun v hv h3=>S.fd x hm v (by rw [h.gr];exact hv) h3;have hnd:W.nd x=((W.th x).k,(W.th x).fs):=rfl;rw [e1,my h hok hm,F2.gr];unfold Wd.nd;rw [Wd.di hl.1 hl.2.1,g3];unfold eJ eV;dsimp only;congr 1;rw [List.map_map];have hat:(W.pass true).1.getD x.toNat false=true:=by rw [cJ hl.1];exact hx
   have two:∀ l:List Vl,l.length=2→∃ a b,l=[a,b]:=fun l hl=>by
    match l,hl with
    | [a,b],_=>exact ⟨a,b,rfl⟩
   have hf:=hok.tk x hl;have pl:∀ v ∈ (W.th x).fs,aO (W.pass true).1 v=true→(if (((W.th x).k=4∧aO is (((W.th x).fs.map (bu W.met)).getD 0 (0,0))=false)∨aO is (bu W.met v)=false) then ((2,0):Vl) else bu W.met v)=if (W.th x).k=4∧aO is (((W.th x).fs.map (bu W.met)).getD 0 (0,0))=false then (2,0) else cZ (fun x=>((W.met.idxOf x:Nat):Int)) v:=fun v hv e=>by
    rw [inE v (hfd v hv),e];simp only [reduceCtorEq,or_false]
    rfl
   have shut:∀ j,ed W.nd (W.pass true).2.1 (fun k=>av (W.pass true).1 k=true) x j→av (W.pass true).1 j=true:=fun j hj=>m.shut x j hx hj;have inS_of:∀ v:Vl,(v.1=3→av (W.pass true).1 v.2=true)→aO (W.pass true).1 v=true:=fun v hv=>by
    unfold aO;by_cases e:v.1=3
    ·simp [e,hv e]
    ·simp [e]
   have e3:∀ v:Vl,v.1=3→v=(3,v.2):=fun v h=>Prod.ext h rfl;by_cases k4:(W.th x).k=4
   ·obtain ⟨u,v,huv⟩:=two (W.th x).fs (by rw [k4] at hf;simp [aQ] at hf;omega);rw [jZ hat k4 huv,huv];have hu:=inE u (hfd u (by rw [huv];simp));simp only [List.map_cons,List.map_nil,Function.comp,List.getD_cons_zero,k4,true_and,hu];by_cases hd:aO (W.pass true).1 u=false
    ·rw [if_pos (.inl hd),if_pos (.inl hd),if_pos hd];simp [cZ]
    ·have hv:aO (W.pass true).1 v=true:=inS_of v fun h3=>shut _ (.inr (.inr (.inl ⟨k4,by rw [hnd];dsimp only;rw [huv,←e3 v h3];rfl,fun z hz hz3=>by
      rw [hnd] at hz;dsimp only at hz;rw [huv] at hz;have hz:some u=some z:=hz;cases hz;unfold aO at hd;simp [hz3] at hd
      exact hd⟩)))
     rw [inE v (hfd v (by rw [huv];simp)),hv,if_neg hd,if_neg (by simp [hd]),if_neg (by simp [hd])]
     rfl
   ·by_cases k3:(W.th x).k=3
    ·obtain ⟨u,v,huv⟩:=two (W.th x).fs (by rw [k3] at hf;simp [aQ] at hf;omega);rw [lx hat k3 huv,huv];have hu:=inE u (hfd u (by rw [huv];simp));have hv:aO (W.pass true).1 v=true:=inS_of v fun h3=>shut _ (.inr (.inl ⟨k3,by rw [hnd];dsimp only;rw [huv,←e3 v h3];rfl⟩));simp only [List.map_cons,List.map_nil,Function.comp,hu,inE v (hfd v (by rw [huv];simp)),hv,k3];by_cases hd:aO (W.pass true).1 u=false
     ·rw [if_pos (.inr hd),if_pos hd,if_neg (by simp)];simp [cZ,bu]
     ·rw [if_neg (by simp [hd]),if_neg hd,if_neg (by simp)]
      rfl
    ·rw [ku hat k3 k4];dsimp only;refine List.map_congr_left fun v hv=>?_;have hs:aO (W.pass true).1 v=true:=inS_of v fun h3=>by
      have hk:=aX hf;by_cases k5:(W.th x).k=5
      ·rw [k5] at hf;simp [aQ] at hf;rw [hf] at hv;cases hv
      ·exact shut _ (.inl ⟨by show (W.th x).k=1∨(W.th x).k=2;omega,by rw [hnd,←e3 v h3];exact hv⟩)
     show (if ((W.th x).k=4∧aO is (((W.th x).fs.map (bu W.met)).getD 0 (0,0))=false)∨aO is (bu W.met v)=false then ((2,0):Vl) else bu W.met v)=_
     rw [inE v (hfd v hv),hs,if_neg (by simp [k4])]
     rfl
  ·have hx2:=(Wd.bB hok (major:=true)).2 hx;rw [F2.gr] at hv;exact (Wd.bB hok).1 (Wd.bp (ho2.tv x hx2 v hv) h3)
 have:=oN I2 (roots:=W.roots) (fun u hu h3=>(Wd.bB hok).1 (Wd.bp (ho2.rv u hu) h3))
 show dZ (vG (fN W.view is).2) W.view.1=dZ (W.after true).gr W.roots
 rw [←this];congr 1;rw [S.eq]
 rfl
theorem Wd.b9.bq (h:W.b9) (hok:W.ok) (ho2:(W.after true).ok):(W.after true).bq=dO (W.after true).view.2:=by
 have m:=(Wd.dh hok true).1;have F2:(W.after true).b9:=h.of (W.fM hok true);rw [(Wd.fr hok true).2,Wd.pY ho2,n3];have S:=Wd.seen ho2;have h2:=gB (p:=fun i=>av (W.pass true).1 i) (f:=fun i=>((W.after true).th i).words) ((List.range W.T.length).map (Int.ofNat ·));have e:((List.range W.T.length).map (Int.ofNat ·)).map (fun i=>if av (W.pass true).1 i then (W.th i).words else 0)=((List.range W.T.length).map (Int.ofNat ·)).map (fun i=>if av (W.pass true).1 i then ((W.after true).th i).words else 0):=by
  refine List.map_congr_left fun i _=>?_;cases hb:av (W.pass true).1 i
  ·rfl
  ·have hl:=m.live i hb;rw [if_pos rfl,if_pos rfl];unfold Th.words;rw [Wd.di hl.1 hl.2.1,jW (by rw [cJ hl.1];exact hb) (hok.tk i hl)]
 rw [e,←h2];have h3:=jB (f:=fun i=>((W.after true).th i).words) (fun i=>jo _) (m:=(W.after true).met) (l:=((List.range W.T.length).map (Int.ofNat ·)).filter fun i=>av (W.pass true).1 i) ((kp _).filter _) (fun i hi=>by
  have ha:=Wd.mX hok (List.mem_filter.1 hi).2;rw [F2.2] at ha
  exact F2.ly ho2 ha)
 have h4:=jB (f:=fun i=>((W.after true).th i).words) (fun i=>jo _) (l:=(W.after true).met) (m:=((List.range W.T.length).map (Int.ofNat ·)).filter fun i=>av (W.pass true).1 i) S.nd (fun i hi=>by
  have hl:=(Wd.bB hok).1 (S.lv i hi);have hl2:=m.live i hl;refine List.mem_filter.2 ⟨List.mem_map.2 ⟨i.toNat,List.mem_range.2 (by have:=hl2.2.1;have:=hl2.1;omega),?_⟩,hl⟩;have:=hl2.1
  show ((i.toNat:Nat):Int)=i
  omega)
 omega
theorem Wd.b9.sS (h:W.b9) (hok:W.ok):(W.cut true=(3,W))∨(W.cut true=(0,W.after true)∧(W.after true).ok):=by
 have hc:=hok.cut true;unfold Wd.cut at hc ⊢;rw [if_neg (by simp)] at hc ⊢;split
 ·exact .inl rfl
 ·rename_i h2;rw [if_neg h2] at hc;exact .inr ⟨rfl,hc⟩
end
end
section
structure cT (V:List Vl × List Nd):Prop where
 ft:∀ n ∈ V.2,aQ n.1 n.2.length=true
 rt:∀ v ∈ V.1,jn V.2.length v
 fd:∀ n ∈ V.2, ∀ v ∈ n.2,jn V.2.length v
def aS (V:List Vl × List Nd) (i:Nat):Nd:=V.2.getD i (0,[])
def ct (V:List Vl × List Nd) (i j:Nat):Vl:=(aS V i).2.getD j (0,0)
def eG (V:List Vl × List Nd) (is:List Bool) (i j:Nat):Prop:=
 ((aS V i).1=3∧j=0)∨((aS V i).1=4∧(j=0∨aO is (ct V i 0)=false))∨aO is (ct V i j)=true
def pe (V:List Vl × List Nd) (is:List Bool) (i:Nat):Prop:=av is (i:Int)=true→∀ j,j<(aS V i).2.length→eG V is i j
structure BI (V:List Vl × List Nd) (s0 is:List Bool) (more:Bool):Prop where
 len:is.length=V.2.length
 al:∀ j,av is j=true→leastOf V j
 m:(more=false∧is=s0)∨(more=true∧ir is<ir s0)
section
variable {V:List Vl × List Nd} {s0 is:List Bool} {more:Bool}
theorem kU {i:Nat} (h:i<V.2.length):aS V i ∈ V.2:=by
 unfold aS;rw [Ld,Le h];exact List.getElem_mem _
theorem nC {i j:Nat} (h:j<(aS V i).2.length):ct V i j ∈ (aS V i).2:=by
 unfold ct;rw [Ld,Le h];exact List.getElem_mem _
theorem fx {i j:Nat} (h:j<(aS V i).2.length):(aS V i).2[j]? = some (ct V i j):=by
 unfold ct;rw [Ld,Le h];rfl
theorem cT.nd (O:cT V) {i:Nat} (h:i<V.2.length):aQ (aS V i).1 (aS V i).2.length=true:=O.ft _ (kU h)
theorem cT.fl (O:cT V) {i j:Nat} (h:i<V.2.length) (hj:j<(aS V i).2.length):jn V.2.length (ct V i j):=O.fd _ (kU h) _ (nC hj)
theorem cT.rl (O:cT V) {i:Nat} (h:i<V.1.length):jn V.2.length (V.1.getD i (0,0)):=by
 refine O.rt _ ?_;rw [Ld,Le h];exact List.getElem_mem _
theorem BI.add (B:BI V s0 is more) {v:Vl} (hv:jn V.2.length v) (ha:v.1=3→leastOf V v.2):BI V s0 (eK is v) (more || !aO is v):=by
 cases hi:aO is v
 ·obtain ⟨h3,h4⟩:=kq hi;obtain ⟨h0,h1⟩:=hv h3;have hu:=rh (l:=is) (v:=v) (by rw [B.len];exact hv) hi;have e:eK is v=is.set v.2.toNat true:=by unfold eK;rw [hi];simp
  refine ⟨by rw [pW];exact B.len,fun j hj=>?_, .inr ⟨by simp,?_⟩⟩
  ·rw [e] at hj;rcases (eE h0 (by rw [B.len];exact h1)).1 hj with rfl | h
   ·exact ha h3
   ·exact B.al j h
  ·rcases B.m with ⟨-,rfl⟩ | ⟨-,h⟩ <;> omega
 ·have e:eK is v=is:=by unfold eK;rw [hi];rfl
  rw [e,Bool.not_true,Bool.or_false];exact B
theorem BI.none (B:BI V s0 is more) {v:Vl} (h:(more || !aO is v)=false):more=false∧aO is v=true∧eK is v=is:=by
 cases hm:more
 ·rw [hm] at h;have hi:aO is v=true:=by simpa using h
  exact ⟨rfl,hi,by unfold eK;rw [hi];rfl⟩
 ·rw [hm] at h;cases h
theorem BI.same (B:BI V s0 is more) (h:more=false):is=s0:=by
 rcases B.m with h1 | h1
 ·exact h1.2
 ·rw [h] at h1;cases h1.1
theorem n6 {i:Nat} (h:i<V.1.length):(V.1.getD i (0,0)).1=3→leastOf V (V.1.getD i (0,0)).2:=fun h3=>by
 refine aU.base ?_;have:((3,(V.1.getD i (0,0)).2):Vl)=V.1.getD i (0,0):=Prod.ext h3.symm rfl;rw [this,Ld,Le h];exact List.getElem_mem _
theorem kx (i:Nat):vG V.2 (i:Int)=aS V i:=by unfold vG aS;rw [Int.toNat_natCast]
theorem ic (O:cT V) (B:BI V s0 is more) {i j:Nat} (hi:i<V.2.length) (hj:j<(aS V i).2.length) (ha:av is (i:Int)=true) (h3:¬ ((aS V i).1=3∧j=0)) (h4:¬ ((aS V i).1=4∧(j=0∨aO is (ct V i 0)=false))) :
  (ct V i j).1=3→leastOf V (ct V i j).2:=fun hv=>by
 have hf:=O.nd hi;have hk:=aX hf;have e:((3,(ct V i j).2):Vl)=ct V i j:=Prod.ext hv.symm rfl;refine aU.closed _ _ _ (i:Int) _ (B.al _ ha) ?_;unfold ed;rw [kx,e];by_cases k12:(aS V i).1=1∨(aS V i).1=2
 ·exact .inl ⟨k12,nC hj⟩
 by_cases k3:(aS V i).1=3
 ·have hl:(aS V i).2.length=2:=by rw [k3] at hf;simp [aQ] at hf;omega
  have hj0:j≠0:=fun h=>h3 ⟨k3,h⟩;have:j=1:=by omega
  subst this;exact .inr (.inl ⟨k3,fx hj⟩)
 by_cases k4:(aS V i).1=4
 ·have hl:(aS V i).2.length=2:=by rw [k4] at hf;simp [aQ] at hf;omega
  have hj0:j≠0:=fun h=>h4 ⟨k4, .inl h⟩;have:j=1:=by omega
  subst this;refine .inr (.inr (.inl ⟨k4,fx hj,fun u hu hu3=>?_⟩));rw [fx (by omega)] at hu;cases hu;have:aO is (ct V i 0)=true:=by
   cases hb:aO is (ct V i 0)
   ·exact absurd ⟨k4, .inr hb⟩ h4
   ·rfl
  exact B.al _ (gG this hu3)
 ·have k5:(aS V i).1=5:=by
   have h1:(aS V i).1≠1:=fun e=>k12 (.inl e);have h2:(aS V i).1≠2:=fun e=>k12 (.inr e);omega
  rw [k5] at hf;simp [aQ] at hf;rw [hf] at hj;simp at hj
theorem n7 (hlen:is.length=V.2.length) (hal:∀ j,av is j=true→leastOf V j) (O:cT V) (hr:∀ i,i<V.1.length→aO is (V.1.getD i (0,0))=true) (hn:∀ i,i<V.2.length→pe V is i):kT V is:=by
 refine ⟨hlen,fun j=>⟨fun h=>?_,fun h=>?_⟩⟩
 ·have:=ev h;rw [hlen] at this;exact ⟨this.1,this.2,hal j h⟩
 ·refine h.2.2.least (S:=fun j=>av is j=true) (fun k hk=>?_) (fun a b ha hab=>?_)
  ·obtain ⟨i,hi,e⟩:=List.mem_iff_getElem.1 hk;have:=hr i hi;rw [Ld,Le hi] at this;have e':(V.1[i]? ).getD (0,0)=((3,k):Vl):=by rw [Le hi];exact e
   have e2:(some V.1[i]).getD (0,0)=((3,k):Vl):=e;rw [e2] at this;exact gG this rfl
  ·have hb:=ev ha;rw [hlen] at hb;obtain ⟨i,rfl⟩:=Int.eq_ofNat_of_zero_le hb.1;have hi:i<V.2.length:=by omega
   have hN:=hn i hi ha;unfold ed at hab;rw [kx] at hab;have hf:=O.nd hi;rcases hab with ⟨h1,h2⟩ | ⟨h1,h2⟩ | ⟨h1,h2,h3⟩ | ⟨_,h2⟩
   ·obtain ⟨j,hj,e⟩:=List.mem_iff_getElem.1 h2;have ef:ct V i j=(3,b):=by
     have:=fx hj;rw [Le hj,e] at this;exact (Option.some.inj this).symm
    rcases hN j hj with h | h | h
    ·omega
    ·omega
    ·rw [ef] at h;exact gG h rfl
   ·have hj:=(List.getElem?_eq_some_iff.1 h2).1;have ef:ct V i 1=(3,b):=by
     have:=fx hj;rw [h2] at this;exact (Option.some.inj this).symm
    rcases hN 1 hj with h | h | h
    ·omega
    ·omega
    ·rw [ef] at h;exact gG h rfl
   ·have hj:=(List.getElem?_eq_some_iff.1 h2).1;have ef:ct V i 1=(3,b):=by
     have:=fx hj;rw [h2] at this;exact (Option.some.inj this).symm
    rcases hN 1 hj with h | h | h
    ·omega
    ·exfalso;rcases h.2 with h | h
     ·omega
     ·obtain ⟨h5,h6⟩:=kq h;have h7:av is (ct V i 0).2=true:=h3 (ct V i 0) (fx (by omega)) h5;rw [h6] at h7;cases h7
    ·rw [ef] at h;exact gG h rfl
   ·cases h2
theorem cT.r9 (O:cT V) (is:List Bool):cT (fN V is):=by
 have hl:(fN V is).2.length=V.2.length:=by unfold fN;simp
 refine ⟨fun n hn=>?_,fun v hv=>?_,fun n hn v hv=>?_⟩
 ·obtain ⟨m,hm,rfl⟩:=List.mem_map.1 hn;have:=O.ft m hm;unfold eV;dsimp only;rw [List.length_map];exact this
 ·rw [hl];exact O.rt v hv
 ·obtain ⟨m,hm,rfl⟩:=List.mem_map.1 hn;obtain ⟨u,hu,rfl⟩:=List.mem_map.1 hv;rw [hl];split
  ·intro h;cases h
  ·exact O.fd m hm u hu
theorem Wd.b9.sa {W:Wd} (h:W.b9) (hok:W.ok):cT W.view:=by
 have S:=Wd.seen hok;have hl:W.view.2.length=W.met.length:=by rw [S.eq];simp
 have num:∀ v:Vl,(v.1=3→v.2 ∈ W.met)→jn W.view.2.length (bu W.met v):=fun v hv h3=>by
  have h3':v.1=3:=by unfold bu at h3;rw [gL] at h3;exact h3
  have:=List.idxOf_lt_length_of_mem (hv h3');unfold bu cZ;rw [if_pos h3',hl];dsimp only;omega
 refine ⟨fun n hn=>?_,fun v hv=>?_,fun n hn v hv=>?_⟩
 ·rw [S.eq] at hn;obtain ⟨x,hx,rfl⟩:=List.mem_map.1 hn;rw [h.gr];unfold eJ Wd.nd;dsimp only;rw [List.length_map];exact hok.tk x (S.lv x hx)
 ·rw [S.eq] at hv;obtain ⟨u,hu,rfl⟩:=List.mem_map.1 hv;exact num u (S.rt u hu)
 ·rw [S.eq] at hn;obtain ⟨x,hx,rfl⟩:=List.mem_map.1 hn;obtain ⟨u,hu,rfl⟩:=List.mem_map.1 hv;exact num u (S.fd x hx u hu)
end
end
section
open Go.RowKit
structure s8 where
 xb:Nat
 ib:Nat
 bb:Nat
 hb:Nat
 mb:Nat
structure cM (w0 w:World) (g:s8) (rv nv:Value) (is:List Bool) (more:Bool):Prop where
 K:aa (fun _=>False) w0 w
 X:ah w g.xb [rv,nv] 72
 I:ah w g.ib [.slice (some ⟨g.bb,0,none⟩) is.length is.length] 76
 B:ah w g.bb (is.map Value.bool) 4
 H:ah w g.hb [.func (.func 109) #[] #[.pointer (some ⟨g.ib,0,none⟩)]] 79
 M:ah w g.mb [.bool more] 4
 lb:w0.heap.size≤g.bb
 lm:w0.heap.size≤g.mb
 ne:g.bb≠g.mb
def lsMu (w:World) (bb mb:Nat):Nat:=2*(match w.heap[bb]? with
 | some (.cells a _ _)=>ir (a.toList.map fun v=>match v with | .bool true=>true | _=>false)
 | _=>0)+match w.cell? ⟨mb,0,none⟩ with
 | some (.bool true)=>1
 | _=>0
section
variable {w0 w w':World} {g:s8} {rv nv:Value} {is:List Bool} {more:Bool}
theorem cM.mu (S:cM w0 w g rv nv is more):lsMu w g.bb g.mb=2*ir is+if more then 1 else 0:=by
 have h:=S.B;have m:=S.M.cell 0;simp only [Lz] at m;unfold ah at h;unfold lsMu;rw [h,m];dsimp only;have e:(is.map Value.bool).toArray.toList.map (fun v=>match v with | .bool true=>true | _=>false)=is:=by
  simp only [List.map_map]
  conv=>rhs;rw [←List.map_id is]
  refine List.map_congr_left fun x _=>?_;cases x <;> rfl
 rw [e];cases more <;> rfl
theorem cM.same (S:cM w0 w g rv nv is more) (k:aa (fun _=>False) w w'):cM w0 w' g rv nv is more:=
 ⟨S.K.trans k,k.ai S.X (fun h=>h),k.ai S.I (fun h=>h),k.ai S.B (fun h=>h),k.ai S.H (fun h=>h),k.ai S.M (fun h=>h),S.lb,S.lm,S.ne⟩
theorem cM.set (S:cM w0 w g rv nv is more) (i:Nat):cM w0 (w.setCell ⟨g.bb,i,none⟩ (.bool true)) g rv nv (is.set i true) more:=
 ⟨S.K.setCell (p:=⟨g.bb,i,none⟩) (.inr S.lb) _,S.X.cA (a:=⟨g.bb,i,none⟩) (S.X.ne S.B (by decide)) _,by rw [List.length_set];exact S.I.cA (a:=⟨g.bb,i,none⟩) (S.I.ne S.B (by decide)) _,
  by rw [List.map_set];exact S.B.aF i _,S.H.cA (a:=⟨g.bb,i,none⟩) (S.H.ne S.B (by decide)) _,S.M.cA (a:=⟨g.bb,i,none⟩) (Ne.symm S.ne) _,S.lb,S.lm,S.ne⟩
theorem cM.nD (S:cM w0 w g rv nv is more) (m:Bool):cM w0 (w.setCell ⟨g.mb,0,none⟩ (.bool m)) g rv nv is m:=
 ⟨S.K.setCell (p:=⟨g.mb,0,none⟩) (.inr S.lm) _,S.X.cA (a:=⟨g.mb,0,none⟩) (S.X.ne S.M (by decide)) _,S.I.cA (a:=⟨g.mb,0,none⟩) (S.I.ne S.M (by decide)) _,
  S.B.cA (a:=⟨g.mb,0,none⟩) S.ne _,S.H.cA (a:=⟨g.mb,0,none⟩) (S.H.ne S.M (by decide)) _,S.M.aF 0 _,S.lb,S.lm,S.ne⟩
theorem cM.bool (S:cM w0 w g rv nv is more) {i:Nat} (hi:i<is.length):w.cell? ⟨g.bb,i,none⟩=some (.bool (is.getD i false)):=by
 rw [S.B.cell,List.getElem?_map,Ld,Le hi];rfl
theorem nG (v:Vl) {ib bb:Nat} (hI:ah w ib [.slice (some ⟨bb,0,none⟩) is.length is.length] 76) (hB:ah w bb (is.map Value.bool) 4) (hv:jn is.length v) (hl:is.length≤1000000) :
  Calls Try.prog 109 #[.agg #[.int .i64 v.1, .int .i64 v.2], .pointer (some ⟨ib,0,none⟩)] w fun e w'=>e=.returned (.bool (aO is v))∧aa (fun _=>False) w w':=by
 obtain ⟨k,n⟩:=v;have ka:=(Kz w).alloc (.cells #[.int .i64 k, .int .i64 n] 78);have hx:=ah.new w [.int .i64 k, .int .i64 n] 78;have i0:=(ka.ai hI (fun h=>h)).cell 0;have il:=(ka.ai hI (fun h=>h)).lt;have b1:=ka.ai hB (fun h=>h);have x0:=hx.cell 0;have x1:=hx.cell 1;have xl:=hx.lt;simp only [Lz,Ls] at i0 x0 x1;have HB:=Hz b1;have HK:=Hz ka;clear hI hB hx ka b1;dsimp only;go_enter Try.func109,Try.ntmps109;go_upto_region 1 with (fail)
 generalize w.alloc (.cells #[.int .i64 k, .int .i64 n] 78)=w1 at *;generalize w.heap.size=xb at *;by_cases h3:k=3
 ·subst h3;obtain ⟨h0,h1⟩:=hv rfl;dsimp only at h0 h1;obtain ⟨m,rfl⟩:=Int.eq_ofNat_of_zero_le h0;have hm:m<is.length:=by omega
  have c0:w1.cell? ⟨bb,m,none⟩=some (.bool (is.getD m false)):=by
   rw [HB.out.cell,List.getElem?_map,Ld,Le hm];rfl
  have bl:=HB.out.lt;have HE:=Hz (show aO is (3,(m:Int))=is.getD m false by simp [aO,av]);clear hv h0;generalize is.getD m false=q at *;go_wp2_with fail;go_ret;exact ⟨cW HE.out.symm,HK.out⟩
 ·have hkb:(k != 3)=true:=by simpa using h3
  have HE:=Hz (show aO is (k,n)=true by simp [aO,hkb]);clear hv h3;go_wp2_with fail;go_ret;exact ⟨cW HE.out.symm,HK.out⟩
theorem jC (S:cM w0 w g rv nv is more) (v:Vl) (hv:jn is.length v) (hl:is.length≤1000000) :
  Calls Try.prog 110 #[.agg #[.int .i64 v.1, .int .i64 v.2], .pointer (some ⟨g.hb,0,none⟩), .pointer (some ⟨g.ib,0,none⟩), .pointer (some ⟨g.mb,0,none⟩)] w fun e w'=>e=.returned (.tuple #[])∧cM w0 w' g rv nv (eK is v) (more || !aO is v)∧aa (fun k=>k=g.bb∨k=g.mb) w w':=by
 obtain ⟨k,n⟩:=v;have ka:=(Kz w).alloc (.cells #[.int .i64 k, .int .i64 n] 78);have HX:=Hz (ah.new w [.int .i64 k, .int .i64 n] 78);have HS:=Hz (S.same ka);have KA:=Hz ka;clear S ka;dsimp only;go_enter Try.func110,Try.ntmps110;go_upto_region 1 with (fail)
 generalize w.alloc (.cells #[.int .i64 k, .int .i64 n] 78)=w1 at *;generalize w.heap.size=xb at *;have x0:=HX.out.cell 0;have x1:=HX.out.cell 1;have xl:=HX.out.lt;have h0:=HS.out.H.cell 0;have hl':=HS.out.H.lt;simp only [Lz,Ls] at x0 x1 h0;go_wp2_with fail;refine (nG (k,n) HS.out.I HS.out.B hv hl).mono ?_;rintro e w2 ⟨rfl,hk⟩;have HS2:=Hz (HS.out.same hk);have HX2:=Hz (hk.ai HX.out (fun h=>h));have K2:=Hz ((KA.out.trans hk).mono (T:=fun k=>k=g.bb∨k=g.mb) (fun _ _ h=>h.elim));clear hk HS HX KA x0 x1 xl h0 hl';cases hi:aO is (k,n)
 ·obtain ⟨h3,-⟩:=kq hi;obtain ⟨h0,h1⟩:=hv h3;dsimp only at h3 h0 h1;subst h3;obtain ⟨m,rfl⟩:=Int.eq_ofNat_of_zero_le h0;have hm:m<is.length:=by omega
  have HE:=Hz (show eK is (3,(m:Int))=is.set m true by unfold eK;rw [hi];simp);have HI:=Hz hi;clear hi hv h0;have x1:=HX2.out.cell 1;have xl:=HX2.out.lt;have i0:=HS2.out.I.cell 0;have il:=HS2.out.I.lt;have bl:=HS2.out.B.lt;have ml:=HS2.out.M.lt;have bf:=HS2.out.B.free m;have mf:=HS2.out.M.free 0;have ne1:=HS2.out.ne;have ne2:=Ne.symm HS2.out.ne;have b0:=HS2.out.bool hm;have m0:=HS2.out.M.cell 0;simp only [Lz,Ls] at x1 i0 m0;generalize is.getD m false=q at *;go_wp2_with fail;go_end0;rw [HE.out,HI.out,Bool.not_false,Bool.or_true];refine ⟨rfl,(HS2.out.set m).nD true,(K2.out.setCell (p:=⟨g.bb,m,none⟩) (.inl (.inl rfl)) _).setCell (p:=⟨g.mb,0,none⟩) (.inl (.inr rfl)) _⟩
 ·have HE:=Hz (show eK is (k,n)=is by unfold eK;rw [hi];rfl);have HI:=Hz hi;clear hi hv;go_wp2_with fail;go_end0;rw [HE.out,HI.out,Bool.not_true,Bool.or_false];exact ⟨rfl,HS2.out,K2.out⟩
end
end
section
open Go.RowKit
section
variable {w w':World}
def qc (w:World) (V:List Vl × List Nd) (e:Ending) (w':World):Prop:=
 ∃ is bb,e=.returned (.slice (some ⟨bb,0,none⟩) is.length is.length)∧kT V is∧ah w' bb (is.map Value.bool) 4∧w.heap.size≤bb∧aa (fun _=>False) w w'
def cu (V:List Vl × List Nd) (is:List Bool) (k:Nat):Prop:=∀ i,i<k→aO is (V.1.getD i (0,0))=true
def cN (V:List Vl × List Nd) (is:List Bool) (k:Nat):Prop:=∀ i,i<k→pe V is i
theorem bQ.node {w0:World} {yv:Value} {F:Nat→Prop} {l:List Nd} (N:bQ w0 yv F l) {i:Nat} (hi:i<l.length):∃ gy oy yc ao ac,yv=.slice (some ⟨gy,oy,none⟩) l.length yc∧∀ w',aa (fun _=>False) w0 w' →
  gy<w'.heap.size∧w'.cell? ⟨gy,oy+i*2,none⟩=some (.int .i64 (l.getD i (0,[])).1)∧w'.cell? ⟨gy,oy+i*2+1,none⟩=some (.slice ao (l.getD i (0,[])).2.length ac)∧Rd w' ao (aC (l.getD i (0,[])).2):=by
 obtain ⟨no,nc,rfl,h⟩:=N.nth;obtain ⟨gy,oy,ao,ac,rfl,hg,c0,c1,rd,-⟩:=h i hi;refine ⟨gy,oy,nc,ao,ac,rfl,fun w' k=>⟨Nat.lt_of_lt_of_le hg k.size,(k.cellAt hg (fun h=>h) _).trans c0,(k.cellAt hg (fun h=>h) _).trans c1,rd.ae k (fun _ _ _ h=>h)⟩⟩
theorem rm (V:List Vl × List Nd) (x:Value) (w:World) (h:gZ w x V) (O:cT V):Calls Try.prog 65 #[x] w (qc w V):=by
 obtain ⟨ro,rc,nv,F,rfl,r1,n1,l1,l2,l3⟩:=h;obtain ⟨no,nc,rfl,N1⟩:=n1.nth;have R1:=Hz r1;have M1:=Hz n1;have L3:=Hz l3;have OV:=Hz O;clear r1 n1 N1 l3 O;obtain ⟨ib0,hi,hz0,hz1,hz2⟩:=info_parts gX;have hmk:=fun (wx:World)=>cR (P:=Try.prog) wx 76 4 ib0 (.bool false) Try.underlying76 hi hz0 rfl hz1 V.2.length (by rw [hz2];omega) (by omega);clear hi hz0 hz1 hz2 ib0;have hx:=ah.new w [.slice ro V.1.length rc, .slice no V.2.length nc] 72;have x0:=hx.cell 0;have x1:=hx.cell 1;have xl:=hx.lt;simp only [Lz,Ls] at x0 x1;clear hx;go_enter Try.func65,Try.ntmps65;go_upto_region 3 with (fail)
 clear x0 x1 xl hmk;have HB:Hid (∃ w1,(((((w.alloc (.cells #[.slice ro V.1.length rc, .slice no V.2.length nc] 72)).alloc (.cells (Array.replicate V.2.length (.bool false)) 4)).alloc (.cells #[.slice (some ⟨w.heap.size+1,0,none⟩) V.2.length V.2.length] 76)).alloc (.cells #[.func (.func 109) #[] #[.pointer (some ⟨w.heap.size+1+1,0,none⟩)]] 79)).alloc (.cells #[.bool true] 4))=w1 ∧
   cM w w1 ⟨w.heap.size,w.heap.size+1+1,w.heap.size+1,w.heap.size+1+1+1,w.heap.size+1+1+1+1⟩ (.slice ro V.1.length rc) (.slice no V.2.length nc) (List.replicate V.2.length false) true):=
  ⟨_,rfl,(((((Kz w).alloc _).alloc _).alloc _).alloc _).alloc _,((((ah.newAt _ rfl rfl).alloc _).alloc _).alloc _).alloc _,by rw [List.length_replicate];exact ((ah.newAt _ (by simp) rfl).alloc _).alloc _,(((ah.newAt _ (by simp) (by simp)).alloc _).alloc _).alloc _,(ah.newAt _ (by simp) rfl).alloc _,ah.newAt _ (by simp) rfl,by dsimp only;omega,by dsimp only;omega,by dsimp only;omega⟩
 go_upto_region 4 with (fail);obtain ⟨w1,hw1,S1⟩:=HB.out;rw [hw1];have HS:=Hz S1;clear HB hw1 S1;generalize hmb:w.heap.size+1+1+1+1=mb at *;generalize hhb:w.heap.size+1+1+1=hb at *;generalize hib:w.heap.size+1+1=ib at *;generalize hbb:w.heap.size+1=bb at *;generalize hxb:w.heap.size=xb at *;have HBB:=Hz (show w.heap.size≤bb by omega);clear hmb hhb hib hbb hxb;have HI:=Hz (show ∃ is more,cM w w1 ⟨xb,ib,bb,hb,mb⟩ (.slice ro V.1.length rc) (.slice no V.2.length nc) is more∧is.length=V.2.length∧(∀ j,av is j=true→leastOf V j)∧(more=false→cu V is V.1.length∧cN V is V.2.length) from
  ⟨_,true,HS.out,(by simp),(fun j hj=>by
   exfalso;unfold av at hj;simp only [Bool.and_eq_true,Ld,List.getElem?_replicate] at hj;have:=hj.2
   split at this <;> simp at this),(fun h=>by cases h)⟩)
 clear HS;go_wp2_with fail;go_loopw [] (fun wr=>∃ is more,cM w wr ⟨xb,ib,bb,hb,mb⟩ (.slice ro V.1.length rc) (.slice no V.2.length nc) is more∧is.length=V.2.length∧(∀ j,av is j=true→leastOf V j)∧(more=false→cu V is V.1.length∧cN V is V.2.length)) (fun wr=>lsMu wr bb mb)
 case atStart=>exact HI.out
 case round=>
  clear HI;obtain ⟨s0,more,hS,hlen,hal,hdone⟩:=hrel;have HS:=Hz hS;have HLEN:=Hz hlen;have HAL:=Hz hal;have m0:=hS.M.cell 0;have ml:=hS.M.lt;have mf:=hS.M.free 0;simp only [Lz] at m0;cases more
  ·have HDN:=Hz (hdone rfl);have i0:=hS.I.cell 0;have il:=hS.I.lt;simp only [Lz] at i0;clear hS hlen hal hdone;go_wp2_with fail;go_ret;exact ⟨s0,bb,rfl,n7 HLEN.out HAL.out OV.out HDN.out.1 HDN.out.2,HS.out.B,HBB.out,HS.out.K⟩
  ·have HMU:=Hz (show lsMu wr bb mb=2*ir s0+1 from hS.mu);clear hS hlen hal hdone;go_upto_region 7 with (fail)
   have HS2:=Hz (HS.out.nD false);have BI0:=Hz (show BI V s0 s0 false from ⟨HLEN.out,HAL.out, .inl ⟨rfl,rfl⟩⟩);clear HS HAL m0 ml mf;generalize w1.setCell _ _=wz at *;go_wp2_with fail;go_loopw [7] (fun i wr=>∃ (k:Nat) (is:List Bool) (more:Bool),k≤V.1.length∧i=.int .i64 k∧cM w wr ⟨xb,ib,bb,hb,mb⟩ (.slice ro V.1.length rc) (.slice no V.2.length nc) is more∧BI V s0 is more∧(more=false→cu V s0 k)) (fun i _=>V.1.length-(intOf i).toNat)
   case atStart=>exact ⟨0,s0,false,Nat.zero_le _,rfl,HS2.out,BI0.out,fun _ i hi=>by omega⟩
   case round=>
    clear HS2 BI0;obtain ⟨k,is,more,hk,rfl,hS,hB,hR⟩:=hrel;have HS:=Hz hS;have HB:=Hz hB;have HR:=Hz hR;have x0:=hS.X.cell 0;have x1:=hS.X.cell 1;have xl:=hS.X.lt;simp only [Lz,Ls] at x0 x1;by_cases hlt:k<V.1.length
    ·obtain ⟨gr,og,rfl,hgr,d0,d1⟩:=(R1.out.ae hS.K (fun _ _ _ h=>h)).val k hlt;have HV:=Hz (OV.out.rl hlt);have HL:=Hz (n6 hlt);have HG:=Hz (fun i (hi:i<k+1)=>(show i<k∨i=k by omega));generalize hv:V.1.getD k (0,0)=v at *;have HVE:=Hz hv;have hil:is.length≤1000000:=by rw [hB.len];omega
     have HA:=Hz (fun w' (S':cM w w' ⟨xb,ib,bb,hb,mb⟩ (.slice (some ⟨gr,og,none⟩) V.1.length rc) (.slice no V.2.length nc) is more)=>jC S' v (by rw [HB.out.len];exact HV.out) hil);clear hS hB hR hv;obtain ⟨v1,v2⟩:=v;dsimp only at d0 d1;go_wp2_with fail;refine (HA.out _ HS.out).mono ?_;rintro e w2 ⟨rfl,hS2,-⟩;have HS2:=Hz hS2;have HB2:=Hz (HB.out.add HV.out HL.out);have HR2:=Hz (show (more || !aO is (v1,v2))=false→cu V s0 (k+1) from fun h i hi=>by
      obtain ⟨h1,h2,-⟩:=HB.out.none h;rcases HG.out i hi with h3 | rfl
      ·exact HR.out h1 i h3
      ·rw [HVE.out,←HB.out.same h1];exact h2)
     clear hS2 HA d0 d1 x0 x1 xl hgr HS HB HR;go_wp2_with fail;go_roundw
     case rel=>exact ⟨k+1,_,_,hlt,by go_num,HS2.out,HB2.out,HR2.out⟩
     case measure=>simp [intOf];omega
    ·obtain rfl:k=V.1.length:=by omega
     clear hS hB hR;go_upto_region 11 with (fail)
     have HS3:=Hz HS.out;have HB3:=Hz HB.out;have HR3:=Hz (show more=false→cu V s0 V.1.length∧cN V s0 0 from fun h=>⟨HR.out h,fun i hi=>by omega⟩);clear HS HB HR x0 x1 xl;go_wp2_with fail;go_loopw [8] (fun i wr=>∃ (q:Nat) (is:List Bool) (more:Bool),q≤V.2.length∧i=.int .i64 q∧cM w wr ⟨xb,ib,bb,hb,mb⟩ (.slice ro V.1.length rc) (.slice no V.2.length nc) is more∧BI V s0 is more∧(more=false→cu V s0 V.1.length∧cN V s0 q)) (fun i _=>V.2.length-(intOf i).toNat)
     case atStart=>exact ⟨0,is,more,Nat.zero_le _,rfl,HS3.out,HB3.out,HR3.out⟩
     case round=>
      clear HS3 HB3 HR3;rename_i is0 more0 hk0 _ _ _;obtain ⟨q,is,more,hq,rfl,hS,hB,hR⟩:=hrel;have HS:=Hz hS;have HB:=Hz hB;have HR:=Hz hR;have x1:=hS.X.cell 1;have xl:=hS.X.lt;simp only [Lz,Ls] at x1;by_cases hlt:q<V.2.length
      ·obtain ⟨gn,on,nc',ao,ac,e',hnode⟩:=M1.out.node hlt;cases e';have hnd:V.2.getD q (0,[])=aS V q:=rfl;rw [hnd] at hnode;have NODE:=Hz hnode;obtain ⟨hgn,c0,c1,-⟩:=hnode wr hS.K;have hnl:(aS V q).2.length≤12:=by have:=(aX (OV.out.nd hlt)).2.2.2;omega
       clear hS hB hR hnd hnode;go_upto_region 15 with (fail)
       have ka:=(Kz wr).alloc (.cells #[.int .i64 (aS V q).1, .slice ao (aS V q).2.length ac] 83);have HSA:=Hz (HS.out.same ka);have HNA:=Hz (ah.new wr [.int .i64 (aS V q).1, .slice ao (aS V q).2.length ac] 83);have HR0:=Hz (show more=false→cu V s0 V.1.length∧cN V s0 q∧∀ j,j<0→eG V s0 q j from fun h=>⟨(HR.out h).1,(HR.out h).2,fun j hj=>by omega⟩);have HB0:=Hz HB.out;clear ka HS HB HR x1 xl hgn c0 c1;generalize wr.alloc (.cells #[.int .i64 (aS V q).1, .slice ao (aS V q).2.length ac] 83)=wa at *;generalize wr.heap.size=nb at *;go_wp2_with fail;go_loopw [10] (fun i wx=>∃ (f:Nat) (is:List Bool) (more:Bool),f≤(aS V q).2.length∧i=.int .i64 f∧cM w wx ⟨xb,ib,bb,hb,mb⟩ (.slice ro V.1.length rc) (.slice (some ⟨gn,on,none⟩) V.2.length nc) is more∧BI V s0 is more∧(more=false→cu V s0 V.1.length∧cN V s0 q∧∀ j,j<f→eG V s0 q j)∧ah wx nb [.int .i64 (aS V q).1, .slice ao (aS V q).2.length ac] 83) (fun i _=>(aS V q).2.length-(intOf i).toNat)
       case atStart=>exact ⟨0,is,more,Nat.zero_le _,rfl,HSA.out,HB0.out,HR0.out,HNA.out⟩
       case round=>
        clear HSA HB0 HR0 HNA;rename_i wa0 wr0 is1 more1 hq1 _ _ _;obtain ⟨f,is,more,hf,rfl,hS,hB,hR,hN⟩:=hrel;have HS:=Hz hS;have HB:=Hz hB;have HR:=Hz hR;have HN:=Hz hN;have n0:=hN.cell 0;have n1:=hN.cell 1;have nl:=hN.lt;simp only [Lz,Ls] at n0 n1;by_cases hfl:f<(aS V q).2.length
        ·have hq':q<is.length:=by rw [hB.len];exact hlt
         have hqi:(q:Int)<is.length:=by omega
         have i0:=hS.I.cell 0;have il:=hS.I.lt;have bl:=hS.B.lt;have b0:=hS.bool hq';simp only [Lz] at i0;have hat:=cG is q;cases hb':is.getD q false
         ·rw [hb'] at hat b0;have HNO:=Hz (show more=false→cu V s0 V.1.length∧cN V s0 (q+1) from fun h=>by
           obtain ⟨r1,r2,r3⟩:=hR h;refine ⟨r1,fun i hi=>?_⟩;rcases (show i<q∨i=q by omega) with h1 | rfl
           ·exact r2 i h1
           ·intro ha
            rw [←hB.same h,hat] at ha;cases ha)
          clear hS hB hR hN hat hb' HR HN n0;go_wp2_with fail;go_roundw
          case rel=>exact ⟨q+1,_,_,hlt,by go_num,HS.out,HB.out,HNO.out⟩
          case measure=>simp [intOf];omega
         ·rw [hb'] at hat b0;have HAT:=Hz hat
          have HRD:=Hz (NODE.out wr hS.K).2.2.2;clear hS hB hR hN hat hb' hqi;have hq'':(q:Int)<is.length:=by omega
          have HK5:=Hz (OV.out.nd hlt);by_cases k3:(aS V q).1=3
          ·rw [k3] at n0;by_cases f0:f=0
           ·have hf0:((f:Int) == 0)=true:=by simp;omega
            have HF0:=Hz f0;have HK3:=Hz k3;clear f0 k3;have HR2:=Hz (show more=false→cu V s0 V.1.length∧cN V s0 q∧∀ j,j<f+1→eG V s0 q j from fun h1=>by
             obtain ⟨r1,r2,r3⟩:=HR.out h1;refine ⟨r1,r2,fun j hj=>?_⟩;rcases (show j<f∨j=f by omega) with h3 | rfl
             ·exact r3 j h3
             ·exact .inl ⟨HK3.out,HF0.out⟩)
            skip
            go_wp2_with fail;go_roundw
            case rel=>exact ⟨f+1,_,_,hfl,by go_num,HS.out,HB.out,HR2.out,HN.out⟩
            case measure=>simp [intOf];omega
           ·have hf0:((f:Int) == 0)=false:=by simp;omega
            have HF0:=Hz f0;have HK3:=Hz k3;clear f0 k3;go_wp2_with fail;refine aq (.free 0 (.pure 1 (.free 2 (.free 3 (.free 4 (.free 5 (.free 6 (.free 8 (.pure 7 (.pure 9 (.free 10 (.pure 11 (.run 12 (.swi [] (.free 13 (.free 14 (.free 15 (.free 16 (.fin))))))))))))))))))) [12,13,14,15,16] (fun w'=>w'.cell? ⟨nb,0,none⟩=some (.int .i64 3)) (by kernel_rfl) (by kernel_rfl) n0 ?_
            iterate 12 ((first | refine ak rfl rfl fun K hK=>?_ | refine aj rfl rfl fun K hK=>?_ | refine aB rfl rfl fun K hK=>?_ | refine aw rfl rfl fun K hK=>?_ | refine aA rfl rfl fun K hK=>?_);go_simp;refine hK _ ?_;clear hK K)
            refine iB rfl rfl (fun K hK=>?_)
            go_simp
            refine hK _ ?_;clear hK K;refine aH (fun _=>True) trivial ?_
            iterate 4 ((first | refine ak rfl rfl fun K hK=>?_ | refine aj rfl rfl fun K hK=>?_);go_simp;refine hK _ ?_;clear hK K)
            refine aD ?_;clear n0 n1 nl i0 il bl b0;have HS:=Hz (HS.out.same ((Kz wr).drew));have HN:=Hz HN.out.drew;have HRD:=Hz (NODE.out _ HS.out.K).2.2.2;generalize (wr).drew=wr at *;have HV:=Hz (OV.out.fl hlt hfl);have HL:=Hz (ic OV.out HB.out hlt hfl HAT.out (fun h=>HF0.out h.2) (fun h=>by have:=h.1;rw [HK3.out] at this;omega));obtain ⟨gf,og,hao,hgf,d0,d1⟩:=HRD.out.val f hfl;subst hao;have HG:=Hz (fun i (hi:i<f+1)=>(show i<f∨i=f by omega));have hil:is.length≤1000000:=by rw [HB.out.len];omega
            have hve:(aS V q).2.getD f (0,0)=ct V q f:=rfl;rw [hve] at d0 d1;clear hve;generalize hv:ct V q f=v at *;have HVF:=Hz hv;have HA:=Hz (fun w' (S':cM w w' ⟨xb,ib,bb,hb,mb⟩ (.slice ro V.1.length rc) (.slice (some ⟨gn,on,none⟩) V.2.length nc) is more)=>jC S' v (by rw [HB.out.len];exact HV.out) hil);clear hv;obtain ⟨v1,v2⟩:=v;dsimp only at d0 d1;have n1:=HN.out.cell 1;have nl:=HN.out.lt;simp only [Lz,Ls] at n1;go_wp2_with fail;refine (HA.out _ HS.out).mono ?_;rintro e w2 ⟨rfl,hS2,hk2⟩;have HS2:=Hz hS2;have HB2:=Hz (HB.out.add HV.out HL.out);have HN2:=Hz (hk2.ai HN.out (fun e=>by rcases e with e | e;exact HN.out.ne HS.out.B (by decide) e;exact HN.out.ne HS.out.M (by decide) e));have HR2:=Hz (show (more || !aO is (v1,v2))=false→cu V s0 V.1.length∧cN V s0 q∧∀ j,j<f+1→eG V s0 q j from fun h=>by
             obtain ⟨h1,h2,-⟩:=HB.out.none h;obtain ⟨r1,r2,r3⟩:=HR.out h1;refine ⟨r1,r2,fun j hj=>?_⟩;rcases HG.out j hj with h3 | rfl
             ·exact r3 j h3
             ·exact .inr (.inr (by rw [HVF.out,←HB.out.same h1];exact h2)))
            clear hS2 hk2 HA d0 d1 n1 nl hgf HS HB HR HN;go_wp2_with fail;go_roundw
            case rel=>exact ⟨f+1,_,_,hfl,by go_num,HS2.out,HB2.out,HR2.out,HN2.out⟩
            case measure=>simp [intOf];omega
          ·by_cases k4:(aS V q).1=4
           ·rw [k4] at n0;have HK4:=Hz k4;by_cases f0:f=0
            ·have hf0:((f:Int) == 0)=true:=by simp;omega
             have HF0:=Hz f0;clear f0 k4 k3;go_wp2_with fail;refine aq (.free 0 (.pure 1 (.free 2 (.free 3 (.free 4 (.free 5 (.free 6 (.free 8 (.pure 7 (.pure 9 (.free 10 (.pure 11 (.run 12 (.swi [] (.free 13 (.free 14 (.free 15 (.free 16 (.fin))))))))))))))))))) [12,13,14,15,16] (fun w'=>w'.cell? ⟨nb,0,none⟩=some (.int .i64 4)) (by kernel_rfl) (by kernel_rfl) n0 ?_
             iterate 12 ((first | refine ak rfl rfl fun K hK=>?_ | refine aj rfl rfl fun K hK=>?_ | refine aB rfl rfl fun K hK=>?_ | refine aw rfl rfl fun K hK=>?_ | refine aA rfl rfl fun K hK=>?_);go_simp;refine hK _ ?_;clear hK K)
             refine iB rfl rfl (fun K hK=>?_)
             go_simp
             refine hK _ ?_;clear hK K;refine aH (fun _=>True) trivial ?_
             iterate 4 ((first | refine ak rfl rfl fun K hK=>?_ | refine aj rfl rfl fun K hK=>?_);go_simp;refine hK _ ?_;clear hK K)
             refine aD ?_;have HS:=Hz (HS.out.same ((Kz wr).drew));have HN:=Hz HN.out.drew;have HR2:=Hz (show more=false→cu V s0 V.1.length∧cN V s0 q∧∀ j,j<f+1→eG V s0 q j from fun h1=>by
              obtain ⟨r1,r2,r3⟩:=HR.out h1;refine ⟨r1,r2,fun j hj=>?_⟩;rcases (show j<f∨j=f by omega) with h3 | rfl
              ·exact r3 j h3
              ·exact .inr (.inl ⟨HK4.out, .inl HF0.out⟩))
             clear n0 n1 nl i0 il bl b0;go_wp2_with fail;go_roundw
             case rel=>exact ⟨f+1,_,_,hfl,by go_num,HS.out,HB.out,HR2.out,HN.out⟩
             case measure=>simp [intOf];omega
            ·have hf0:((f:Int) == 0)=false:=by simp;omega
             have HF0:=Hz f0;have h0:=HS.out.H.cell 0;have hl0:=HS.out.H.lt;simp only [Lz] at h0;have hfl0:0<(aS V q).2.length:=by omega
             have HV0:=Hz (OV.out.fl hlt hfl0);have hil:is.length≤1000000:=by rw [HB.out.len];omega
             have HIL:=Hz hil;obtain ⟨gf0,og0,hao0,hgf0,g0,g1⟩:=HRD.out.val 0 hfl0;have hz:(aS V q).2.getD 0 (0,0)=ct V q 0:=rfl;rw [hz] at g0 g1;have HAO:=Hz hao0;rw [hao0] at n1;simp only [Nat.zero_mul,Nat.add_zero] at g0 g1;have HHAS:=Hz (fun w' (S':cM w w' ⟨xb,ib,bb,hb,mb⟩ (.slice ro V.1.length rc) (.slice (some ⟨gn,on,none⟩) V.2.length nc) is more)=>nG (w:=w') (ct V q 0) S'.I S'.B (by rw [HB.out.len];exact HV0.out) HIL.out);obtain ⟨b0',hb0'⟩:∃ b,aO is (ct V q 0)=b:=⟨_,rfl⟩;rw [hb0'] at HHAS;have HB0':=Hz hb0';generalize hu:ct V q 0=u at *;have HU0:=Hz hu;obtain ⟨u1,u2⟩:=u;dsimp only at g0 g1;clear f0 k4 k3 hu hz hb0' hao0 hil;have hii:((0:Nat):Int)<(aS V q).2.length:=by omega
             go_wp2_with fail;refine aq (.free 0 (.pure 1 (.free 2 (.free 3 (.free 4 (.free 5 (.free 6 (.free 8 (.pure 7 (.pure 9 (.free 10 (.pure 11 (.run 12 (.swi [] (.free 13 (.free 14 (.free 15 (.free 16 (.fin))))))))))))))))))) [12,13,14,15,16] (fun w'=>w'.cell? ⟨nb,0,none⟩=some (.int .i64 4)∧w'.cell? ⟨hb,0,none⟩=some (.func (.func 109) #[] #[.pointer (some ⟨ib,0,none⟩)])∧w'.cell? ⟨nb,1,none⟩=some (.slice (some ⟨gf0,og0,none⟩) (aS V q).2.length ac)∧w'.cell? ⟨gf0,og0,none⟩=some (.int .i64 u1)∧w'.cell? ⟨gf0,og0+1,none⟩=some (.int .i64 u2)) (by kernel_rfl) (by kernel_rfl) ⟨n0,h0,n1,g0,g1⟩ ?_
             iterate 12 ((first | refine ak rfl rfl fun K hK=>?_ | refine aj rfl rfl fun K hK=>?_ | refine aB rfl rfl fun K hK=>?_ | refine aw rfl rfl fun K hK=>?_ | refine aA rfl rfl fun K hK=>?_);go_simp;refine hK _ ?_;clear hK K)
             refine aK rfl rfl rfl (fun K hK=>?_);unfold aM;go_simp;refine (HHAS.out _ (HS.out.same ((Kz wr).drew))).mono ?_;rintro e w2 ⟨rfl,hk⟩;have HS2:=Hz ((HS.out.same ((Kz wr).drew)).same hk);have HN2:=Hz (hk.ai HN.out.drew (fun h=>h));refine hK _ _ ?_;clear hK K hk HHAS HS HN n0 n1 nl i0 il bl b0 h0 hl0 g0 g1 hgf0 hii;have HS:=Hz HS2.out;have HN:=Hz HN2.out;clear HS2 HN2;refine aH (fun _=>True) trivial ?_
             iterate 4 ((first | refine ak rfl rfl fun K hK=>?_ | refine aj rfl rfl fun K hK=>?_);go_simp;refine hK _ ?_;clear hK K)
             refine aD ?_;clear HRD;cases b0'
             ·have HR2:=Hz (show more=false→cu V s0 V.1.length∧cN V s0 q∧∀ j,j<f+1→eG V s0 q j from fun h1=>by
               obtain ⟨r1,r2,r3⟩:=HR.out h1;refine ⟨r1,r2,fun j hj=>?_⟩;rcases (show j<f∨j=f by omega) with h3 | rfl
               ·exact r3 j h3
               ·exact .inr (.inl ⟨HK4.out, .inr (by rw [←HB.out.same h1,HU0.out];exact HB0'.out)⟩))
              skip
              go_wp2_with fail;go_roundw
              case rel=>exact ⟨f+1,_,_,hfl,by go_num,HS.out,HB.out,HR2.out,HN.out⟩
              case measure=>simp [intOf];omega
             ·have HV:=Hz (OV.out.fl hlt hfl);have HL:=Hz (ic OV.out HB.out hlt hfl HAT.out (fun h=>HF0.out h.2) (fun h=>h.2.elim HF0.out (fun h=>by rw [HU0.out,HB0'.out] at h;cases h)));obtain ⟨gf,og,hao,hgf,d0,d1⟩:=(NODE.out _ HS.out.K).2.2.2.val f hfl;subst hao;have HG:=Hz (fun i (hi:i<f+1)=>(show i<f∨i=f by omega));have hil:is.length≤1000000:=by rw [HB.out.len];omega
              have hve:(aS V q).2.getD f (0,0)=ct V q f:=rfl;rw [hve] at d0 d1;clear hve;generalize hv:ct V q f=v at *;have HVF:=Hz hv;have HA:=Hz (fun w' (S':cM w w' ⟨xb,ib,bb,hb,mb⟩ (.slice ro V.1.length rc) (.slice (some ⟨gn,on,none⟩) V.2.length nc) is more)=>jC S' v (by rw [HB.out.len];exact HV.out) hil);clear hv;obtain ⟨v1,v2⟩:=v;dsimp only at d0 d1;have n1:=HN.out.cell 1;have nl:=HN.out.lt;simp only [Lz,Ls] at n1;go_wp2_with fail;refine (HA.out _ HS.out).mono ?_;rintro e w2 ⟨rfl,hS2,hk2⟩;have HS2:=Hz hS2;have HB2:=Hz (HB.out.add HV.out HL.out);have HN2:=Hz (hk2.ai HN.out (fun e=>by rcases e with e | e;exact HN.out.ne HS.out.B (by decide) e;exact HN.out.ne HS.out.M (by decide) e));have HR2:=Hz (show (more || !aO is (v1,v2))=false→cu V s0 V.1.length∧cN V s0 q∧∀ j,j<f+1→eG V s0 q j from fun h=>by
               obtain ⟨h1,h2,-⟩:=HB.out.none h;obtain ⟨r1,r2,r3⟩:=HR.out h1;refine ⟨r1,r2,fun j hj=>?_⟩;rcases HG.out j hj with h3 | rfl
               ·exact r3 j h3
               ·exact .inr (.inr (by rw [HVF.out,←HB.out.same h1];exact h2)))
              clear hS2 hk2 HA d0 d1 n1 nl hgf HS HB HR HN;go_wp2_with fail;go_roundw
              case rel=>exact ⟨f+1,_,_,hfl,by go_num,HS2.out,HB2.out,HR2.out,HN2.out⟩
              case measure=>simp [intOf];omega
           ·have hk3:((aS V q).1 == 3)=false:=by simpa using k3
            have hk4:((aS V q).1 == 4)=false:=by simpa using k4
            have HK3:=Hz k3;have HK4:=Hz k4;clear k3 k4;go_wp2_with fail;refine aq (.free 0 (.pure 1 (.free 2 (.free 3 (.free 4 (.free 5 (.free 6 (.free 8 (.pure 7 (.pure 9 (.free 10 (.pure 11 (.run 12 (.swi [] (.free 13 (.free 14 (.free 15 (.free 16 (.fin))))))))))))))))))) [12,13,14,15,16] (fun w'=>w'.cell? ⟨nb,0,none⟩=some (.int .i64 (aS V q).1)) (by kernel_rfl) (by kernel_rfl) n0 ?_
            iterate 12 ((first | refine ak rfl rfl fun K hK=>?_ | refine aj rfl rfl fun K hK=>?_ | refine aB rfl rfl fun K hK=>?_ | refine aw rfl rfl fun K hK=>?_ | refine aA rfl rfl fun K hK=>?_);go_simp;refine hK _ ?_;clear hK K)
            refine iB rfl rfl (fun K hK=>?_)
            go_simp
            refine hK _ ?_;clear hK K;refine aH (fun _=>True) trivial ?_
            iterate 4 ((first | refine ak rfl rfl fun K hK=>?_ | refine aj rfl rfl fun K hK=>?_);go_simp;refine hK _ ?_;clear hK K)
            refine aD ?_;clear n0 n1 nl i0 il bl b0;have HS:=Hz (HS.out.same ((Kz wr).drew));have HN:=Hz HN.out.drew;have HRD:=Hz (NODE.out _ HS.out.K).2.2.2;generalize (wr).drew=wr at *;have HV:=Hz (OV.out.fl hlt hfl);have HL:=Hz (ic OV.out HB.out hlt hfl HAT.out (fun h=>HK3.out h.1) (fun h=>HK4.out h.1));obtain ⟨gf,og,hao,hgf,d0,d1⟩:=HRD.out.val f hfl;subst hao;have HG:=Hz (fun i (hi:i<f+1)=>(show i<f∨i=f by omega));have hil:is.length≤1000000:=by rw [HB.out.len];omega
            have hve:(aS V q).2.getD f (0,0)=ct V q f:=rfl;rw [hve] at d0 d1;clear hve;generalize hv:ct V q f=v at *;have HVF:=Hz hv;have HA:=Hz (fun w' (S':cM w w' ⟨xb,ib,bb,hb,mb⟩ (.slice ro V.1.length rc) (.slice (some ⟨gn,on,none⟩) V.2.length nc) is more)=>jC S' v (by rw [HB.out.len];exact HV.out) hil);clear hv;obtain ⟨v1,v2⟩:=v;dsimp only at d0 d1;have n1:=HN.out.cell 1;have nl:=HN.out.lt;simp only [Lz,Ls] at n1;go_wp2_with fail;refine (HA.out _ HS.out).mono ?_;rintro e w2 ⟨rfl,hS2,hk2⟩;have HS2:=Hz hS2;have HB2:=Hz (HB.out.add HV.out HL.out);have HN2:=Hz (hk2.ai HN.out (fun e=>by rcases e with e | e;exact HN.out.ne HS.out.B (by decide) e;exact HN.out.ne HS.out.M (by decide) e));have HR2:=Hz (show (more || !aO is (v1,v2))=false→cu V s0 V.1.length∧cN V s0 q∧∀ j,j<f+1→eG V s0 q j from fun h=>by
             obtain ⟨h1,h2,-⟩:=HB.out.none h;obtain ⟨r1,r2,r3⟩:=HR.out h1;refine ⟨r1,r2,fun j hj=>?_⟩;rcases HG.out j hj with h3 | rfl
             ·exact r3 j h3
             ·exact .inr (.inr (by rw [HVF.out,←HB.out.same h1];exact h2)))
            clear hS2 hk2 HA d0 d1 n1 nl hgf HS HB HR HN;go_wp2_with fail;go_roundw
            case rel=>exact ⟨f+1,_,_,hfl,by go_num,HS2.out,HB2.out,HR2.out,HN2.out⟩
            case measure=>simp [intOf];omega
        ·obtain rfl:f=(aS V q).2.length:=by omega
         have HNO:=Hz (show more=false→cu V s0 V.1.length∧cN V s0 (q+1) from fun h=>by
          obtain ⟨r1,r2,r3⟩:=hR h;refine ⟨r1,fun i hi=>?_⟩;rcases (show i<q∨i=q by omega) with h1 | rfl
          ·exact r2 i h1
          ·exact fun _=>r3)
         clear hS hB hR hN HR HN n0;go_wp2_with fail;go_roundw
         case rel=>exact ⟨q+1,_,_,hlt,by go_num,HS.out,HB.out,HNO.out⟩
         case measure=>simp [intOf];omega
      ·obtain rfl:q=V.2.length:=by omega
       have HD:=Hz (show ∃ is more,cM w wr ⟨xb,ib,bb,hb,mb⟩ (.slice ro V.1.length rc) (.slice no V.2.length nc) is more∧is.length=V.2.length∧(∀ j,av is j=true→leastOf V j)∧(more=false→cu V is V.1.length∧cN V is V.2.length) from
        ⟨is,more,hS,hB.len,hB.al,fun h=>by rw [hB.same h];exact hR h⟩)
       have HM2:=Hz (show lsMu wr bb mb<2*ir s0+1 from by
        have h1:lsMu wr bb mb=2*ir is+if more then 1 else 0:=hS.mu;rw [h1];rcases hB.m with ⟨h2,h3⟩ | ⟨h2,h3⟩
        ·rw [h2,h3];simp
        ·rw [h2];simp;omega)
       clear hS hB hR;go_wp2_with fail;go_roundw
       case rel=>exact HD.out
       case measure=>rw [HMU.out];exact HM2.out
end
end
section
open Go.RowKit
structure GX where
 l:Value
 ro:Value
 y:Value
 o:Value
 m:Value
 g:Value
variable {gx:GX}
structure aZ (gx:GX) (w:World) (p:Nat) (rv wv:Value) (regs wait:List (Int × Int)):Prop where
 hp:ah w p [gx.l,gx.ro,rv,wv,gx.y,gx.o,gx.m,gx.g] 146
 hr:Sl w 170 2 rv regs.length (aC regs)
 hw:Sl w 170 2 wv wait.length (aC wait)
 ap:∀ k,¬ (ag rv k∧ag wv k)
theorem aZ.pr {w:World} {p:Nat} {rv wv:Value} {regs wait:List (Int × Int)} (h:aZ gx w p rv wv regs wait):¬ ag rv p:=fun hk=>by
 obtain ⟨_,cur,hc⟩:=h.hr.own hk;exact (hc.ne h.hp (by decide)) rfl
theorem aZ.pw {w:World} {p:Nat} {rv wv:Value} {regs wait:List (Int × Int)} (h:aZ gx w p rv wv regs wait):¬ ag wv p:=fun hk=>by
 obtain ⟨_,cur,hc⟩:=h.hw.own hk;exact (hc.ne h.hp (by decide)) rfl
theorem aZ.lJ {w:World} {p:Nat} {rv wv:Value} {regs wait:List (Int × Int)} (h:aZ gx w p rv wv regs wait) {k:Nat} (hk:aR p rv wv k):k<w.heap.size:=by
 rcases hk with rfl | hk | hk
 ·exact h.hp.lt
 ·exact (h.hr.own hk).1
 ·exact (h.hw.own hk).1
theorem aZ.ae {w w':World} {p:Nat} {rv wv:Value} {regs wait:List (Int × Int)} {S:Nat→Prop} (h:aZ gx w p rv wv regs wait) (k:aa S w w') (hn:∀ b,aR p rv wv b→¬ S b):aZ gx w' p rv wv regs wait:=
 ⟨k.ai h.hp (hn p (.inl rfl)),h.hr.ae k (fun g hg=>hn g (.inr (.inl hg))),h.hw.ae k (fun g hg=>hn g (.inr (.inr hg))),h.ap⟩
def kV (gx:GX) (w:World) (p:Nat) (rv wv:Value) (w':World) (regs wait:List (Int × Int)):Prop:=
 ∃ rv' wv',aZ gx w' p rv' wv' regs wait∧aa (aR p rv wv) w w'∧∀ k,aR p rv' wv' k→aR p rv wv k∨w.heap.size≤k
theorem nH (p:Nat) (rv wv:Value) (regs wait:List (Int × Int)) (w:World) (h:aZ gx w p rv wv regs wait) (h1:regs.length≤1000000) (h2:wait.length≤1000000) :
  Calls Try.prog 145 #[.pointer (some ⟨p,2,none⟩)] w fun e w'=>e=.returned (.bool (decide (24≤regs.length+wait.length)))∧aa (fun _=>False) w w':=by
 obtain ⟨ro,rc,rfl,_,_,_⟩:=h.hr.rd;obtain ⟨wo,wc,rfl,_,_,_⟩:=h.hw.rd;have c0:w.cell? ⟨p,2,none⟩=_:=h.hp.cell 2;have c1:w.cell? ⟨p,3,none⟩=_:=h.hp.cell 3;simp only [Lz,Ls] at c0 c1;have hw:IntKind.i64.wrap ((regs.length:Int)+(wait.length:Int))=(regs.length:Int)+(wait.length:Int):=IntWalk.i64_in _ (by omega);go_enter Try.func145,Try.ntmps145;go_wp2_with fail;refine cI [(0,0),(1,0),(2,0),(5,0),(6,0),(7,0),(3,0),(4,0),(8,0),(9,0),(10,0),(11,0),(12,0)] (fun w'=>w'.cell? ⟨p,2,none⟩=some (.slice ro regs.length rc)∧w'.cell? ⟨p,3,none⟩=some (.slice wo wait.length wc)) (by kernel_rfl) (by kernel_rfl) ⟨c0,c1⟩ ?_
 iterate 13 (refine bj rfl rfl _ (fun w' hG=>by obtain ⟨g0,g1⟩:=hG;go_simp;exact bA.mk _ _) (fun K hK=>?_);go_simp;refine hK _ ?_;clear hK K)
 refine dI ?_;go_wp2_with fail;go_ret;refine ⟨cW ?_,(aa.refl _ _).drew⟩;congr 1;simp only [eq_iff_iff];omega
theorem pf (p:Nat) (rv wv:Value) (regs wait:List (Int × Int)) (g t:Int) (w:World) (h:aZ gx w p rv wv regs wait) (h1:regs.length≤1000000) (h2:wait.length≤1000000) (hf:24≤regs.length+wait.length) :
  Calls Try.prog 115 #[.pointer (some ⟨p,2,none⟩), .agg #[.int .i64 g, .int .i64 t]] w fun e w'=>e=.returned (.bool false)∧aa (fun _=>False) w w':=by
 have H:=Hz (h.ae ((Kz w).alloc (.cells #[.int .i64 g, .int .i64 t] 170)) (fun _ _ h=>h));clear h;have hd:decide (24≤regs.length+wait.length)=true:=by simpa using hf
 go_enter Try.func115,Try.ntmps115;go_wp2_with fail;refine (nH p rv wv regs wait _ H.out h1 h2).mono ?_;rintro e w1 ⟨rfl,hk⟩;rw [hd];go_wp2_with fail;go_ret;exact ⟨rfl,((aa.refl _ _).alloc _).trans hk⟩
theorem pg (p:Nat) (rv wv:Value) (regs wait:List (Int × Int)) (g t:Int) (w:World) (h:aZ gx w p rv wv regs wait) (h1:regs.length≤1000000) (h2:wait.length≤1000000) (hf:¬ 24≤regs.length+wait.length) :
  Calls Try.prog 115 #[.pointer (some ⟨p,2,none⟩), .agg #[.int .i64 g, .int .i64 t]] w fun e w'=>e=.returned (.bool true)∧kV gx w p rv wv w' (regs ++ [(g,t)]) wait:=by
 obtain ⟨i0,hi,hz0,hz1,hz2⟩:=info_parts gw;have Hi:=Hz hi;have Hz0:=Hz hz0;have Hz1:=Hz hz1;have Hz2:=Hz hz2;clear hi hz0 hz1 hz2;have HW:=Hz h;have H:=Hz (h.ae ((Kz w).alloc (.cells #[.int .i64 g, .int .i64 t] 170)) (fun _ _ h=>h));have HB:=Hz (ah.newAt (w:=w) (b:=w.heap.size) (T:=170) #[.int .i64 g, .int .i64 t] rfl rfl);clear h;have hd:decide (24≤regs.length+wait.length)=false:=by simpa using hf
 obtain ⟨ro,rc,rfl,_,_,_⟩:=HW.out.hr.rd;go_enter Try.func115,Try.ntmps115;go_wp2_with fail;refine (nH p _ wv regs wait _ H.out h1 h2).mono ?_;rintro e w1 ⟨rfl,hk⟩;rw [hd];have HB1:=Hz (hk.ai HB.out (fun h=>h));have HW1:=Hz (H.out.ae hk (fun _ _ h=>h));have HK1:=Hz (((aa.refl (aR p (.slice ro regs.length rc) wv) w).alloc (.cells #[.int .i64 g, .int .i64 t] 170)).trans (hk.mono fun _ _ h=>h.elim));clear hk;have c0:=HW1.out.hp.cell 2;have b0:=HB1.out.cell 0;have b1:=HB1.out.cell 1;have f0:=HW1.out.hp.free 2;simp only [Lz,Ls] at c0 b0 b1;go_wp2_with fail;refine cI [(0,0),(1,0),(2,0),(3,0),(4,0),(5,0),(6,1),(7,1),(8,0),(9,0),(10,2)] (fun w'=>w'.cell? ⟨p,2,none⟩=some (.slice ro regs.length rc)∧w'.cell? ⟨w.heap.size,0,none⟩=some (.int .i64 g)∧w'.cell? ⟨w.heap.size,1,none⟩=some (.int .i64 t)) (by kernel_rfl) (by kernel_rfl) ⟨c0,b0,b1⟩ ?_
 iterate 6 (refine bj rfl rfl _ (fun w' hG=>by obtain ⟨g0,g1,g2⟩:=hG;go_simp;exact bA.mk _ _) (fun K hK=>?_);go_simp;refine hK _ ?_;clear hK K)
 refine bF rfl rfl (fun K hK=>?_);unfold aM;go_simp;refine hK _ _ ?_ ?_
 ·have k:=(Kz w1).alloc (.cells #[.int .i64 g, .int .i64 t] 170);have b:=k.ai HW1.out.hp (fun h=>h);have b':=k.ai HB1.out (fun h=>h);exact ⟨b.cell 2,b'.cell 0,b'.cell 1⟩
 clear hK K;refine bF rfl rfl (fun K hK=>?_);refine de (.tmp 11) (.tmp 13) 127 rfl 170 i0 (.agg #[.int .i64 0, .int .i64 0]) 2 16 Try.underlying127 Hi.out Hz0.out Hz1.out Hz2.out rfl (by decide) _ regs.length (aC regs) rfl ?ha ⟨w1.heap.size,0,none⟩ 1 1 [.int .i64 g, .int .i64 t] rfl rfl ?hb ?hc ?hd ?he ?hf
 case ha=>exact HW1.out.hr.ae (((Kz w1).alloc _).drew) (fun _ _ h=>h)
 case hb=>exact bM w1 170 #[.int .i64 g, .int .i64 t]
 case hc=>intro u hu;simp at hu;rcases hu with rfl | rfl <;> rfl
 case hd=>unfold maxLen;omega
 case he=>omega
 case hf=>
  intro v2 w2 hs2 hk2 ho2;have hka:aa (fun _=>False) w1 ((w1.alloc (.cells #[.int .i64 g, .int .i64 t] 170)).drew):=((Kz w1).alloc _).drew;have hp2:=hk2.ai (hka.ai HW1.out.hp (fun h=>h)) HW1.out.pr;have hw2:=(HW1.out.hw.ae hka (fun _ _ h=>h)).ae hk2 (fun b hb hr=>HW1.out.ap b ⟨hr,hb⟩);have hb2:=hk2.ai (hka.ai HB1.out (fun h=>h)) (fun hr=>by have:=(HW.out.hr.own hr).1;omega);refine hK _ _ ⟨hp2.cell 2,hb2.cell 0,hb2.cell 1⟩ ?_;clear hK K;have hs3:Sl w2 170 2 v2 (regs ++ [(g,t)]).length (aC (regs ++ [(g,t)])):=by simpa [aC] using hs2
  obtain ⟨vo,vc,rfl,_,_,_⟩:=hs3.rd;have HK2:Hid (aa (aR p (.slice ro regs.length rc) wv) w w2):=(HK1.out.trans (hka.mono fun _ _ h=>h.elim)).trans (hk2.mono fun k _ hk=>.inr (.inl hk));have HO:Hid (∀ k,ag (.slice vo (regs ++ [(g,t)]).length vc) k→ag (.slice ro regs.length rc) k∨w.heap.size≤k):=fun k hk=>by
   rcases ho2 k hk with h | h
   ·exact .inl h
   ·have:=HK1.out.size;simp at h;exact .inr (by omega)
  have HP:=Hz hp2;have HW2:=Hz hw2;have HS:=Hz hs3;have HWL:Hid (∀ k,ag wv k→k<w.heap.size):=fun k hk=>(HW.out.hw.own hk).1;clear hs2 hk2 ho2 hka hp2 hw2 hb2 hs3;have d0:=HP.out.cell 2;have e0:=HP.out.free 2;simp only [Lz,Ls] at d0
  iterate 2 (refine bj rfl rfl _ (fun w' hG=>by obtain ⟨g0,g1,g2⟩:=hG;go_simp;exact bA.mk _ _) (fun K hK=>?_);go_simp;refine hK _ ?_;clear hK K)
  refine j9 rfl rfl (fun K hK=>?_);unfold aM;go_simp;refine hK _ _ ?_;clear hK K;refine dI ?_;go_wp2_with fail;go_ret;refine ⟨rfl,_,_,⟨by simpa using HP.out.aF 2 _,HS.out.ae ((aa.refl (·=p) w2).setCell (p:=⟨p,2,none⟩) (.inl rfl) _) ?_,HW2.out.ae ((aa.refl (·=p) w2).setCell (p:=⟨p,2,none⟩) (.inl rfl) _) ?_,?_⟩,HK2.out.setCell (p:=⟨p,2,none⟩) (.inl (.inl rfl)) _,?_⟩
  ·rintro b hb rfl;obtain ⟨_,cur,hc⟩:=HS.out.own hb;exact (hc.ne HP.out (by decide)) rfl
  ·rintro b hb rfl;obtain ⟨_,cur,hc⟩:=HW2.out.own hb;exact (hc.ne HP.out (by decide)) rfl
  ·rintro k ⟨h1,h2⟩;rcases HO.out k h1 with h | h
   ·exact HW.out.ap k ⟨h,h2⟩
   ·have:=HWL.out k h2;omega
  ·rintro k (h | h | h)
   ·exact .inl (.inl h)
   ·rcases HO.out k h with h | h
    ·exact .inl (.inr (.inl h))
    ·exact .inr h
   ·exact .inl (.inr (.inr h))
end
section
open Go.RowKit
variable {gx:GX}
theorem ph (p:Nat) (rv wv:Value) (regs wait:List (Int × Int)) (x:Int) (w:World) (h:aZ gx w p rv wv regs wait) (h2:wait.length≤1000000) (hf:¬ findG x wait<wait.length) :
  Calls Try.prog 136 #[.pointer (some ⟨p,2,none⟩), .int .i64 x] w fun e w'=>e=.returned (.tuple #[.int .i64 0, .bool false])∧aa (fun _=>False) w w':=by
 obtain ⟨wo,wc,rfl,hrd,_,_⟩:=h.hw.rd;have hka:=(Kz w).alloc (.cells #[.int .i64 x] 2);have H:=Hz (h.ae hka (fun _ _ h=>h));have c1:=H.out.hp.cell 3;simp only [Lz,Ls] at c1;have HR:=Hz (hrd.ae hka (fun _ _ _ h=>h));have HE:=Hz (show jQ x wait=-1 by unfold jQ;rw [if_neg hf]);have hbx:(w.alloc (.cells #[.int .i64 x] 2)).cell? ⟨w.heap.size,0,none⟩=some (.int .i64 x):=by simp
 have HBX:=Hz hbx;clear h hrd hka hf hbx;go_enter Try.func136,Try.ntmps136;go_wp2_with fail;refine (jG wo wc w.heap.size x wait _ HR.out HBX.out (by omega) (by simp)).mono ?_;rintro e w1 ⟨rfl,hk⟩;rw [HE.out];go_wp2_with fail;go_ret2;exact ⟨rfl,((aa.refl _ _).alloc _).trans hk⟩
theorem pj (p:Nat) (rv wv:Value) (regs wait:List (Int × Int)) (x:Int) (i m:Nat) (w:World) (h:aZ gx w p rv wv regs wait) (h2:wait.length≤1000000) (hf:findG x wait=i) (hm:wait.length=i+1+m) :
  Calls Try.prog 136 #[.pointer (some ⟨p,2,none⟩), .int .i64 x] w fun e w'=>e=.returned (.tuple #[.int .i64 (wait.getD i (0,0)).2, .bool true])∧kV gx w p rv wv w' regs (wait.eraseIdx i):=by
 have HW:=Hz h;have hka:=(Kz w).alloc (.cells #[.int .i64 x] 2);have h1:=h.ae hka (fun _ _ h=>h);obtain ⟨g,o,cap,cur,rfl,hb,hnc,hcm,hoc,hx⟩:=h1.hw.laid (by omega);obtain ⟨_,_,e,hrd,_,_⟩:=h1.hw.rd;cases e;have H:=Hz h1;have c1:=H.out.hp.cell 3;simp only [Lz,Ls] at c1;have HR:=Hz hrd;have HE:=Hz (show jQ x wait=(i:Int) by unfold jQ;rw [hf,if_pos (by omega)]);have hbx:(w.alloc (.cells #[.int .i64 x] 2)).cell? ⟨w.heap.size,0,none⟩=some (.int .i64 x):=by simp
 have HBX:=Hz hbx;have HM:=Hz hm;have hcm':cap≤9223372036854775807:=by simpa [maxLen] using hcm
 have HX:=Hz hx;have HB:=Hz hb;have hlo:i+1+m≤wait.length:=by omega
 have h2':i+1+m≤1000000:=by omega
 have hlt:i<wait.length:=by omega
 clear h hrd hf hbx hm h1 hka hx hb hcm;go_enter Try.func136,Try.ntmps136;go_wp2_with fail;refine (jG (some ⟨g,o,none⟩) cap w.heap.size x wait _ HR.out HBX.out (by omega) (by simp)).mono ?_;rintro e w1 ⟨rfl,hk⟩;rw [HE.out];have HK1:=Hz (((aa.refl (aR p rv (.slice (some ⟨g,o,none⟩) wait.length cap)) w).alloc (.cells #[.int .i64 x] 2)).trans (hk.mono fun _ _ h=>h.elim));have H1:=Hz (H.out.ae hk (fun _ _ h=>h));have HB1:=Hz (hk.ai HB.out (fun h=>h));obtain ⟨g',o',e',_,d0,d1⟩:=((HR.out.ae hk (fun _ _ _ h=>h))).dA i (by omega);cases e';clear hk c1;have c1:=H1.out.hp.cell 3;simp only [Lz,Ls] at c1;have ht:(i:Int)<((wait.length:Nat):Int):=by omega
 generalize hv:wait.getD i (0,0)=v at *;have HV:=Hz hv;clear hv;go_wp2_with fail;rw [HM.out];refine (pM g o cap i m wait cur _ HB1.out HM.out (by omega) hcm' hoc HX.out).mono ?_;rintro e w2 ⟨rfl,hs2,hk2⟩;have hpg:p≠g:=fun e=>by subst e;exact (HB1.out.ne H1.out.hp (by decide)) rfl
 have HP2:=Hz (hk2.ai H1.out.hp hpg);have HR2:=Hz (H1.out.hr.ae hk2 (by rintro b hb rfl;exact H1.out.ap b ⟨hb,rfl⟩));have HK2:Hid (aa (aR p rv (.slice (some ⟨g,o,none⟩) wait.length cap)) w w2):=HK1.out.trans (hk2.mono (by rintro k _ rfl;exact .inr (.inr rfl)));have HS2:=Hz hs2;have e1:=HP2.out.cell 3;have f1:=HP2.out.free 3;simp only [Lz,Ls] at e1;clear hs2 hk2 c1 d0 d1;go_wp2_with fail;go_ret2;have hlen:(wait.eraseIdx i).length=i+m:=by rw [List.length_eraseIdx_of_lt hlt,HM.out];omega
 refine ⟨by rw [HV.out];rfl,rv, .slice (some ⟨g,o,none⟩) (i+m) cap,⟨by simpa using HP2.out.aF 3 _,HR2.out.ae ((aa.refl (·=p) w2).setCell (p:=⟨p,3,none⟩) (.inl rfl) _) ?_,?_,?_⟩,HK2.out.setCell (p:=⟨p,3,none⟩) (.inl (.inl rfl)) _,?_⟩
 ·rintro b hb rfl;exact HW.out.pr hb
 ·rw [hlen];exact HS2.out.ae ((aa.refl (·=p) w2).setCell (p:=⟨p,3,none⟩) (.inl rfl) _) (by rintro b hb rfl;simp [ag,Value.ownBlock] at hb;exact hpg hb.symm)
 ·rintro k ⟨a1,a2⟩;exact HW.out.ap k ⟨a1,a2⟩
 ·rintro k (a | a | a)
  ·exact .inl (.inl a)
  ·exact .inl (.inr (.inl a))
  ·exact .inl (.inr (.inr a))
theorem sT (p:Nat) (rv wv:Value) (regs wait:List (Int × Int)) (x:Int) (w:World) (h:aZ gx w p rv wv regs wait) (h2:wait.length≤1000000) :
  Calls Try.prog 155 #[.pointer (some ⟨p,2,none⟩), .int .i64 x] w fun e w'=>pO w e w' (gK x wait):=by
 obtain ⟨i0,hi,hz0,hz1,hz2⟩:=info_parts nP;have Hi:=Hz hi;have Hz0:=Hz hz0;have Hz1:=Hz hz1;have Hz2:=Hz hz2;clear hi hz0 hz1 hz2;obtain ⟨wo,wc,rfl,hrd,_,_⟩:=h.hw.rd;have c1:=h.hp.cell 3;simp only [Lz,Ls] at c1;have H:=Hz h;have HR:=Hz hrd;clear h hrd;go_enter Try.func155,Try.ntmps155;go_wp2_with fail;go_loopw [5,13] (fun v i wr=>∃ k:Nat,k≤wait.length∧i=.int .i64 k∧Sl wr 2 1 v (gK x (wait.take k)).length ((gK x (wait.take k)).map (Value.int .i64))∧aa (fun _=>False) w wr∧∀ k,ag v k→w.heap.size≤k) (fun _ i _=>wait.length-(intOf i).toNat)
 case atStart=>exact ⟨0,Nat.zero_le _,rfl,by simpa [gK] using Sl.nil w 2 1,aa.refl _ _,by intro k hk;simp [ag,Value.ownBlock] at hk⟩
 case round=>
  obtain ⟨k,hk,rfl,hs,hkk,how⟩:=hrel;have HK:=Hz hkk;have HS:=Hz hs;have HO:=Hz how;clear hkk hs how;have hal:(gK x (wait.take k)).length≤k:=Nat.le_trans (oM _ _) (List.length_take_le _ _);by_cases hlt:k<wait.length
  ·obtain ⟨g,o,rfl,_,d0,d1⟩:=((HR.out.ae HK.out (fun _ _ _ h=>h))).dA k hlt;have HST:=Hz (pN (x:=x) hlt);generalize wait.getD k (0,0)=v at *;cases hv:(v.1 == x)
   ·go_wp2_with fail;go_roundw
    case rel=>exact ⟨k+1,by omega,by go_num,by rw [HST.out,hv];simpa using HS.out.ae ((Kz wr).alloc _) (fun _ _ h=>h),HK.out.alloc _,HO.out⟩
    case measure=>simp [intOf];omega
   ·go_wp2_with (at_builtin;refine cB rfl (.tmp 21) (.tmp 24) 22 rfl 2 i0 (.int .i64 0) 1 8 Try.underlying22 Hi.out Hz0.out Hz1.out Hz2.out rfl (by decide) _ (gK x (wait.take k)).length ((gK x (wait.take k)).map (Value.int .i64)) rfl ?ha ⟨wr.heap.size+1,0,none⟩ 1 1 [.int .i64 v.2] rfl rfl ?hb ?hc ?hd ?he ?hf)
    case ha=>exact HS.out.ae (((Kz wr).alloc _).alloc _) (fun _ _ h=>h)
    case hb=>
     have:=bM (wr.alloc (Obj.cells #[.int .i64 v.1, .int .i64 v.2] 170)) 2 #[.int .i64 v.2];simpa using this
    case hc=>intro u hu;simp at hu;subst hu;rfl
    case hd=>unfold maxLen;omega
    case he=>omega
    case hf=>
     intro v2 w2 hs2 hk2 ho2;have HK2:=Hz (((HK.out.alloc (Obj.cells #[.int .i64 v.1, .int .i64 v.2] 170)).alloc (Obj.cells #[.int .i64 v.2] 2)).then hk2 (fun j hj=>.inr (HO.out j hj)));have HO2:Hid (∀ j,ag v2 j→w.heap.size≤j):=fun j hj=>by
      rcases ho2 j hj with h | h
      ·exact HO.out j h
      ·have:=HK.out.size;first | omega | (simp at h;omega)
     have HS2:=Hz hs2;clear hs2 hk2 ho2;go_wp2_with fail;go_roundw
     case rel=>exact ⟨k+1,by omega,by go_num,by rw [HST.out,if_pos hv];simpa using HS2.out,HK2.out,HO2.out⟩
     case measure=>simp [intOf];omega
  ·obtain rfl:k=wait.length:=by omega
   go_wp2_with fail;go_ret;have hs:=HS.out;rw [List.take_length] at hs;obtain ⟨ao,cap,rfl,_,_,_⟩:=hs.rd;exact ⟨ao,cap,rfl,hs,HK.out,HO.out⟩
end
section
open Go.RowKit
variable {gx:GX}
theorem rn (p:Nat) (rv wv:Value) (regs wait:List (Int × Int)) (w:World) (h:aZ gx w p rv wv regs wait) (h1:regs.length≤1000000) (h2:wait.length≤1000000) :
  Calls Try.prog 138 #[.pointer (some ⟨p,2,none⟩)] w fun e w'=>qW w e w' regs wait:=by
 obtain ⟨ro,rc,rfl,_,_,_⟩:=h.hr.rd;obtain ⟨wo,wc,rfl,_,_,_⟩:=h.hw.rd;have c0:=h.hp.cell 2;have c1:=h.hp.cell 3;simp only [Lz,Ls] at c0 c1;have H:=Hz h;clear h;go_enter Try.func138,Try.ntmps138;go_wp2_with fail;refine cI [(0,0),(1,0),(2,0),(5,0),(6,0),(7,0),(3,0),(8,0),(4,1),(9,1),(10,0),(11,1),(12,0)] (fun w'=>w'.cell? ⟨p,2,none⟩=some (.slice ro regs.length rc)∧w'.cell? ⟨p,3,none⟩=some (.slice wo wait.length wc)) (by kernel_rfl) (by kernel_rfl) ⟨c0,c1⟩ ?_
 iterate 8 (refine bj rfl rfl _ (fun w' hG=>by obtain ⟨g0,g1⟩:=hG;go_simp;exact bA.mk _ _) (fun K hK=>?_);go_simp;refine hK _ ?_;clear hK K)
 refine bF rfl rfl (fun K hK=>?_);unfold aM;go_simp;refine (m7 _ regs _ (H.out.hr.ae ((Kz w).drew) (fun _ _ h=>h)) h1).mono ?_;rintro e w1 ⟨ao,ac,rfl,hs,hk,ho⟩;have HK1:=Hz (((Kz w).drew).trans hk);have H1:=Hz (H.out.ae HK1.out (fun _ _ h=>h));have HS:=Hz hs;have HO:=Hz ho;have HSL:Hid (∀ k,ag (.slice ao regs.length ac) k→k<w1.heap.size):=fun k hk=>(HS.out.own hk).1;clear hs hk ho;refine hK _ _ ⟨H1.out.hp.cell 2,H1.out.hp.cell 3⟩ ?_;clear hK K;refine bF rfl rfl (fun K hK=>?_);unfold aM;go_simp;refine (m7 _ wait _ H1.out.hw h2).mono ?_;rintro e w2 ⟨bo,bc,rfl,hs,hk,ho⟩;have HK2:=Hz (HK1.out.trans hk);have H2:=Hz (H1.out.ae hk (fun _ _ h=>h));have HS1:=Hz (HS.out.ae hk (fun _ _ h=>h));have HS2:=Hz hs;have HO2:=Hz ho;have hsz:=HK1.out.size;clear hs hk ho HS;refine hK _ _ ⟨H2.out.hp.cell 2,H2.out.hp.cell 3⟩ ?_;clear hK K
 iterate 1 (refine bj rfl rfl _ (fun w' hG=>by obtain ⟨g0,g1⟩:=hG;go_simp;exact bA.mk _ _) (fun K hK=>?_);go_simp;refine hK _ ?_;clear hK K)
 refine bF rfl rfl (fun K hK=>?_);unfold aM;go_simp;refine hK _ _ ?_ ?_
 ·have:=H2.out.hp.alloc (Obj.cells #[Value.slice ao regs.length ac,Value.slice bo wait.length bc] 129);exact ⟨this.cell 2,this.cell 3⟩
 clear hK K
 iterate 1 (refine bj rfl rfl _ (fun w' hG=>by obtain ⟨g0,g1⟩:=hG;go_simp;exact bA.mk _ _) (fun K hK=>?_);go_simp;refine hK _ ?_;clear hK K)
 refine dI ?_;go_wp2_with fail;go_ret;refine ⟨w2.heap.size, .slice ao regs.length ac, .slice bo wait.length bc,rfl,⟨.newAt _ rfl rfl,HS1.out.ae ((Kz w2).alloc _) (fun _ _ h=>h),HS2.out.ae ((Kz w2).alloc _) (fun _ _ h=>h),?_⟩,HK2.out.alloc _,?_⟩
 ·rintro k ⟨a1,a2⟩;have:=HO2.out k a2;have:=HSL.out k a1;omega
 ·rintro k (a | a | a)
  ·subst a;exact HK2.out.size
  ·exact HO.out k a
  ·exact Nat.le_trans hsz (HO2.out k a)
end
section
open Go.RowKit
def fy (F:Nat→Prop) (p:Nat) (rv wv:Value):Prop:=∀ k,¬ (F k∧aR p rv wv k)
structure qG (P:Program) (p:Nat) (τ:Type) where
 J:World→τ→(Nat→Prop)→Prop
 D:τ→Int→Prop
 DK:τ→Int→Prop
 alive:τ→Int→Bool
 ae:τ→List (Int × Int)→Int→τ × List (Int × Int) × Int
 now:τ→Int→Int
 fa:FuncId
 fk:FuncId
 fn:FuncId
 a1:Array Value
 a2:Array Value
 k1:Array Value
 k2:Array Value
 n1:Array Value
 n2:Array Value
 ea:∀ (args:Array Value) (w:World),(callFunc fa args).run P w=.ok (.enter fa args) w
 ek:∀ (args:Array Value) (w:World),(callFunc fk args).run P w=.ok (.enter fk args) w
 en:∀ (args:Array Value) (w:World),(callFunc fn args).run P w=.ok (.enter fn args) w
 J_keep:∀ {w w' t F S},J w t F→aa S w w'→(∀ k,F k→¬ S k)→J w' t F
 J_lt:∀ {w t F k},J w t F→F k→k<w.heap.size
 alive_c:∀ (w t F x),J w t F→D t x→Calls P fa (a1.push (.int .i64 x) ++ a2) w fun e w'=>e=.returned (.bool (alive t x))∧aa (fun _=>False) w w'
 now_c:∀ (w t F x),J w t F→D t x→Calls P fn (n1.push (.int .i64 x) ++ n2) w fun e w'=>e=.returned (.int .i64 (now t x))∧aa (fun _=>False) w w'
 keep_c:∀ (w t F rv wv regs wait x),J w t F→cC w p rv wv regs wait→fy F p rv wv→DK t x→(∀ e ∈ wait,D t e.1∧D t e.2)→wait.length≤1000000 →
  Calls P fk (k1.push (.int .i64 x) ++ k2) w fun e w'=>e=.returned (.int .i64 (ae t wait x).2.2)∧∃ F',J w' (ae t wait x).1 F'∧cC w' p rv wv regs (ae t wait x).2.1∧fy F' p rv wv ∧
   aa (fun k=>F k∨aR p rv wv k) w w'∧∀ k,F' k→F k∨w.heap.size≤k
 DK_D:∀ {t x},DK t x→D t x
 DK_keep:∀ {t wait x y},DK t x→DK t y→DK (ae t wait x).1 y
 D_keep:∀ {t wait x y},DK t x→D t y→D (ae t wait x).1 y
 D_new:∀ {t wait x},DK t x→D (ae t wait x).1 (ae t wait x).2.2
 D_wait:∀ {t wait x},DK t x→(∀ e ∈ wait,D t e.1∧D t e.2)→∀ e ∈ (ae t wait x).2.1,D (ae t wait x).1 e.1∧D (ae t wait x).1 e.2
 keep_len:∀ {t wait x},(ae t wait x).2.1.length=wait.length
variable {τ:Type}
end
section
open Go.RowKit
variable {gx:GX}
structure c8 (gx:GX) (P:Program) (p:Nat) (τ:Type) where
 J:World→τ→(Nat→Prop)→Prop
 D:τ→Int→Prop
 DK:τ→Int→Prop
 Q:Int × Int→Prop
 alive:τ→Int→Bool
 ae:τ→List (Int × Int)→Int→τ × List (Int × Int) × Int
 now:τ→Int→Int
 fa:FuncId
 fk:FuncId
 fn:FuncId
 a1:Array Value
 a2:Array Value
 k1:Array Value
 k2:Array Value
 n1:Array Value
 n2:Array Value
 ea:∀ (args:Array Value) (w:World),(callFunc fa args).run P w=.ok (.enter fa args) w
 ek:∀ (args:Array Value) (w:World),(callFunc fk args).run P w=.ok (.enter fk args) w
 en:∀ (args:Array Value) (w:World),(callFunc fn args).run P w=.ok (.enter fn args) w
 J_keep:∀ {w w' t F S},J w t F→aa S w w'→(∀ k,F k→¬ S k)→J w' t F
 J_lt:∀ {w t F k},J w t F→F k→k<w.heap.size
 alive_c:∀ (w t F x),J w t F→D t x→Calls P fa (a1.push (.int .i64 x) ++ a2) w fun e w'=>e=.returned (.bool (alive t x))∧aa (fun _=>False) w w'
 now_c:∀ (w t F x),J w t F→D t x→Calls P fn (n1.push (.int .i64 x) ++ n2) w fun e w'=>e=.returned (.int .i64 (now t x))∧aa (fun _=>False) w w'
 keep_c:∀ (w t F rv wv regs wait x),J w t F→aZ gx w p rv wv regs wait→fy F p rv wv→DK t x→(∀ e ∈ wait,(D t e.1∧D t e.2)∧Q e)→wait.length≤1000000 →
  Calls P fk (k1.push (.int .i64 x) ++ k2) w fun e w'=>e=.returned (.int .i64 (ae t wait x).2.2)∧∃ F',J w' (ae t wait x).1 F'∧aZ gx w' p rv wv regs (ae t wait x).2.1∧fy F' p rv wv ∧
   aa (fun k=>F k∨aR p rv wv k) w w'∧∀ k,F' k→F k∨w.heap.size≤k
 DK_D:∀ {t x},DK t x→D t x
 DK_keep:∀ {t wait x y},DK t x→DK t y→DK (ae t wait x).1 y
 D_keep:∀ {t wait x y},DK t x→D t y→D (ae t wait x).1 y
 D_new:∀ {t wait x},DK t x→D (ae t wait x).1 (ae t wait x).2.2
 D_wait:∀ {t wait x},DK t x→(∀ e ∈ wait,D t e.1∧D t e.2)→∀ e ∈ (ae t wait x).2.1,D (ae t wait x).1 e.1∧D (ae t wait x).1 e.2
 Q_new:∀ {t wait e},DK t e.2→Q e→Q (e.1,(ae t wait e.2).2.2)
 Q_wait:∀ {t wait x},(∀ e ∈ wait,Q e)→∀ e ∈ (ae t wait x).2.1,Q e
 keep_len:∀ {t wait x},(ae t wait x).2.1.length=wait.length
def c8.val {P:Program} {p:Nat} {τ:Type} (L:c8 gx P p τ):Value:=
 .agg #[.func (.func L.fa) L.a1 L.a2, .func (.func L.fk) L.k1 L.k2, .func (.func L.fn) L.n1 L.n2]
end
section
open Go.RowKit
variable {τ:Type}
def cntF (w:World) (b:Nat):Nat:=match w.heap[b]? with
 | some (.cells c _ _)=>(c.toList.filter fun v=>match v with | .bool false=>true | _=>false).length
 | _=>0
theorem mz {w:World} {b:Nat} {l:List It} {T:TypeId} (h:ah w b (l.map fun i=>.bool i.2.2) T):cntF w b=ck l:=by
 unfold ah at h;unfold cntF ck;rw [h];simp only [List.filter_map,List.length_map];congr 2
 funext i
 simp only [Function.comp];cases i.2.2 <;> rfl
def qG.cells {P:Program} {p:Nat} (L:qG P p τ):List Value:=[.func (.func L.fa) L.a1 L.a2, .func (.func L.fk) L.k1 L.k2, .func (.func L.fn) L.n1 L.n2]
structure dL {P:Program} {p:Nat} (L:qG P p τ) (w:World) (F:Nat→Prop) (rv wv:Value) (b0 b1 b2:Nat) (items:List It) (q:List (Int × Int)) (t':τ) (F':Nat→Prop) (wv':Value) (wr:World):Prop where
 hJ:L.J wr t' F'
 hS:cC wr p rv wv' (items.map (·.1)) q
 hA:fy F' p rv wv'
 hK:aa (fun b=>F b∨aR p rv wv b) w wr
 hF:∀ b,F' b→F b∨w.heap.size≤b
 hO:∀ b,ag wv' b→ag wv b∨w.heap.size≤b
 h0:ah wr b0 L.cells 178
 h1:ah wr b1 (items.map fun i=>.bool i.2.1) 4
 h2:ah wr b2 (items.map fun i=>.bool i.2.2) 4
 n0:¬ F' b0
 n1:¬ F' b1
 n2:¬ F' b2
 g0:w.heap.size≤b0
 g1:w.heap.size≤b1
 g2:w.heap.size≤b2
 b12:b1≠b2
 hq:∀ e ∈ q,L.D t' e.1∧L.D t' e.2
 hr:∀ i ∈ items,L.D t' i.1.1∧L.DK t' i.1.2
theorem cC.ky {w:World} {p b:Nat} {rv wv:Value} {regs wait:List (Int × Int)} {c:List Value} {T:TypeId} (h:cC w p rv wv regs wait) (hb:ah w b c T) (h1:T≠129) (h2:T≠170):¬ aR p rv wv b:=by
 rintro (rfl | h' | h')
 ·exact hb.ne h.hp h1 rfl
 ·obtain ⟨_,cur,hc⟩:=h.hr.own h';exact hb.ne hc h2 rfl
 ·obtain ⟨_,cur,hc⟩:=h.hw.own h';exact hb.ne hc h2 rfl
section
variable {P:Program} {p:Nat} {L:qG P p τ} {w:World} {F:Nat→Prop} {rv wv:Value} {b0 b1 b2:Nat} {items:List It} {q:List (Int × Int)} {t':τ} {F':Nat→Prop} {wv':Value} {wr:World}
theorem dL.ae {w2:World} (h:dL L w F rv wv b0 b1 b2 items q t' F' wv' wr) (k:aa (fun _=>False) wr w2):dL L w F rv wv b0 b1 b2 items q t' F' wv' w2:=
 ⟨L.J_keep h.hJ k (fun _ _ h=>h),h.hS.ae k (fun _ _ h=>h),h.hA,h.hK.trans (k.mono fun _ _ h=>h.elim),h.hF,h.hO,k.ai h.h0 (fun h=>h),k.ai h.h1 (fun h=>h),k.ai h.h2 (fun h=>h),h.n0,h.n1,h.n2,h.g0,h.g1,h.g2,h.b12,h.hq,h.hr⟩
end
end
section
open Go.RowKit
variable {gx:GX}
variable {τ:Type}
def c8.cells {P:Program} {p:Nat} (L:c8 gx P p τ):List Value:=[.func (.func L.fa) L.a1 L.a2, .func (.func L.fk) L.k1 L.k2, .func (.func L.fn) L.n1 L.n2]
structure ey {P:Program} {p:Nat} (L:c8 gx P p τ) (w:World) (F:Nat→Prop) (rv wv:Value) (b0 b1 b2:Nat) (items:List It) (q:List (Int × Int)) (t':τ) (F':Nat→Prop) (wv':Value) (wr:World):Prop where
 hJ:L.J wr t' F'
 hS:aZ gx wr p rv wv' (items.map (·.1)) q
 hA:fy F' p rv wv'
 hK:aa (fun b=>F b∨aR p rv wv b) w wr
 hF:∀ b,F' b→F b∨w.heap.size≤b
 hO:∀ b,ag wv' b→ag wv b∨w.heap.size≤b
 h0:ah wr b0 L.cells 178
 h1:ah wr b1 (items.map fun i=>.bool i.2.1) 4
 h2:ah wr b2 (items.map fun i=>.bool i.2.2) 4
 n0:¬ F' b0
 n1:¬ F' b1
 n2:¬ F' b2
 g0:w.heap.size≤b0
 g1:w.heap.size≤b1
 g2:w.heap.size≤b2
 b12:b1≠b2
 hq:∀ e ∈ q,(L.D t' e.1∧L.D t' e.2)∧L.Q e
 hr:∀ i ∈ items,(L.D t' i.1.1∧L.DK t' i.1.2)∧L.Q i.1
theorem aZ.ky {w:World} {p b:Nat} {rv wv:Value} {regs wait:List (Int × Int)} {c:List Value} {T:TypeId} (h:aZ gx w p rv wv regs wait) (hb:ah w b c T) (h1:T≠146) (h2:T≠170):¬ aR p rv wv b:=by
 rintro (rfl | h' | h')
 ·exact hb.ne h.hp h1 rfl
 ·obtain ⟨_,cur,hc⟩:=h.hr.own h';exact hb.ne hc h2 rfl
 ·obtain ⟨_,cur,hc⟩:=h.hw.own h';exact hb.ne hc h2 rfl
section
variable {P:Program} {p:Nat} {L:c8 gx P p τ} {w:World} {F:Nat→Prop} {rv wv:Value} {b0 b1 b2:Nat} {items:List It} {q:List (Int × Int)} {t':τ} {F':Nat→Prop} {wv':Value} {wr:World}
theorem ey.ae {w2:World} (h:ey L w F rv wv b0 b1 b2 items q t' F' wv' wr) (k:aa (fun _=>False) wr w2):ey L w F rv wv b0 b1 b2 items q t' F' wv' w2:=
 ⟨L.J_keep h.hJ k (fun _ _ h=>h),h.hS.ae k (fun _ _ h=>h),h.hA,h.hK.trans (k.mono fun _ _ h=>h.elim),h.hF,h.hO,k.ai h.h0 (fun h=>h),k.ai h.h1 (fun h=>h),k.ai h.h2 (fun h=>h),h.n0,h.n1,h.n2,h.g0,h.g1,h.g2,h.b12,h.hq,h.hr⟩
theorem ey.move {i:It} {a b:List It} (h:ey L w F rv wv b0 b1 b2 (a ++ i :: b) q t' F' wv' wr):ey L w F rv wv b0 b1 b2 (a ++ (i.1,i.2.1,true) :: b) q t' F' wv' (wr.setCell ⟨b2,a.length,none⟩ (.bool true)):=by
 have k:=(aa.refl (·=b2) wr).setCell (p:=⟨b2,a.length,none⟩) (.inl rfl) (.bool true);have hn:¬ aR p rv wv' b2:=h.hS.ky h.h2 (by decide) (by decide);refine ⟨L.J_keep h.hJ k (by rintro b hb rfl;exact h.n2 hb),?_,h.hA,h.hK.setCell (p:=⟨b2,a.length,none⟩) (.inr h.g2) _,h.hF,h.hO,k.ai h.h0 (fun e=>?_),?_,?_,h.n0,h.n1,h.n2,h.g0,h.g1,h.g2,h.b12,h.hq,?_⟩
 ·have:=h.hS.ae k (by rintro b hb rfl;exact hn hb);simpa using this
 ·subst e;exact h.h0.ne h.h2 (by decide) rfl
 ·have:=k.ai h.h1 h.b12;simpa using this
 ·have:=h.h2.aF a.length (.bool true);simpa using this
 ·intro j hj;simp only [List.mem_append,List.mem_cons] at hj;rcases hj with hj | rfl | hj
  ·exact h.hr j (by simp [hj])
  ·exact h.hr i (by simp)
  ·exact h.hr j (by simp [hj])
theorem ey.kept {x:Int} {w2:World} {F2:Nat→Prop} (h:ey L w F rv wv b0 b1 b2 items q t' F' wv' wr) (hx:L.DK t' x)
  (hJ:L.J w2 (L.ae t' q x).1 F2) (hS:aZ gx w2 p rv wv' (items.map (·.1)) (L.ae t' q x).2.1) (hA:fy F2 p rv wv') (hk:aa (fun k=>F' k∨aR p rv wv' k) wr w2) (hF2:∀ k,F2 k→F' k∨wr.heap.size≤k) :
  ey L w F rv wv b0 b1 b2 items (L.ae t' q x).2.1 (L.ae t' q x).1 F2 wv' w2:=by
 have out:∀ {b:Nat} {c:List Value} {T:TypeId},ah wr b c T→¬ F' b→T≠146→T≠170→ah w2 b c T∧¬ F2 b:=fun {b c T} hb hn h1 h2=>
  ⟨hk.ai hb (by rintro (h3 | h3);exact hn h3;exact h.hS.ky hb h1 h2 h3),fun h3=>by
   rcases hF2 _ h3 with h4 | h4
   ·exact hn h4
   ·have:=hb.lt;omega⟩
 refine ⟨hJ,hS,hA,h.hK.then hk ?_,?_,h.hO,(out h.h0 h.n0 (by decide) (by decide)).1,(out h.h1 h.n1 (by decide) (by decide)).1,(out h.h2 h.n2 (by decide) (by decide)).1,
  (out h.h0 h.n0 (by decide) (by decide)).2,(out h.h1 h.n1 (by decide) (by decide)).2,(out h.h2 h.n2 (by decide) (by decide)).2,h.g0,h.g1,h.g2,h.b12,fun e he=>⟨L.D_wait hx (fun e he=>(h.hq e he).1) e he,L.Q_wait (fun e he=>(h.hq e he).2) e he⟩,fun i hi=>⟨⟨L.D_keep hx (h.hr i hi).1.1,L.DK_keep hx (h.hr i hi).1.2⟩,(h.hr i hi).2⟩⟩
 ·rintro b (hb | hb | hb | hb)
  ·rcases h.hF b hb with h1 | h1
   ·exact .inl (.inl h1)
   ·exact .inr h1
  ·exact .inl (.inr (.inl hb))
  ·exact .inl (.inr (.inr (.inl hb)))
  ·rcases h.hO b hb with h1 | h1
   ·exact .inl (.inr (.inr (.inr h1)))
   ·exact .inr h1
 ·intro b hb;rcases hF2 b hb with h1 | h1
  ·exact h.hF b h1
  ·exact .inr (Nat.le_trans h.hK.size h1)
theorem ey.app {e:Int × Int} {w2:World} {v2:Value} (h:ey L w F rv wv b0 b1 b2 items q t' F' wv' wr) (he:(L.D t' e.1∧L.D t' e.2)∧L.Q e)
  (hs:Sl w2 170 2 v2 (q ++ [e]).length (aC (q ++ [e]))) (hk:aa (ag wv') wr w2) (ho:∀ k,ag v2 k→ag wv' k∨wr.heap.size≤k) :
  ey L w F rv wv b0 b1 b2 items (q ++ [e]) t' F' v2 (w2.setCell ⟨p,3,none⟩ v2):=by
 have hkp:=(aa.refl (·=p) w2).setCell (p:=⟨p,3,none⟩) (.inl rfl) v2;have hpw:=h.hS.pw;have hp2:=hk.ai h.hS.hp hpw;have hFp:¬ F' p:=fun hb=>h.hA p ⟨hb, .inl rfl⟩;have out:∀ {b:Nat} {c:List Value} {T:TypeId},ah wr b c T→T≠146→T≠170→ah (w2.setCell ⟨p,3,none⟩ v2) b c T:=fun {b c T} hb h1 h2=>by
  have hn:=h.hS.ky hb h1 h2;exact hkp.ai (hk.ai hb (fun h3=>hn (.inr (.inr h3)))) (fun h3=>hn (.inl h3))
 have hv2p:¬ ag v2 p:=fun hb=>by
  obtain ⟨_,cur,hc⟩:=hs.own hb;exact hp2.ne hc (by decide) rfl
 refine ⟨L.J_keep (L.J_keep h.hJ hk (fun b hb h1=>h.hA b ⟨hb, .inr (.inr h1)⟩)) hkp (by rintro b hb rfl;exact hFp hb),⟨by simpa using hp2.aF 3 v2,?_,?_,?_⟩,?_,?_,h.hF,?_,out h.h0 (by decide) (by decide),out h.h1 (by decide) (by decide),out h.h2 (by decide) (by decide),
  h.n0,h.n1,h.n2,h.g0,h.g1,h.g2,h.b12,?_,h.hr⟩
 ·exact (h.hS.hr.ae hk (fun b hb h1=>h.hS.ap b ⟨hb,h1⟩)).ae hkp (by rintro b hb rfl;exact h.hS.pr hb)
 ·exact hs.ae hkp (by rintro b hb rfl;exact hv2p hb)
 ·rintro b ⟨h1,h2⟩;rcases ho b h2 with h3 | h3
  ·exact h.hS.ap b ⟨h1,h3⟩
  ·have:=(h.hS.hr.own h1).1;omega
 ·rintro b ⟨h1,h2 | h2 | h2⟩
  ·exact h.hA b ⟨h1, .inl h2⟩
  ·exact h.hA b ⟨h1, .inr (.inl h2)⟩
  ·rcases ho b h2 with h3 | h3
   ·exact h.hA b ⟨h1, .inr (.inr h3)⟩
   ·have:=L.J_lt h.hJ h1;omega
 ·refine (h.hK.then hk (fun b hb=>?_)).setCell (p:=⟨p,3,none⟩) (.inl (.inr (.inl rfl))) _;rcases h.hO b hb with h1 | h1
  ·exact .inl (.inr (.inr (.inr h1)))
  ·exact .inr h1
 ·intro b hb;rcases ho b hb with h1 | h1
  ·exact h.hO b h1
  ·exact .inr (Nat.le_trans h.hK.size h1)
 ·intro e' he';simp only [List.mem_append,List.mem_singleton] at he';rcases he' with he' | rfl
  ·exact h.hq _ he'
  ·exact he
end
def dT {P:Program} {p:Nat} (L:c8 gx P p τ) (w:World) (F:Nat→Prop) (rv wv:Value) (b0 b1 b2:Nat) (t1:τ) (q1:List (Int × Int)) (items:List It) (N:Nat) (wr:World) (k:Nat) (more:Bool):Prop:=
 ∃ t' q' F' wv' done,done.length=k∧ey L w F rv wv b0 b1 b2 (done ++ items.drop k) q' t' F' wv' wr∧q'.length+ck (done ++ items.drop k)≤N ∧
  scanM L.alive L.ae t1 q1 items=((scanM L.alive L.ae t' q' (items.drop k)).1,(scanM L.alive L.ae t' q' (items.drop k)).2.1,done ++ (scanM L.alive L.ae t' q' (items.drop k)).2.2.1,more || (scanM L.alive L.ae t' q' (items.drop k)).2.2.2)
theorem dT.skip {P:Program} {p:Nat} {L:c8 gx P p τ} {w:World} {F:Nat→Prop} {rv wv:Value} {b0 b1 b2:Nat} {t1:τ} {q1:List (Int × Int)} {items:List It} {N:Nat} {wr w2:World} {k:Nat} {more:Bool}
  {t':τ} {q':List (Int × Int)} {F':Nat→Prop} {wv':Value} {done:List It} {i:It} (hd:done.length=k) (hdr:items.drop k=i :: items.drop (k+1)) (hm:ey L w F rv wv b0 b1 b2 (done ++ i :: items.drop (k+1)) q' t' F' wv' wr) (hN:q'.length+ck (done ++ i :: items.drop (k+1))≤N)
  (he:scanM L.alive L.ae t1 q1 items=((scanM L.alive L.ae t' q' (i :: items.drop (k+1))).1,(scanM L.alive L.ae t' q' (i :: items.drop (k+1))).2.1,done ++ (scanM L.alive L.ae t' q' (i :: items.drop (k+1))).2.2.1,more || (scanM L.alive L.ae t' q' (i :: items.drop (k+1))).2.2.2))
  (hk2:aa (fun _=>False) wr w2) (hc:((i.2.1 && !i.2.2) && L.alive t' i.1.1)=false):dT L w F rv wv b0 b1 b2 t1 q1 items N w2 (k+1) more:=by
 have e:done ++ i :: items.drop (k+1)=(done ++ [i]) ++ items.drop (k+1):=by simp
 refine ⟨t',q',F',wv',done ++ [i],by simp [hd],?_,?_,?_⟩
 ·rw [←e];exact hm.ae hk2
 ·rw [←e];exact hN
 ·rw [he];simp only [scanM,hc,if_neg (show ¬ (false=true) by decide),List.append_assoc,List.cons_append,List.nil_append]
theorem dT.tr {P:Program} {p:Nat} {L:c8 gx P p τ} {w:World} {F:Nat→Prop} {rv wv:Value} {b0 b1 b2:Nat} {t1:τ} {q1:List (Int × Int)} {items:List It} {N:Nat} {w2:World} {k:Nat} {more:Bool}
  {t':τ} {q':List (Int × Int)} {F2:Nat→Prop} {v2:Value} {done:List It} {i:It} (hd:done.length=k) (hN:q'.length+ck (done ++ i :: items.drop (k+1))≤N)
  (he:scanM L.alive L.ae t1 q1 items=((scanM L.alive L.ae t' q' (i :: items.drop (k+1))).1,(scanM L.alive L.ae t' q' (i :: items.drop (k+1))).2.1,done ++ (scanM L.alive L.ae t' q' (i :: items.drop (k+1))).2.2.1,more || (scanM L.alive L.ae t' q' (i :: items.drop (k+1))).2.2.2))
  (hm:ey L w F rv wv b0 b1 b2 (done ++ (i.1,i.2.1,true) :: items.drop (k+1)) ((L.ae t' q' i.1.2).2.1 ++ [(i.1.1,(L.ae t' q' i.1.2).2.2)]) (L.ae t' q' i.1.2).1 F2 v2 w2)
  (hc:((i.2.1 && !i.2.2) && L.alive t' i.1.1)=true):dT L w F rv wv b0 b1 b2 t1 q1 items N w2 (k+1) true:=by
 have e:done ++ (i.1,i.2.1,true) :: items.drop (k+1)=(done ++ [(i.1,i.2.1,true)]) ++ items.drop (k+1):=by simp
 refine ⟨(L.ae t' q' i.1.2).1,(L.ae t' q' i.1.2).2.1 ++ [(i.1.1,(L.ae t' q' i.1.2).2.2)],F2,v2,done ++ [(i.1,i.2.1,true)],by simp [hd],?_,?_,?_⟩
 ·rw [←e];exact hm
 ·rw [←e];simp only [Bool.and_eq_true,Bool.not_eq_true'] at hc;simp only [List.length_append,L.keep_len,q8,fH,hc.1.2] at hN ⊢;simp at hN ⊢;omega
 ·rw [he];simp only [scanM,hc,if_true,List.append_assoc,List.cons_append,List.nil_append,Bool.or_true,Bool.true_or]
end
end Go.Proofs.Ytjifdalflepcoab
