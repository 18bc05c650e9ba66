/-
  Parts of the proof, merged: what the functions do, and plain laws.
-/
import Derived.Deep.LoopGhost
import Derived.Laws.EntriesVeiled
import Derived.Test.YtjifdalflepcoacGreatTWRP1
set_option maxHeartbeats 16000000
set_option maxRecDepth 100000
set_option linter.unusedVariables false
set_option linter.unusedSimpArgs false
namespace Go.Proofs.YtjifdalflepcoacGreat
section
theorem z3 {l:List Bool} {v:Vl} (h:bS l v=true):v.1=3→au l v.2=true:=fun h3=>by
 unfold bS at h;simpa [h3] using h
theorem oX {W:Wd} {q:List (Int × Int)} {l:List Bool} {i:Int} (hk:(W.th i).k=1∨(W.th i).k=2) {v:Vl} (hv:v ∈ (W.th i).fs):v.1=3→iH W.nd q (fun k=>au l k=true) i v.2:=fun h3=>
 .inl ⟨hk,by show (3,v.2) ∈ (W.th i).fs;rw [←h3];exact hv⟩
theorem xd {W:Wd} {q:List (Int × Int)} {l:List Bool} {i:Int} (hk:(W.th i).k=3) {u v:Vl} (hf:(W.th i).fs=[u,v]):v.1=3→iH W.nd q (fun k=>au l k=true) i v.2:=fun h3=>
 .inr (.inl ⟨hk,by show (W.th i).fs[1]? = _;rw [hf,←h3];rfl⟩)
theorem td {W:Wd} {q:List (Int × Int)} {l:List Bool} {i:Int} (hk:(W.th i).k=4) {u v:Vl} (hf:(W.th i).fs=[u,v]) (h:bS l u=true):v.1=3→iH W.nd q (fun k=>au l k=true) i v.2:=fun h3=>
 .inr (.inr (.inl ⟨hk,by show (W.th i).fs[1]? = _;rw [hf,←h3];rfl,fun x hx h3'=>by
  have hx:(W.th i).fs[0]? = some x:=hx;rw [hf] at hx;simp at hx;subst hx
  exact z3 h h3'⟩))
theorem vN {W:Wd} {q:List (Int × Int)} {l:List Bool} {i:Int} (hk:(W.th i).k=5) {e:Int × Int} (he:e ∈ q) (h1:e.1=i):((3,e.2):Vl).1=3→iH W.nd q (fun k=>au l k=true) i ((3,e.2):Vl).2:=fun _=>
 .inr (.inr (.inr ⟨hk,by rw [←h1];exact he⟩))
end
section
def ay (φ:Int→Int) (v:Vl):Int:=if v.1=3 then 4*φ v.2+1 else if v.1=1 then 4*v.2 else if v.1=2 then 3 else 2
def bp (φ:Int→Int) (e:Int × Int):Int × Int:=(4*φ e.1+1,4*φ e.2+1)
theorem bF (φ:Int→Int) {v:Vl} (h:v.1=3):ay φ v=4*φ v.2+1:=if_pos h
theorem fM {W:Wd} {φ:Int→Int} {v:Vl} (h:W.cC v):ay φ v%4=1↔v.1=3:=by
 rcases h with h | h | h | h
 ·simp [ay,h.1]
 ·simp [ay,h.1]
 ·simp [ay,h.1]
 ·simp only [ay,h.1,if_true,iff_true];omega
theorem kH {φ ψ:Int→Int} {v:Vl} (h:v.1≠3):ay φ v=ay ψ v:=by simp [ay,h]
theorem rY {W:Wd} {φ:Int→Int} {v:Vl} (h:W.cC v):dt (ay φ v)=fj φ v:=by
 rcases h with h | h | h | h
 ·have:v=(0,0):=by cases v;simp_all
  subst this;rfl
 ·have e:ay φ v=4*v.2:=by simp [ay,h.1]
  rw [e];have h1:(4*v.2)%4=0:=by omega
  have h2:(4*v.2)/4=v.2:=by omega
  have:=sK (x:=4*v.2) h1 (by rw [h2];exact h.2);unfold dt fj;rw [if_neg (by omega),this,if_neg (by rw [h.1];decide),h2];cases v;simp_all
 ·have:v=(2,0):=by cases v;simp_all
  subst this;rfl
 ·have e:ay φ v=4*φ v.2+1:=bF φ h.1;rw [e];unfold dt fj;rw [if_pos (by omega),if_pos h.1];congr 1;omega
def Tile (A:Ar):List Int→Int→Int→Prop
 | [],a,b=>a=b
 | p :: l,a,b=>p=a∧(A.ai p).2.2=0∧Tile A l (p+1+(A.ai p).2.1) b
theorem Tile.le {A:Ar}:∀ {l:List Int} {a b:Int},Tile A l a b→a≤b
 | [],a,b,h=>by have:a=b:=h;omega
 | p :: l,a,b,h=>by
  have:=Tile.le h.2.2;have:=A.aO p;have:=h.1;omega
theorem Tile.mem {A:Ar}:∀ {l:List Int} {a b:Int},Tile A l a b→∀ p ∈ l,a≤p∧p+1+(A.ai p).2.1≤b∧(A.ai p).2.2=0
 | q :: l,a,b,h,p,hp=>by
  rcases List.mem_cons.1 hp with rfl | hp
  ·have:=Tile.le h.2.2;have:=h.1;exact ⟨by omega,by omega,h.2.1⟩
  ·have h1:=Tile.mem h.2.2 p hp;have:=A.aO q;have:=h.1;exact ⟨by omega,h1.2.1,h1.2.2⟩
theorem Tile.apart {A:Ar}:∀ {l:List Int} {a b:Int},Tile A l a b→l.Pairwise fun p q=>p+1+(A.ai p).2.1≤q
 | [],_,_,_=>List.Pairwise.nil
 | p :: l,a,b,h=>List.Pairwise.cons (fun q hq=>(Tile.mem h.2.2 q hq).1) (Tile.apart h.2.2)
theorem Tile.congr {A B:Ar}:∀ {l:List Int} {a b:Int},(∀ p ∈ l,B.ai p=A.ai p)→Tile A l a b→Tile B l a b
 | [],_,_,_,h=>h
 | p :: l,a,b,hs,h=>by
  refine ⟨h.1,?_,?_⟩
  ·rw [hs p (by simp)];exact h.2.1
  ·rw [hs p (by simp)];exact Tile.congr (fun q hq=>hs q (by simp [hq])) h.2.2
theorem Tile.app {A:Ar} {m:List Int} {c:Int}:∀ {l:List Int} {a b:Int},Tile A l a b→Tile A m b c→Tile A (l ++ m) a c
 | [],a,b,h,k=>by have:a=b:=h;subst this;exact k
 | p :: l,a,b,h,k=>⟨h.1,h.2.1,Tile.app h.2.2 k⟩
theorem Tile.list {A:Ar}:∀ {l:List Int} {a b:Int} {n:Nat},Tile A l a b→(b-a).toNat≤n→A.list n a b=l
 | [],a,b,n,h,hn=>by
  have:a=b:=h;subst this;exact Ar.px (fun h=>by omega)
 | p :: l,a,b,n,h,hn=>by
  have hle:=Tile.le h.2.2;have hf:=A.aO p;have he:=h.1;subst he;obtain ⟨n,rfl⟩:∃ m,n=m+1:=⟨n-1,by omega⟩;rw [Ar.rM (by omega) h.2.1,Tile.list h.2.2 (by omega)]
theorem Tile.sum {A:Ar}:∀ {l:List Int} {a b:Int},Tile A l a b→b=a+(l.map fun p=>1+(A.ai p).2.1).sum
 | [],a,b,h=>by have:a=b:=h;subst this;simp
 | p :: l,a,b,h=>by
  have:=Tile.sum h.2.2;have:=h.1;simp only [List.map_cons,List.sum_cons];omega
theorem Ar.eR {A:Ar} (h:A.ok) (p q x:Int):(A.store p x).load q=if q=p∧A.aL p=true then x else A.load q:=by
 have hu:∀ r,(A.store p x).aL r=A.aL r:=fun r=>by
  unfold Ar.aL Ar.az Ar.aI;rw [A.fy,A.cU,A.dG]
 unfold Ar.load;rw [hu];by_cases hp:A.aL p=true
 ·have hl:=h.jk hp;have e:A.store p x={ A with ws:=A.ws.set p.toNat x }:=by unfold Ar.store;rw [if_pos hp]
  by_cases hq:A.aL q=true
  ·have hlq:=h.jk hq;rw [if_pos hq,if_pos hq,e]
   show (A.ws.set p.toNat x).getD q.toNat 0=_
   simp only [Ld,List.getElem?_set];by_cases e2:q=p
   ·subst e2;rw [if_pos rfl,if_pos (by omega),if_pos ⟨rfl,hp⟩];rfl
   ·rw [if_neg (by omega),if_neg (fun h=>e2 h.1)]
  ·rw [if_neg hq,if_neg hq,if_neg (fun hh=>by rw [hh.1] at hq;exact hq hh.2)]
 ·have e:A.store p x=A:=by unfold Ar.store;rw [if_neg hp]
  rw [e,if_neg (fun hh:q=p∧A.aL p=true=>hp hh.2)]
end
section
def gN (M:List Int) (v:Vl):Vl:=fj (fun x=>((M.idxOf x:Nat):Int)) v
def pI (M:List Int) (n:Nd):Nd:=(n.1,n.2.map (gN M))
theorem te {M m:List Int} {v:Vl} (h:v.1=3→v.2 ∈ M):gN (M ++ m) v=gN M v:=by
 unfold gN fj;by_cases h3:v.1=3
 ·rw [if_pos h3,if_pos h3];dsimp only;rw [List.idxOf_append,if_pos (h h3)]
 ·rw [if_neg h3,if_neg h3]
theorem tg {M m:List Int} {l:List Vl} (h:∀ v ∈ l,v.1=3→v.2 ∈ M):l.map (gN (M ++ m))=l.map (gN M):=
 List.map_congr_left fun v hv=>te (h v hv)
structure Told (G:Gr) (L:List Vl) (s s':VS):Prop where
 pre:∃ m,s'.1=s.1 ++ m
 len:s'.2.length=s'.1.length
 nodup:s.1.Nodup→s'.1.Nodup
 met:∀ v ∈ L,v.1=3→v.2 ∈ s'.1
 shut:∀ (k:Nat) (x:Int),s.1.length≤k→s'.1[k]? = some x→∀ v ∈ (G x).2,v.1=3→v.2 ∈ s'.1
 node:∀ (k:Nat) (x:Int),s.1.length≤k→s'.1[k]? = some x→s'.2[k]? = some (pI s'.1 (G x))
 ab:∀ k,k<s.1.length→s'.2[k]? = s.2[k]?
 led:∀ (k:Nat) (x:Int),s.1.length≤k→s'.1[k]? = some x→((3,x):Vl) ∈ L∨∃ (j:Nat) (y:Int),s.1.length≤j∧j<k∧s'.1[j]? = some y∧((3,x):Vl) ∈ (G y).2
theorem Told.refl (G:Gr) {L:List Vl} {s:VS} (hl:s.2.length=s.1.length) (hm:∀ v ∈ L,v.1=3→v.2 ∈ s.1):Told G L s s:=
 have no:∀ (k:Nat) (x:Int),s.1.length≤k→s.1[k]? = some x→False:=fun k x h1 h2=>by
  rw [List.getElem?_eq_none h1] at h2;cases h2
 ⟨⟨[],by simp⟩,hl,fun h=>h,hm,fun k x h1 h2=>(no k x h1 h2).elim,fun k x h1 h2=>(no k x h1 h2).elim,fun _ _=>rfl,fun k x h1 h2=>(no k x h1 h2).elim⟩
theorem jm {α:Type} {a m:List α} {k:Nat} (h:k<a.length):(a ++ m)[k]? = a[k]? := List.getElem?_append_left h
theorem Told.then {G:Gr} {L L':List Vl} {s t u:VS} (A:Told G L s t) (B:Told G L' t u):Told G (L ++ L') s u:=by
 obtain ⟨m,hm⟩:=A.pre;obtain ⟨m',hm'⟩:=B.pre;have hsub:∀ x ∈ t.1,x ∈ u.1:=fun x hx=>by rw [hm'];simp [hx]
 have ht:s.1.length≤t.1.length:=by rw [hm];simp
 refine ⟨⟨m ++ m',by rw [hm',hm];simp⟩,B.len,fun h=>B.nodup (A.nodup h),fun v hv h3=>?_,fun k x hk hx v hv h3=>?_,fun k x hk hx=>?_,fun k hk=>?_,fun k x hk hx=>?_⟩
 ·rcases List.mem_append.1 hv with h | h
  ·exact hsub _ (A.met v h h3)
  ·exact B.met v h h3
 ·by_cases hlt:k<t.1.length
  ·rw [hm',jm hlt] at hx;exact hsub _ (A.shut k x hk hx v hv h3)
  ·exact B.shut k x (by omega) hx v hv h3
 ·by_cases hlt:k<t.1.length
  ·have hx':t.1[k]? = some x:=by rw [hm',jm hlt] at hx;exact hx
   rw [B.ab k hlt,A.node k x hk hx'];unfold pI;rw [hm',tg (A.shut k x hk hx')]
  ·exact B.node k x (by omega) hx
 ·rw [B.ab k (by omega),A.ab k hk]
 ·by_cases hlt:k<t.1.length
  ·have hx':t.1[k]? = some x:=by rw [hm',jm hlt] at hx;exact hx
   rcases A.led k x hk hx' with h | ⟨j,y,h1,h0,h2,h3⟩
   ·exact .inl (by simp [h])
   ·exact .inr ⟨j,y,h1,h0,by rw [hm',jm (by omega)];exact h2,h3⟩
  ·rcases B.led k x (by omega) hx with h | ⟨j,y,h1,h0,h2,h3⟩
   ·exact .inl (by simp [h])
   ·exact .inr ⟨j,y,by omega,h0,h2,h3⟩
theorem nU {G:Gr} {U:List Int} {n:Nat} {f:Vl→VS→Vl × VS}
  (h:∀ v s,(v.1=3→v.2 ∈ U)→dA U s.1≤n→s.2.length=s.1.length→Told G [v] s (f v s).2∧(f v s).1=gN (f v s).2.1 v) :
  ∀ (l:List Vl) (s:VS),(∀ v ∈ l,v.1=3→v.2 ∈ U)→dA U s.1≤n→s.2.length=s.1.length→Told G l s (fldM f l s).2∧(fldM f l s).1=l.map (gN (fldM f l s).2.1)
 | [],s,_,_,hl=>⟨Told.refl G hl (fun v hv=>by cases hv),rfl⟩
 | v :: l,s,hL,hn,hl=>by
  obtain ⟨A,e⟩:=h v s (hL v (by simp)) hn hl;obtain ⟨m,hm⟩:=A.pre;have:=rk U s.1 m;obtain ⟨B,e2⟩:=nU h l (f v s).2 (fun u hu=>hL u (by simp [hu])) (by rw [hm];omega) A.len;refine ⟨A.then B,?_⟩;simp only [fldM,List.map_cons];obtain ⟨m',hm'⟩:=B.pre;have h1:gN (fldM f l (f v s).2).2.1 v=gN (f v s).2.1 v:=by rw [hm'];exact te (A.met v (by simp))
  rw [h1,←e,←e2]
theorem xg {G:Gr} {U:List Int} (I:uU G U):∀ (n:Nat) (v:Vl) (s:VS),(v.1=3→v.2 ∈ U)→dA U s.1≤n→s.2.length=s.1.length →
  Told G [v] s (valM G n v s).2∧(valM G n v s).1=gN (valM G n v s).2.1 v:=by
 intro n
 induction n with
 | zero=>
  intro v s hv hn hl;by_cases h3:v.1=3
  ·have hm:=pD (Nat.le_zero.1 hn) (hv h3);rw [fL G _ h3 hm];refine ⟨Told.refl G hl (fun u hu h=>by rw [List.mem_singleton.1 hu];exact hm),?_⟩;simp [gN,fj,h3,gY]
  ·rw [dB G _ _ h3];exact ⟨Told.refl G hl (fun u hu h=>absurd (by rw [←List.mem_singleton.1 hu];exact h) h3),by simp [gN,fj,h3]⟩
 | succ n ih=>
  intro v s hv hn hl;by_cases h3:v.1=3
  ·by_cases hm:v.2 ∈ s.1
   ·rw [fL G _ h3 hm];refine ⟨Told.refl G hl (fun u hu h=>by rw [List.mem_singleton.1 hu];exact hm),?_⟩;simp [gN,fj,h3,gY]
   ·have hu:=kX (hv h3) hm;obtain ⟨A,e⟩:=nU ih (G v.2).2 (s.1 ++ [v.2],s.2 ++ [((G v.2).1,[])]) (I.shut _ (hv h3)) (Nat.le_of_lt_succ (Nat.lt_of_lt_of_le hu hn)) (by simp [hl]);obtain ⟨m,hmm⟩:=A.pre;dsimp only at hmm;rw [eJ G n h3 hm];have hat:(fldM (valM G n) (G v.2).2 (s.1 ++ [v.2],s.2 ++ [((G v.2).1,[])])).2.1[s.1.length]? = some v.2:=by rw [hmm];simp
    have hlt:s.1.length<(fldM (valM G n) (G v.2).2 (s.1 ++ [v.2],s.2 ++ [((G v.2).1,[])])).2.1.length:=by rw [hmm];simp
    refine ⟨⟨⟨v.2 :: m,by dsimp only;rw [hmm];simp⟩,by dsimp only;rw [List.length_set];exact A.len,fun h=>A.nodup (by
      rw [List.nodup_append]
      exact ⟨h,by simp,fun a ha b hb e=>hm (by rw [←List.mem_singleton.1 hb,←e];exact ha)⟩),fun u hu h=>?_,fun k x hk hx u hu h=>?_,fun k x hk hx=>?_,fun k hk=>?_,fun k x hk hx=>?_⟩,?_⟩
    ·rw [List.mem_singleton.1 hu];dsimp only;rw [hmm];simp
    ·by_cases he:k=s.1.length
     ·subst he;dsimp only at hx ⊢;rw [hat] at hx;cases hx;exact A.met u hu h
     ·exact A.shut k x (by simp;omega) hx u hu h
    ·dsimp only at hx ⊢;by_cases he:k=s.1.length
     ·subst he;rw [hat] at hx;cases hx;rw [List.getElem?_set_self (by rw [A.len];exact hlt)];unfold pI;rw [←e]
     ·rw [List.getElem?_set_ne (by omega)];exact A.node k x (by simp;omega) hx
    ·dsimp only;rw [List.getElem?_set_ne (by omega),A.ab k (by simp;omega)];dsimp only;rw [List.getElem?_append_left (by omega)]
    ·dsimp only at hx ⊢;by_cases he:k=s.1.length
     ·subst he;rw [hat] at hx;cases hx;left;rw [List.mem_singleton,←h3]
     ·right;rcases A.led k x (by simp;omega) hx with h | ⟨j,y,h1,h0,h2,h4⟩
      ·exact ⟨s.1.length,v.2,Nat.le_refl _,by omega,hat,h⟩
      ·exact ⟨j,y,by simp at h1;omega,h0,h2,h4⟩
    ·dsimp only;unfold gN fj;rw [if_pos h3,hmm];dsimp only;rw [List.idxOf_append,if_pos (by simp),List.idxOf_append,if_neg hm];simp [gY]
  ·rw [dB G _ _ h3];exact ⟨Told.refl G hl (fun u hu h=>absurd (by rw [←List.mem_singleton.1 hu];exact h) h3),by simp [gN,fj,h3]⟩
def lh (G:Gr) (roots:List Vl):List Int:=(fldM (valM G deep) roots ([],[])).2.1
theorem vO {G:Gr} {U:List Int} (I:uU G U) (hU:U.length≤deep) {roots:List Vl} (hr:∀ v ∈ roots,v.1=3→v.2 ∈ U) :
  ky G roots=(roots.map (gN (lh G roots)),(lh G roots).map fun x=>pI (lh G roots) (G x))∧(lh G roots).Nodup∧(∀ v ∈ roots,v.1=3→v.2 ∈ lh G roots) ∧
  (∀ x ∈ lh G roots, ∀ v ∈ (G x).2,v.1=3→v.2 ∈ lh G roots)∧∀ (k:Nat) (x:Int),(lh G roots)[k]? = some x→((3,x):Vl) ∈ roots∨∃ (j:Nat) (y:Int),j<k∧(lh G roots)[j]? = some y∧((3,x):Vl) ∈ (G y).2:=by
 obtain ⟨A,e⟩:=nU (xg I deep) roots ([],[]) hr (Nat.le_trans (rm U) hU) rfl;unfold ky;have hM:lh G roots=(fldM (valM G deep) roots ([],[])).2.1:=rfl;rw [←hM] at e;refine ⟨Prod.ext e ?_,A.nodup (by simp),A.met,fun x hx v hv h3=>?_,fun k x hx=>?_⟩
 ·refine List.ext_getElem? fun k=>?_;dsimp only;rw [List.getElem?_map,hM];cases hk:(fldM (valM G deep) roots ([],[])).2.1[k]? with
  | none=>
   rw [List.getElem?_eq_none_iff] at hk;rw [List.getElem?_eq_none (by rw [A.len];exact hk)];rfl
  | some x=>rw [A.node k x (by simp) hk];rfl
 ·obtain ⟨k,hk,rfl⟩:=List.mem_iff_getElem.1 hx;exact A.shut k _ (by simp) (Le hk) v hv h3
 ·rcases A.led k x (by simp) hx with h | ⟨j,y,h1,h0,h2,h3⟩
  ·exact .inl h
  ·exact .inr ⟨j,y,h0,h2,h3⟩
end
section
structure aH (O:Wo) (W:Wd) (φ:Int→Int):Prop where
 ho:O.ok
 hw:W.ok
 ty:Tile O.ar O.ar.aN.1 0 O.ar.yng
 tz:Tile O.ar O.ar.aN.2 O.ar.nur O.ar.grn
 inj:∀ i j,W.live i→W.live j→φ i=φ j→i=j
 onto:∀ p,p ∈ O.ar.aN.1∨p ∈ O.ar.aN.2→∃ i,W.live i∧φ i=p
 iny:∀ i,W.live i→(W.th i).aI=false→φ i ∈ O.ar.aN.1
 ino:∀ i,W.live i→(W.th i).aI=true→φ i ∈ O.ar.aN.2
 th:∀ i,W.live i→O.ar.ai (φ i)=((W.th i).k,((W.th i).fs.length:Int),0)
 fl:∀ i,W.live i→∀ (j:Nat) (v:Vl),(W.th i).fs[j]? = some v→O.ar.load (φ i+1+j)=ay φ v
 rt:O.rt=W.roots.map (ay φ)
 rg:O.rg=W.ah.map (bp φ)
 wt:O.wt=W.wait.map (bp φ)
 nur:(O.ar.nur:Int)=W.most
 len:(O.ar.ws.length:Int)=W.most+W.grow
 cl:O.cd.length=gC W.grow
 card:∀ i,W.live i→(W.th i).aI=true→∀ v ∈ (W.th i).fs,v.1=3→(W.th v.2).aI=false→de O.ar.nur O.cd (φ i)=true
section
variable {O:Wo} {W:Wd} {φ:Int→Int}
theorem bP {A:Ar} {i:Int}:A.az i=true↔0≤i∧i<A.yng:=by simp [Ar.az]
theorem c6 {A:Ar} {i:Int}:A.aI i=true↔(A.nur:Int)≤i∧i<A.grn:=by simp [Ar.aI]
theorem Tile.pJ {A:Ar} {l:List Int} (h:Tile A l 0 A.yng) {p:Int} (hp:p ∈ l) {j:Int} (h0:0≤j) (h1:j≤(A.ai p).2.1):A.az (p+j)=true:=by
 have:=Tile.mem h p hp;rw [bP];omega
theorem Tile.tm {A:Ar} {l:List Int} (h:Tile A l A.nur A.grn) {p:Int} (hp:p ∈ l) {j:Int} (h0:0≤j) (h1:j≤(A.ai p).2.1):A.aI (p+j)=true:=by
 have:=Tile.mem h p hp;rw [c6];omega
theorem aH.az (R:aH O W φ) {i:Int} (hi:W.live i) (ho:(W.th i).aI=false) {j:Int} (h0:0≤j) (h1:j≤(W.th i).fs.length):O.ar.az (φ i+j)=true:=
 R.ty.pJ (R.iny i hi ho) h0 (by rw [R.th i hi];exact h1)
theorem aH.aI (R:aH O W φ) {i:Int} (hi:W.live i) (ho:(W.th i).aI=true) {j:Int} (h0:0≤j) (h1:j≤(W.th i).fs.length):O.ar.aI (φ i+j)=true:=
 R.tz.tm (R.ino i hi ho) h0 (by rw [R.th i hi];exact h1)
theorem tq {A:Ar} (h:A.ok) {i:Int} (hy:A.az i=true):A.aI i=false:=by
 have:=h.h1;rw [bP] at hy;cases ho:A.aI i
 ·rfl
 ·rw [c6] at ho;omega
theorem aH.bP (R:aH O W φ) {i:Int} (hi:W.live i):O.ar.az (φ i)=true↔(W.th i).aI=false:=by
 constructor
 ·intro h;cases ho:(W.th i).aI
  ·rfl
  ·have:=R.aI hi ho (j:=0) (by omega) (by omega);rw [Int.add_zero,tq R.ho.ha h] at this;cases this
 ·intro h;have:=R.az hi h (j:=0) (by omega) (by omega);rwa [Int.add_zero] at this
theorem aH.c6 (R:aH O W φ) {i:Int} (hi:W.live i):O.ar.aI (φ i)=true↔(W.th i).aI=true:=by
 constructor
 ·intro h;cases ho:(W.th i).aI
  ·have:=(R.bP hi).2 ho;rw [tq R.ho.ha this] at h;cases h
  ·rfl
 ·intro h;have:=R.aI hi h (j:=0) (by omega) (by omega);rwa [Int.add_zero] at this
theorem aH.use (R:aH O W φ) {i:Int} (hi:W.live i) {j:Int} (h0:0≤j) (h1:j≤(W.th i).fs.length):O.ar.aL (φ i+j)=true:=by
 unfold Ar.aL;rw [Bool.or_eq_true];cases ho:(W.th i).aI
 ·exact .inl (R.az hi ho h0 h1)
 ·exact .inr (R.aI hi ho h0 h1)
theorem aH.place (R:aH O W φ) {i:Int} (hi:W.live i):0≤φ i∧φ i<1280∧φ i<O.ar.ws.length:=by
 have:=R.use hi (j:=0) (by omega) (by omega);rw [Int.add_zero] at this;have:=R.ho.ha.jk this;have:=R.ho.ha.h4;omega
theorem lp {l:List Int} {f:Int→Int} (h:l.Pairwise fun p q=>p+1+f p≤q) {p q:Int} (hp:p ∈ l) (hq:q ∈ l):p=q∨p+1+f p≤q∨q+1+f q≤p:=by
 induction h with
 | nil=>cases hp
 | cons h1 _ ih=>
  rcases List.mem_cons.1 hp with rfl | hp'
  ·rcases List.mem_cons.1 hq with rfl | hq'
   ·exact .inl rfl
   ·exact .inr (.inl (h1 q hq'))
  ·rcases List.mem_cons.1 hq with rfl | hq'
   ·exact .inr (.inr (h1 p hp'))
   ·exact ih hp' hq'
theorem aH.apart (R:aH O W φ) {i j:Int} (hi:W.live i) (hj:W.live j) (h:i≠j):φ i+1+(W.th i).fs.length≤φ j∨φ j+1+(W.th j).fs.length≤φ i:=by
 have hne:φ i≠φ j:=fun e=>h (R.inj i j hi hj e);have h1:=R.ho.ha.h1;have ti:=R.th i hi;have tj:=R.th j hj;cases oi:(W.th i).aI <;> cases oj:(W.th j).aI
 ·have:=lp (f:=fun p=>(O.ar.ai p).2.1) R.ty.apart (R.iny i hi oi) (R.iny j hj oj);rw [ti,tj] at this;dsimp only at this;omega
 ·have a:=R.ty.mem _ (R.iny i hi oi);have b:=R.tz.mem _ (R.ino j hj oj);rw [ti] at a;dsimp only at a;omega
 ·have a:=R.tz.mem _ (R.ino i hi oi);have b:=R.ty.mem _ (R.iny j hj oj);rw [tj] at b;dsimp only at b;omega
 ·have:=lp (f:=fun p=>(O.ar.ai p).2.1) R.tz.apart (R.ino i hi oi) (R.ino j hj oj);rw [ti,tj] at this;dsimp only at this;omega
theorem Tile.nodup {A:Ar} {l:List Int} {a b:Int} (h:Tile A l a b):l.Nodup:=by
 refine List.Pairwise.imp ?_ h.apart;intro p q hpq e;have:=A.aO p;omega
theorem rZ (h:∀ i j,W.live i→W.live j→φ i=φ j→i=j):∀ (l:List (Int × Int)),(∀ e ∈ l,W.dD e)→∀ i,W.live i→fx (l.map (bp φ)) (4*φ i+1)=(dS l i).map fun x=>4*φ x+1
 | [],_,_,_=>rfl
 | e :: l,hl,i,hi=>by
  have ih:=rZ h l (fun e he=>hl e (by simp [he])) i hi;have he:=hl e (by simp);unfold fx dS at *;simp only [List.map_cons,List.filter_cons];by_cases c:e.1=i
  ·have c':(bp φ e).1=4*φ i+1:=by simp [bp,c]
   rw [if_pos (by simpa using c'),if_pos (by simpa using c)];simp only [List.map_cons,ih];simp [bp]
  ·have c':¬ (bp φ e).1=4*φ i+1:=by
    intro h';simp only [bp] at h';exact c (h _ _ he.1 hi (by omega))
   rw [if_neg (by simpa using c'),if_neg (by simpa using c)];exact ih
theorem aH.fields (R:aH O W φ) {i:Int} (hi:W.live i):O.ar.fields (φ i)=(W.th i).fs.map (ay φ):=by
 unfold Ar.fields;rw [R.th i hi];apply List.ext_getElem
 ·simp
 ·intro k h1 h2;simp only [List.length_map,List.length_range] at h1 h2;simp only [List.getElem_map,List.getElem_range];exact R.fl i hi k _ (Le (by simpa using h2))
theorem aH.CY (R:aH O W φ):zo W.gr O.gr W.live φ:=by
 refine ⟨R.inj,fun i hi=>?_,fun i hi v hv h3=>?_⟩
 ·unfold Wo.gr Wd.gr;dsimp only;rw [R.th i hi,R.fields hi];dsimp only;refine Prod.ext rfl ?_;dsimp only;rw [List.map_append,List.map_map];congr 1
  ·refine List.map_congr_left fun v hv=>?_;exact rY (R.hw.tv i hi v hv)
  ·by_cases hk:(W.th i).k=5
   ·rw [if_pos hk,if_pos hk,R.wt,rZ R.inj W.wait R.hw.wv i hi,List.map_map,List.map_map];refine List.map_congr_left fun x hx=>?_;simp only [Function.comp];unfold dt fj;rw [if_pos (by omega),if_pos rfl]
    show ((3:Int),(4*φ x+1)/4)=(3,φ x)
    rw [show (4*φ x+1)/4=φ x by omega]
   ·rw [if_neg hk,if_neg hk];rfl
 ·unfold Wd.gr at hv;dsimp only at hv;rcases List.mem_append.1 hv with h1 | h1
  ·exact Wd.aY (R.hw.tv i hi v h1) h3
  ·split at h1
   ·obtain ⟨x,hx,rfl⟩:=List.mem_map.1 h1;unfold dS at hx;obtain ⟨e,he,rfl⟩:=List.mem_map.1 hx;exact (R.hw.wv e (List.mem_filter.1 he).1).2.2
   ·cases h1
theorem aH.view (R:aH O W φ):O.view=W.view:=by
 unfold Wo.view Wd.view;rw [R.rt,List.map_map];have:W.roots.map (dt ∘ ay φ)=W.roots.map (fj φ):=List.map_congr_left fun v hv=>rY (R.hw.rv v hv);rw [this];exact wS R.CY (fun u hu h3=>Wd.aY (R.hw.rv u hu) h3)
def Wd.idx (W:Wd) (aI:Bool):List Int:=((List.range W.T.length).map (Int.ofNat ·)).filter fun i=>!(W.th i).dead && ((W.th i).aI == aI)
theorem Wd.c8 {W:Wd} {b:Bool} {i:Int}:i ∈ W.idx b↔W.live i∧(W.th i).aI=b:=by
 unfold Wd.idx Wd.live;simp only [List.mem_filter,List.mem_map,List.mem_range,Bool.and_eq_true,Bool.not_eq_true',beq_iff_eq];constructor
 ·rintro ⟨⟨n,hn,rfl⟩,h1,h2⟩;exact ⟨⟨Int.natCast_nonneg n,Int.ofNat_lt.2 hn,h1⟩,h2⟩
 ·rintro ⟨⟨h0,h1,h2⟩,h3⟩;have h4:i.toNat<W.T.length:=by omega
  have h5:((i.toNat:Nat):Int)=i:=by omega
  exact ⟨⟨i.toNat,h4,h5⟩,h2,h3⟩
theorem jn (n:Nat):((List.range n).map (Int.ofNat ·)).Nodup:=by
 rw [List.Nodup,List.pairwise_map];refine List.Pairwise.imp ?_ (List.nodup_range (n:=n));intro a b h e;exact h (Int.ofNat.inj e)
theorem Wd.r3 (W:Wd) (b:Bool):(W.idx b).Nodup:=(jn _).filter _
theorem mO {l m:List Int} (h:l.Perm m):l.sum=m.sum:=by
 induction h with
 | nil=>rfl
 | cons x _ ih=>simp [ih]
 | swap x y l=>simp;omega
 | trans _ _ ih1 ih2=>exact ih1.trans ih2
theorem vP {l:List Int} (h:∀ x ∈ l,0≤x):0≤l.sum:=by
 induction l with
 | nil=>simp
 | cons a l ih=>simp only [List.sum_cons];have:=h a (by simp);have:=ih (fun x hx=>h x (by simp [hx]));omega
theorem mi {f:Int→Int} (h0:∀ i,0≤f i):∀ {l m:List Int},l.Nodup→(∀ i ∈ l,i ∈ m)→(l.map f).sum≤(m.map f).sum
 | [],m,_,_=>by simpa using vP (l:=m.map f) (fun x hx=>by obtain ⟨i,_,rfl⟩:=List.mem_map.1 hx;exact h0 i)
 | a :: l,m,hn,hs=>by
  have ha:=hs a (by simp);have hp:m.Perm (a :: m.erase a):=List.perm_cons_erase ha;rw [mO (hp.map f)];simp only [List.map_cons,List.sum_cons];rw [List.nodup_cons] at hn;have:=mi h0 (l:=l) (m:=m.erase a) hn.2 (fun i hi=>(List.mem_erase_of_ne (fun e=>hn.1 (by rw [←e];exact hi))).2 (hs i (by simp [hi])));omega
theorem jo {p:Int→Bool} {f:Int→Int}:∀ (l:List Int),((l.filter p).map f).sum=(l.map fun i=>if p i then f i else 0).sum
 | []=>rfl
 | a :: l=>by
  simp only [List.filter_cons,List.map_cons,List.sum_cons];cases h:p a
  ·simp [jo l]
  ·simp [jo l]
theorem vQ (W:Wd) (p:Th→Bool):dL W.T p=(((List.range W.T.length).map (Int.ofNat ·)).map fun i=>if p (W.th i) then (W.th i).words else 0).sum:=by
 unfold dL;congr 1;apply List.ext_getElem
 ·simp
 ·intro k h1 h2;simp only [List.length_map] at h1;simp only [List.getElem_map,List.getElem_range];have e:W.th (Int.ofNat k)=W.T[k]:=by
   unfold Wd.th;rw [Ld,show (Int.ofNat k).toNat=k from rfl,Le h1];rfl
  rw [e]
theorem Wd.iZ (W:Wd) (b:Bool):((W.idx b).map fun i=>(W.th i).words).sum=dL W.T fun t=>!t.dead && (t.aI == b):=by
 rw [vQ];unfold Wd.idx;rw [jo]
theorem r5 {φ:Int→Int} {l:List Int} (h:l.Nodup) (inj:∀ i ∈ l, ∀ j ∈ l,φ i=φ j→i=j):(l.map φ).Nodup:=by
 rw [List.Nodup,List.pairwise_map];refine List.Pairwise.imp_of_mem ?_ h;intro a b ha hb hne e;exact hne (inj a ha b hb e)
theorem aH.A8 (R:aH O W φ):O.ar.aN.1.Perm ((W.idx false).map φ):=by
 rw [List.perm_ext_iff_of_nodup R.ty.nodup (r5 (W.r3 _) (fun i hi j hj e=>R.inj i j (Wd.c8.1 hi).1 (Wd.c8.1 hj).1 e))];intro p;constructor
 ·intro hp;obtain ⟨i,hi,rfl⟩:=R.onto p (.inl hp);have:=R.ty.pJ hp (j:=0) (by omega) (R.ho.ha |> fun _=>(O.ar.aO (φ i)).1);rw [Int.add_zero] at this;exact List.mem_map.2 ⟨i,Wd.c8.2 ⟨hi,(R.bP hi).1 this⟩,rfl⟩
 ·intro hp;obtain ⟨i,hi,rfl⟩:=List.mem_map.1 hp;exact R.iny i (Wd.c8.1 hi).1 (Wd.c8.1 hi).2
theorem aH.qA (R:aH O W φ):O.ar.aN.2.Perm ((W.idx true).map φ):=by
 rw [List.perm_ext_iff_of_nodup R.tz.nodup (r5 (W.r3 _) (fun i hi j hj e=>R.inj i j (Wd.c8.1 hi).1 (Wd.c8.1 hj).1 e))];intro p;constructor
 ·intro hp;obtain ⟨i,hi,rfl⟩:=R.onto p (.inr hp);have:=R.tz.tm hp (j:=0) (by omega) (O.ar.aO (φ i)).1;rw [Int.add_zero] at this;exact List.mem_map.2 ⟨i,Wd.c8.2 ⟨hi,(R.c6 hi).1 this⟩,rfl⟩
 ·intro hp;obtain ⟨i,hi,rfl⟩:=List.mem_map.1 hp;exact R.ino i (Wd.c8.1 hi).1 (Wd.c8.1 hi).2
theorem aH.sy (R:aH O W φ):(O.ar.yng:Int)=W.az:=by
 have h1:=R.ty.sum;rw [mO (R.A8.map _),List.map_map] at h1;have e:(W.idx false).map ((fun p=>1+(O.ar.ai p).2.1) ∘ φ)=(W.idx false).map fun i=>(W.th i).words:=
  List.map_congr_left fun i hi=>by simp only [Function.comp];rw [R.th i (Wd.c8.1 hi).1];rfl
 rw [e,Wd.iZ] at h1;unfold Wd.az;rw [h1];have:(fun t:Th=>!t.dead && (t.aI == false))=fun t:Th=>!t.dead && !t.aI:=by funext t;cases t.aI <;> rfl
 rw [this];omega
theorem aH.so (R:aH O W φ):(O.ar.grn:Int)-O.ar.nur=W.cm:=by
 have h1:=R.tz.sum;rw [mO (R.qA.map _),List.map_map] at h1;have e:(W.idx true).map ((fun p=>1+(O.ar.ai p).2.1) ∘ φ)=(W.idx true).map fun i=>(W.th i).words:=
  List.map_congr_left fun i hi=>by simp only [Function.comp];rw [R.th i (Wd.c8.1 hi).1];rfl
 rw [e,Wd.iZ] at h1;unfold Wd.cm;rw [h1];have:(fun t:Th=>!t.dead && (t.aI == true))=fun t:Th=>!t.dead && t.aI:=by funext t;cases t.aI <;> rfl
 rw [this];omega
end
end
section
section
variable {O:Wo} {W:Wd} {φ ψ:Int→Int}
theorem Tile.aN {A:Ar} (h:A.ok) {Y Z:List Int} (hy:Tile A Y 0 A.yng) (hz:Tile A Z A.nur A.grn):A.aN=(Y,Z):=by
 have:=h.h1;have:=h.h2;have:=h.h3;have:=h.h4;unfold Ar.aN;rw [hy.list (by omega),hz.list (by omega)]
theorem ei {v:Vl} (h:v.1=3→ψ v.2=φ v.2):ay ψ v=ay φ v:=by
 unfold ay;by_cases h3:v.1=3
 ·rw [if_pos h3,if_pos h3,h h3]
 ·rw [if_neg h3,if_neg h3]
theorem pK (R:aH O W φ) {v:Vl} (hv:W.cC v):a9 (ay φ v):=by
 unfold a9;rcases hv with h | h | h | h
 ·have e:ay φ v=2:=by simp [ay,h.1]
  rw [e];decide
 ·have e:ay φ v=4*v.2:=by simp [ay,h.1]
  have:=h.2;unfold cN at this;rw [e];omega
 ·have e:ay φ v=3:=by simp [ay,h.1]
  rw [e];decide
 ·rw [bF φ h.1];have:=R.place h.2;omega
theorem aH.new {n o:Int} (h:Ar.fits n o=true):aH (Wo.new n o) (Wd.new n o) id:=by
 have h':=h;simp [Ar.fits] at h';have no:∀ i,¬ (Wd.new n o).live i:=fun i hi=>by have:=hi.2.1;have:=hi.1;simp [Wd.new] at *;omega
 have hok:(Wo.new n o).ok:=by
  refine ⟨Ar.jX h,by simp [Wo.new],fun x hx=>?_,fun e he=>by simp [Wo.new] at he,fun e he=>by simp [Wo.new] at he,by simp [Wo.new],?_⟩
  ·simp [Wo.new] at hx;subst hx;unfold a9;omega
  ·simp [Wo.new,gC];omega
 have t1:Tile (Wo.new n o).ar [] 0 (Wo.new n o).ar.yng:=by simp [Wo.new,Ar.new,Tile]
 have t2:Tile (Wo.new n o).ar [] (Wo.new n o).ar.nur (Wo.new n o).ar.grn:=by simp [Wo.new,Ar.new,Tile]
 have ht:=Tile.aN hok.ha t1 t2;refine ⟨hok,Wd.jX (by omega) (by omega) (by omega) (by omega),by rw [ht];exact t1,by rw [ht];exact t2,fun i j hi=>(no i hi).elim,fun p hp=>?_,fun i hi=>(no i hi).elim,fun i hi=>(no i hi).elim,fun i hi=>(no i hi).elim,fun i hi=>(no i hi).elim,?_,rfl,rfl,?_,?_,?_,fun i hi=>(no i hi).elim⟩
 ·rw [ht] at hp;simp at hp
 ·simp [Wo.new,Wd.new,ay]
 ·simp [Wo.new,Ar.new,Wd.new];omega
 ·simp [Wo.new,Ar.new,Wd.new];omega
 ·simp [Wo.new,Wd.new]
theorem aH.cG (R:aH O W φ) {v:Vl} (hv:W.cC v) (r:Int):aH { O with rt:=O.rt.set r.toNat (ay φ v) } (W.cG r v) φ:=by
 refine ⟨⟨R.ho.ha,by simpa using R.ho.h12,fun x hx=>?_,R.ho.hg,R.ho.hw,R.ho.hq,R.ho.hc⟩,R.hw.cG hv r,R.ty,R.tz,R.inj,R.onto,R.iny,R.ino,R.th,R.fl,?_,R.rg,R.wt,R.nur,R.len,R.cl,R.card⟩
 ·rcases List.mem_or_eq_of_mem_set hx with h1 | rfl
  ·exact R.ho.hR x h1
  ·exact pK R hv
 ·show O.rt.set r.toNat (ay φ v)=(W.roots.set r.toNat v).map (ay φ)
  rw [R.rt,List.map_set]
def lq (n y:Int) (φ:Int→Int) (i:Int):Int:=if i=n then y else φ i
theorem cL {A B:Ar} {p:Int} (h:B.load p=A.load p):B.ai p=A.ai p:=by unfold Ar.ai;rw [h]
theorem aH.put (R:aH O W φ) {A':Ar} {k r:Int} {l:List Vl} (hA:A'.ok) (h1:A'.nur=O.ar.nur) (h2:A'.grn=O.ar.grn) (h3:A'.ws.length=O.ar.ws.length) (h4:(A'.yng:Int)=O.ar.yng+(1+l.length))
  (hq:∀ q,O.ar.aL q=true→A'.load q=O.ar.load q) (ht:A'.ai O.ar.yng=(k,(l.length:Int),0)) (hl:∀ (j:Nat) (v:Vl),l[j]? = some v→A'.load (O.ar.yng+1+j)=ay φ v)
  (hok:∀ v ∈ l,W.cC v) (hf:bm k l.length=true) :
  aH { O with ar:=A',rt:=O.rt.set r.toNat (4*O.ar.yng+1) } (W.put r k l) (lq W.T.length O.ar.yng φ):=by
 have hroom:1+(l.length:Int)≤W.most-W.az:=by
  have:=hA.h1;have:=R.sy;have:=R.nur;omega
 have aI:∀ {i},W.live i→¬ i=(W.T.length:Int):=fun hi e=>by have:=hi.2.1;omega
 have fe:∀ {i},W.live i→(lq W.T.length O.ar.yng φ) i=φ i:=fun hi=>if_neg (aI hi);have fn:(lq W.T.length O.ar.yng φ) (W.T.length:Int)=O.ar.yng:=if_pos rfl;have ee:∀ {v},W.cC v→ay (lq W.T.length O.ar.yng φ) v=ay φ v:=fun hv=>ei (fun h3=>fe (Wd.aY hv h3));have thp:∀ p,O.ar.aL p=true→A'.ai p=O.ar.ai p:=fun p hp=>cL (hq p hp);have tho:∀ {i},W.live i→(W.put r k l).th i=W.th i:=fun hi=>Wd.mf hi.1 hi.2.1;have useY:∀ p ∈ O.ar.aN.1,O.ar.aL p=true:=fun p hp=>by
  have:=R.ty.pJ hp (j:=0) (by omega) (O.ar.aO p).1;rw [Int.add_zero] at this;unfold Ar.aL;rw [this];rfl
 have useO:∀ p ∈ O.ar.aN.2,O.ar.aL p=true:=fun p hp=>by
  have:=R.tz.tm hp (j:=0) (by omega) (O.ar.aO p).1;rw [Int.add_zero] at this;unfold Ar.aL;rw [this];simp
 have t1:Tile A' (O.ar.aN.1 ++ [(O.ar.yng:Int)]) 0 A'.yng:=by
  refine Tile.app (Tile.congr (fun p hp=>thp p (useY p hp)) R.ty) ⟨rfl,by rw [ht],?_⟩;rw [ht]
  show (O.ar.yng:Int)+1+l.length=A'.yng
  omega
 have t2:Tile A' O.ar.aN.2 A'.nur A'.grn:=by rw [h1,h2];exact Tile.congr (fun p hp=>thp p (useO p hp)) R.tz
 have hth:=Tile.aN hA t1 t2;have nl:(W.put r k l).live W.T.length:=by
  refine ⟨by omega,by simp [Wd.put];omega,?_⟩;rw [Wd.eP]
 have lt:∀ {i},W.live i→φ i≠O.ar.yng:=fun {i} hi e=>by
  have:=R.use hi (j:=0) (by omega) (by omega);rw [Int.add_zero] at this;unfold Ar.aL at this;have h1':=R.ho.ha.h1;have h5:=hA.h1;rw [h1] at h5;rw [Bool.or_eq_true,Go.Proofs.YtjifdalflepcoacGreat.bP,Go.Proofs.YtjifdalflepcoacGreat.c6] at this;omega
 refine ⟨⟨hA,by simpa using R.ho.h12,fun x hx=>?_,R.ho.hg,R.ho.hw,R.ho.hq,R.ho.hc⟩,R.hw.put hf hok hroom,by rw [hth];exact t1,by rw [hth];exact t2,fun i j hi hj e=>?_,fun p hp=>?_,fun i hi ho=>?_,fun i hi ho=>?_,fun i hi=>?_,fun i hi j v hv=>?_,?_,?_,?_,?_,?_,R.cl,fun i hi ho v hv h3' hy=>?_⟩
 ·rcases List.mem_or_eq_of_mem_set hx with h5 | rfl
  ·exact R.ho.hR x h5
  ·have:=R.ho.ha.h1;have:=R.ho.ha.h2;have:=R.ho.ha.h3;have:=R.ho.ha.h4;unfold a9;omega
 ·rcases Wd.gj hi with hi | rfl <;> rcases Wd.gj hj with hj | rfl
  ·rw [fe hi,fe hj] at e;exact R.inj i j hi hj e
  ·rw [fe hi,fn] at e;exact (lt hi e).elim
  ·rw [fe hj,fn] at e;exact (lt hj e.symm).elim
  ·rfl
 ·rw [hth] at hp;dsimp only at hp;rw [List.mem_append,List.mem_singleton] at hp;rcases hp with (h5 | rfl) | h5
  ·obtain ⟨i,hi,rfl⟩:=R.onto p (.inl h5);exact ⟨i,Wd.jB hi,fe hi⟩
  ·exact ⟨_,nl,fn⟩
  ·obtain ⟨i,hi,rfl⟩:=R.onto p (.inr h5);exact ⟨i,Wd.jB hi,fe hi⟩
 ·rw [hth];rcases Wd.gj hi with hi | rfl
  ·rw [tho hi] at ho;rw [fe hi];exact List.mem_append_left _ (R.iny i hi ho)
  ·rw [fn];simp
 ·rw [hth];rcases Wd.gj hi with hi | rfl
  ·rw [tho hi] at ho;rw [fe hi];exact R.ino i hi ho
  ·rw [Wd.eP] at ho;cases ho
 ·rcases Wd.gj hi with hi | rfl
  ·have:=R.use hi (j:=0) (by omega) (by omega);rw [Int.add_zero] at this;rw [fe hi,tho hi];exact (thp _ this).trans (R.th i hi)
  ·rw [fn,Wd.eP];exact ht
 ·rcases Wd.gj hi with hi | rfl
  ·rw [tho hi] at hv;have hj:j<(W.th i).fs.length:=(List.getElem?_eq_some_iff.1 hv).1;have:=R.use hi (j:=1+j) (by omega) (by omega);rw [←Int.add_assoc] at this;rw [fe hi,ee (R.hw.tv i hi v (List.mem_of_getElem? hv))];exact (hq _ this).trans (R.fl i hi j v hv)
  ·rw [Wd.eP] at hv;rw [fn,ee (hok v (List.mem_of_getElem? hv))];exact hl j v hv
 ·show O.rt.set r.toNat (4*O.ar.yng+1)=(W.roots.set r.toNat (gY W.T.length)).map _
  rw [List.map_set,R.rt];congr 1
  ·exact List.map_congr_left fun v hv=>(ee (R.hw.rv v hv)).symm
  ·show _=ay _ (3,(W.T.length:Int))
   rw [bF _ rfl];dsimp only;rw [fn]
 ·show O.rg=W.ah.map _
  rw [R.rg];exact List.map_congr_left fun e he=>by have:=R.hw.gv e he;unfold bp;rw [fe this.1,fe this.2.2]
 ·show O.wt=W.wait.map _
  rw [R.wt];exact List.map_congr_left fun e he=>by have:=R.hw.wv e he;unfold bp;rw [fe this.1,fe this.2.2]
 ·show (A'.nur:Int)=W.most;rw [h1];exact R.nur
 ·show (A'.ws.length:Int)=W.most+W.grow;rw [h3];exact R.len
 ·show de A'.nur O.cd _=true
  rcases Wd.gj hi with hi | rfl
  ·rw [tho hi] at ho hv;have hl3:=Wd.aY (R.hw.tv i hi v hv) h3';rw [tho hl3] at hy;rw [fe hi,h1];exact R.card i hi ho v hv h3' hy
  ·rw [Wd.eP] at ho;cases ho
theorem yx {l m:List Int} {i:Nat} {x:Int} (h:i+(x :: m).length≤l.length):(lay l i (x :: m)).getD i 0=x:=by
 rw [jz h,if_pos ⟨Nat.le_refl _,by simp⟩];simp
theorem Ar.vR {A:Ar} (hA:A.ok) {k f:Int} (h:bm k f=true∧1+f≤(A.nur:Int)-A.yng) :
  (∀ q,A.aL q=true→(A.make k f).2.load q=A.load q)∧(A.make k f).2.load A.yng=16*f+k∧(∀ j:Int,0≤j→j<f→(A.make k f).2.load (A.yng+1+j)=2)∧((A.make k f).2.yng:Int)=A.yng+(1+f) ∧
  (A.make k f).2.nur=A.nur∧(A.make k f).2.grn=A.grn∧(A.make k f).2.ws.length=A.ws.length:=by
 have hf:=bK h.1;have hl:=j9 (k:=k) hf.2.2.1;have a1:=hA.h1;have a2:=hA.h2;have a3:=hA.h3;have hle:A.yng+(ft k f).length≤A.ws.length:=by rw [hl];omega
 rw [Ar.pt h];have hload:∀ q:Int,0≤q→q<A.yng+(1+f)→Ar.load { A with yng:=A.yng+(1+f).toNat,ws:=lay A.ws A.yng (ft k f) } q=(lay A.ws A.yng (ft k f)).getD q.toNat 0:=by
  intro q h0 h1;unfold Ar.load;rw [if_pos];unfold Ar.aL;rw [Bool.or_eq_true];left;rw [bP];refine ⟨h0,?_⟩
  show q<((A.yng+(1+f).toNat:Nat):Int)
  omega
 refine ⟨fun q hq=>?_,?_,fun j h0 h1=>?_,?_,rfl,rfl,?_⟩
 ·have hu:Ar.aL { A with yng:=A.yng+(1+f).toNat,ws:=lay A.ws A.yng (ft k f) } q=true:=by
   unfold Ar.aL at *;rw [Bool.or_eq_true] at *;rw [bP,c6] at *;dsimp only;omega
  unfold Ar.load;rw [hu,hq];simp only [if_true];rw [jz hle,if_neg];rw [hl];unfold Ar.aL at hq;rw [Bool.or_eq_true,bP,c6] at hq;omega
 ·rw [hload _ (by omega) (by omega)];unfold ft at *;rw [Int.toNat_natCast];exact yx hle
 ·rw [hload _ (by omega) (by omega),jz hle,if_pos (by rw [hl];omega)];unfold ft;rw [show ((A.yng:Int)+1+j).toNat-A.yng=j.toNat+1 by omega,List.getD_cons_succ];simp only [Ld];rw [List.getElem?_replicate,if_pos (by omega)];rfl
 ·dsimp only;omega
 ·dsimp only;exact dQ hle
theorem xh {k f:Int} (h:bm k f=true):fq (16*f+k)=(k,f,0):=by
 have hf:=bK h;unfold fq;rw [show (16*f+k)%16=k by omega,show (16*f+k)/16=f by omega,if_pos h]
theorem qB {base:Int} {l:List Bool} {p:Int}:de base l p=true↔base≤p∧(p-base)/8<l.length∧l.getD ((p-base)/8).toNat false=true:=by
 unfold de;rw [Bool.and_eq_true,decide_eq_true_eq];unfold b9;by_cases c:base≤p∧(p-base)/8<l.length
 ·rw [if_pos c];constructor
  ·rintro ⟨_,h⟩;exact ⟨c.1,c.2,h⟩
  ·rintro ⟨_,_,h⟩;exact ⟨by omega,h⟩
 ·rw [if_neg c];constructor
  ·rintro ⟨h,_⟩;omega
  ·rintro ⟨h1,h2,_⟩;exact absurd ⟨h1,h2⟩ c
theorem uv {base:Int} {l:List Bool} {p:Int} (q:Int) (h:de base l p=true):de base (gR base l q) p=true:=by
 rw [qB] at *;rw [gX];refine ⟨h.1,h.2.1,?_⟩;unfold gR;split
 ·rw [Ld,List.getElem?_set];split
  ·split
   ·rfl
   ·rename_i h1 h2;omega
  ·rw [←Ld];exact h.2.2
 ·exact h.2.2
theorem uw {base:Int} {l:List Bool} {p:Int} (h1:base≤p) (h2:(p-base)/8<l.length):de base (gR base l p) p=true:=by
 have hc:b9 base l.length p=(p-base)/8:=by unfold b9;rw [if_pos ⟨h1,h2⟩]
 rw [qB,gX];refine ⟨h1,h2,?_⟩;unfold gR;rw [hc,if_pos (by omega),Ld,List.getElem?_set,if_pos rfl,if_pos (by omega)];rfl
theorem aH.aV (R:aH O W φ) {v:Vl} (hv:W.cC v):O.ar.aV (ay φ v)=if v.1=3 then (φ v.2,(W.th v.2).k,((W.th v.2).fs.length:Int),0) else (0,0,0,2):=by
 unfold Ar.aV;by_cases h3:v.1=3
 ·rw [if_pos h3];have e:=bF φ h3;have e4:ay φ v/4=φ v.2:=by rw [e];omega
  rw [e4,R.th _ (Wd.aY hv h3),if_pos ⟨(fM hv).2 h3,rfl⟩]
 ·rw [if_neg h3,if_neg (fun h=>h3 ((fM hv).1 h.1))]
theorem aH.get (R:aH O W φ) {v:Vl} (hv:W.cC v) (i:Int):O.ar.get (ay φ v) i =
  if v.1≠3∨(W.th v.2).k=5 then (0,2) else if i<0∨((W.th v.2).fs.length:Int)≤i then (0,1) else (ay φ ((W.th v.2).fs.getD i.toNat (0,0)),0):=by
 unfold Ar.get;rw [R.aV hv];by_cases h3:v.1=3
 ·rw [if_pos h3];dsimp only;by_cases hk:(W.th v.2).k=5
  ·rw [if_pos (.inr hk),if_pos (.inr hk)]
  ·have c0:¬ ((0:Int)≠0∨(W.th v.2).k=5):=fun h=>by rcases h with h | h;exact h rfl;exact hk h
   have c1:¬ (v.1≠3∨(W.th v.2).k=5):=fun h=>by rcases h with h | h;exact h h3;exact hk h
   rw [if_neg c0,if_neg c1];by_cases hi:i<0∨((W.th v.2).fs.length:Int)≤i
   ·rw [if_pos hi,if_pos hi]
   ·rw [if_neg hi,if_neg hi];have hlt:i.toNat<(W.th v.2).fs.length:=by omega
    have:=R.fl v.2 (Wd.aY hv h3) i.toNat _ (Le hlt);rw [show ((i.toNat:Nat):Int)=i by omega] at this;have e4:ay φ v/4=φ v.2:=by rw [bF φ h3];omega
    rw [e4,this,Ld,Le hlt];rfl
 ·rw [if_neg h3,if_pos (.inl (by decide)),if_pos (.inl h3)]
theorem aH.dg (R:aH O W φ) {a i:Int} {u:Vl} (ha:W.live a) (h0:0≤i) (h1:i<(W.th a).fs.length) (hu:W.cC u) {cd:List Bool}
  (hc1:cd.length=O.cd.length) (hc2:∀ p,de O.ar.nur O.cd p=true→de O.ar.nur cd p=true) (hc3:u.1=3→(W.th u.2).aI=false→(W.th a).aI=true→de O.ar.nur cd (φ a)=true) :
  aH { O with ar:=O.ar.store (φ a+1+i) (ay φ u),cd:=cd } (W.dg a ((W.th a).fs.set i.toNat u)) φ:=by
 have hlv:=fun j=>Wd.gZ (fs:=(W.th a).fs.set i.toNat u) ha j;have hth:∀ {j},W.live j→(W.dg a ((W.th a).fs.set i.toNat u)).th j=if j=a then { W.th a with fs:=(W.th a).fs.set i.toNat u } else W.th j:=fun hj=>Wd.jC hj.1 ha;have hold:∀ {j},W.live j→((W.dg a ((W.th a).fs.set i.toNat u)).th j).aI=(W.th j).aI:=fun hj=>by
  rw [hth hj];split
  ·rename_i e;subst e;rfl
  ·rfl
 have huse:O.ar.aL (φ a+1+i)=true:=by rw [Int.add_assoc];exact R.use ha (by omega) (by omega)
 have hload:=fun q=>Ar.eR R.ho.ha (φ a+1+i) q (ay φ u);have hst:∀ j,W.live j→(O.ar.store (φ a+1+i) (ay φ u)).ai (φ j)=O.ar.ai (φ j):=fun j hj=>by
  refine cL ?_;rw [hload,if_neg];rintro ⟨e,_⟩;by_cases ej:j=a
  ·subst ej;omega
  ·have:=R.apart hj ha ej;omega
 have hok:(O.ar.store (φ a+1+i) (ay φ u)).ok:=R.ho.ha.store _ _ (pK R hu);have tp:∀ p,p ∈ O.ar.aN.1∨p ∈ O.ar.aN.2→(O.ar.store (φ a+1+i) (ay φ u)).ai p=O.ar.ai p:=fun p hp=>by
  obtain ⟨j,hj,rfl⟩:=R.onto p hp;exact hst j hj
 have t1:Tile (O.ar.store (φ a+1+i) (ay φ u)) O.ar.aN.1 0 (O.ar.store (φ a+1+i) (ay φ u)).yng:=by
  rw [Ar.fy];exact Tile.congr (fun p hp=>tp p (.inl hp)) R.ty
 have t2:Tile (O.ar.store (φ a+1+i) (ay φ u)) O.ar.aN.2 (O.ar.store (φ a+1+i) (ay φ u)).nur (O.ar.store (φ a+1+i) (ay φ u)).grn:=by
  rw [Ar.cU,Ar.dG];exact Tile.congr (fun p hp=>tp p (.inr hp)) R.tz
 have hthi:=Tile.aN hok t1 t2;refine ⟨⟨hok,R.ho.h12,R.ho.hR,R.ho.hg,R.ho.hw,R.ho.hq,by show cd.length≤1000;rw [hc1];exact R.ho.hc⟩,R.hw.dg ha (by simp) (fun v hv=>?_),by rw [hthi];exact t1,by rw [hthi];exact t2,
  fun j k hj hk e=>R.inj j k ((hlv j).1 hj) ((hlv k).1 hk) e,fun p hp=>?_,fun j hj ho=>?_,fun j hj ho=>?_,fun j hj=>?_,fun j hj n v hv=>?_,R.rt,R.rg,R.wt,?_,?_,by show cd.length=_;rw [hc1];exact R.cl,fun j hj ho v hv h3 hy=>?_⟩
 ·rcases List.mem_or_eq_of_mem_set hv with h5 | rfl
  ·exact R.hw.tv a ha v h5
  ·exact hu
 ·rw [hthi] at hp;obtain ⟨j,hj,e⟩:=R.onto p hp;exact ⟨j,(hlv j).2 hj,e⟩
 ·rw [hthi];have hj':=(hlv j).1 hj;rw [hold hj'] at ho;exact R.iny j hj' ho
 ·rw [hthi];have hj':=(hlv j).1 hj;rw [hold hj'] at ho;exact R.ino j hj' ho
 ·have hj':=(hlv j).1 hj
  show (O.ar.store _ _).ai (φ j)=_
  rw [hst j hj',R.th j hj',hth hj'];split
  ·rename_i e;subst e;simp
  ·rfl
 ·have hj':=(hlv j).1 hj;rw [hth hj'] at hv
  show (O.ar.store _ _).load _=_
  rw [hload];by_cases e:j=a
  ·subst e;rw [if_pos rfl] at hv;dsimp only at hv;rw [List.getElem?_set] at hv;by_cases en:i.toNat=n
   ·rw [if_pos en] at hv;subst en;rw [if_pos (by omega)] at hv;cases hv;rw [if_pos ⟨by omega,huse⟩]
   ·rw [if_neg en] at hv;rw [if_neg (fun h=>by omega)];exact R.fl j hj' n v hv
  ·rw [if_neg e] at hv;have hn:n<(W.th j).fs.length:=(List.getElem?_eq_some_iff.1 hv).1;have:=R.apart hj' ha e;rw [if_neg (fun h=>by omega)];exact R.fl j hj' n v hv
 ·show ((O.ar.store _ _).nur:Int)=W.most;rw [Ar.cU];exact R.nur
 ·show ((O.ar.store _ _).ws.length:Int)=W.most+W.grow;rw [Ar.lH];exact R.len
 ·show de (O.ar.store _ _).nur cd (φ j)=true
  rw [Ar.cU];have hj':=(hlv j).1 hj;rw [hold hj'] at ho;have inF:∀ w ∈ (W.th j).fs,w=v→de O.ar.nur cd (φ j)=true:=fun w hw e=>by
   subst e;have hl3:=Wd.aY (R.hw.tv j hj' w hw) h3;rw [hold hl3] at hy;exact hc2 _ (R.card j hj' ho w hw h3 hy)
  rw [hth hj'] at hv;by_cases e:j=a
  ·subst e;rw [if_pos rfl] at hv;rcases List.mem_or_eq_of_mem_set hv with h5 | rfl
   ·exact inF v h5 rfl
   ·rw [hold (Wd.aY hu h3)] at hy;exact hc3 h3 hy ho
  ·rw [if_neg e] at hv;exact inF v hv rfl
theorem aH.set (R:aH O W φ) {v u:Vl} (hv:W.cC v) (hu:W.cC u) (i:Int) :
  (O.set (ay φ v) i (ay φ u)).1=(if v.1≠3∨(W.th v.2).k=5 then 2 else if i<0∨((W.th v.2).fs.length:Int)≤i then 1 else 0) ∧
  ((O.set (ay φ v) i (ay φ u)).1≠0→(O.set (ay φ v) i (ay φ u)).2=O) ∧
  ((O.set (ay φ v) i (ay φ u)).1=0→aH (O.set (ay φ v) i (ay φ u)).2 (W.dg v.2 ((W.th v.2).fs.set i.toNat u)) φ):=by
 have hg:=R.get hv i;by_cases hc:(O.ar.get (ay φ v) i).2=0
 ·rw [Wo.yn hc];rw [hg] at hc;by_cases c1:v.1≠3∨(W.th v.2).k=5
  ·rw [if_pos c1] at hc;cases hc
  ·rw [if_neg c1] at hc ⊢;by_cases c2:i<0∨((W.th v.2).fs.length:Int)≤i
   ·rw [if_pos c2] at hc;cases hc
   ·rw [if_neg c2];refine ⟨rfl,fun h=>(h rfl).elim,fun _=>?_⟩;have h3:v.1=3:=Decidable.byContradiction fun h=>c1 (.inl h);have ha:=Wd.aY hv h3;have e4:ay φ v/4=φ v.2:=by rw [bF φ h3];omega
    dsimp only;rw [e4];have hst:∀ p q x,(O.ar.store q x).az p=O.ar.az p∧(O.ar.store q x).aI p=O.ar.aI p:=fun p q x=>by
     unfold Ar.az Ar.aI;rw [Ar.fy,Ar.cU,Ar.dG];exact ⟨rfl,rfl⟩
    refine R.dg ha (by omega) (by omega) hu ?_ (fun p hp=>?_) (fun hu3 huo hao=>?_)
    ·split
     ·exact gX _ _ _
     ·rfl
    ·split
     ·exact uv _ hp
     ·exact hp
    ·have hul:=Wd.aY hu hu3;have e5:ay φ u/4=φ u.2:=by rw [bF φ hu3];omega
     rw [if_pos ⟨(fM hu).2 hu3,by rw [(hst _ _ _).1,e5];exact (R.bP hul).2 huo,by rw [(hst _ _ _).2];exact (R.c6 ha).2 hao⟩];have hp:=(R.c6 ha).2 hao;rw [Go.Proofs.YtjifdalflepcoacGreat.c6] at hp;have hl:=R.len;have hn:=R.nur;have hcl:=R.cl;have h3':=R.ho.ha.h3;have hg1:=R.hw.g1;refine uw hp.1 ?_;rw [hcl];unfold gC;omega
 ·rw [Wo.zQ hc];rw [hg] at hc ⊢;by_cases c1:v.1≠3∨(W.th v.2).k=5
  ·rw [if_pos c1,if_pos c1];exact ⟨rfl,fun _=>rfl,fun h=>by cases h⟩
  ·rw [if_neg c1] at hc ⊢;rw [if_neg c1];by_cases c2:i<0∨((W.th v.2).fs.length:Int)≤i
   ·rw [if_pos c2,if_pos c2];exact ⟨rfl,fun _=>rfl,fun h=>by cases h⟩
   ·rw [if_neg c2] at hc;exact (hc rfl).elim
theorem aH.fT (R:aH O W φ) {e:Int × Int} (he:W.dD e) (hr:W.ah.length+W.wait.length<24):aH { O with rg:=O.rg ++ [bp φ e] } { W with ah:=W.ah ++ [e] } φ:=by
 have hle:=R.place he.1;have hle2:=R.place he.2.2;refine ⟨⟨R.ho.ha,R.ho.h12,R.ho.hR,fun x hx=>?_,R.ho.hw,?_,R.ho.hc⟩,?_,R.ty,R.tz,R.inj,R.onto,R.iny,R.ino,R.th,R.fl,R.rt,?_,R.wt,R.nur,R.len,R.cl,R.card⟩
 ·rcases List.mem_append.1 hx with h1 | h1
  ·exact R.ho.hg x h1
  ·rw [List.mem_singleton.1 h1];unfold bp rn a9;dsimp only;omega
 ·have h1:O.rg.length=W.ah.length:=by rw [R.rg];simp
  have h2:O.wt.length=W.wait.length:=by rw [R.wt];simp
  simp;omega
 ·have h:=R.hw;refine ⟨h.hr,h.rv,h.tk,h.tv,fun x hx=>?_,h.wv,by simp;omega,h.m1,h.m2,h.g1,h.g2,h.uy,h.uo⟩;rcases List.mem_append.1 hx with h1 | h1
  ·exact h.gv x h1
  ·rw [List.mem_singleton.1 h1];exact he
 ·show O.rg ++ [bp φ e]=(W.ah ++ [e]).map (bp φ)
  rw [R.rg];simp
end
end
section
def g8 (x:Int):Int:=IntKind.i64.wrap (4*x+1)
def aW (A:Ar) (x:Int):Bool:=!(decide (x%4=1) && A.az (x/4)) || decide (A.load (x/4)<0)
def cQ (A:Ar) (x:Int):Int:=if x%4=1∧A.az (x/4)=true∧A.load (x/4)<0 then g8 (-1-A.load (x/4)) else x
def bD (A:Ar) (x:Int):Ar:=if aW A x=true then A else (A.copy (x/4)).2.store (x/4) (-1-(A.copy (x/4)).1)
def fA (A:Ar) (i:Int):Ar:=(bD A (A.load i)).store i (cQ (bD A (A.load i)) (A.load i))
def mFields:Nat→Ar→Int→Ar
 | 0,A,_=>A
 | n+1,A,i=>mFields n (fA A i) (i+1)
structure Ms where
 A:Ar
 wk:List Int
 ep:List Int
def eu (s:Ms) (i:Int):Ms:=
 if (s.A.ai i).1=1∨(s.A.ai i).1=2 then { s with A:=mFields (s.A.ai i).2.1.toNat s.A (i+1) }
 else if (s.A.ai i).1=3 then ⟨fA s.A (i+2),s.wk ++ [i],s.ep⟩
 else if (s.A.ai i).1=4 then { s with ep:=s.ep ++ [i] }
 else s
def mScan:Nat→Ms→Int→Ms × Int
 | 0,s,c=>(s,c)
 | n+1,s,c=>if c<s.A.grn then mScan n (eu s c) (c+(1+(s.A.ai c).2.1)) else (s,c)
def jQ (A:Ar) (i:Int):Ar:=if aW A (A.load (i+1))=true then fA (fA A (i+1)) (i+2) else A
def gm (A:Ar) (l:List Int):Ar:=l.foldl jQ A
def i3 (A:Ar) (x:Int):Ar × Int:=(bD A x,cQ (bD A x) x)
structure Md where
 s:Ms
 c:Int
 q:List (Int × Int)
def bE (d:Md):Md:=
 let r:=mScan 2000 d.s d.c
 let w:=wakeM aW i3 (gm r.1.A r.1.ep) d.q
 ⟨{ r.1 with A:=w.1 },r.2,w.2.1⟩
def mDrain:Nat→Md→Md
 | 0,d=>d
 | n+1,d=>if (bE d).c<(bE d).s.A.grn then mDrain n (bE d) else bE d
abbrev Mt:=Ms × Int
def bL (t:Mt) (x:Int):Bool:=aW t.1.A x
def fh (t:Mt) (x:Int):Int:=cQ t.1.A x
def gE (t:Mt) (q:List (Int × Int)) (x:Int):Mt × List (Int × Int) × Int:=
 let d:=mDrain 2000 ⟨{ t.1 with A:=bD t.1.A x },t.2,q⟩
 ((d.s,d.c),d.q,cQ (bD t.1.A x) x)
def gO (A:Ar) (i:Int) (dead:Bool):Ar:=A.store i (if dead then 3 else cQ A (A.load i))
def fB (A:Ar) (l:List Int):Ar:=l.foldl (fun A i=>gO A (i+1) (!aW A (A.load (i+1)))) A
def cX (A:Ar) (i:Int):Ar:=gO (gO A (i+1) (!aW A (A.load (i+1)))) (i+2) (!aW A (A.load (i+1)))
def jR (s:Ms):Ar:=s.ep.foldl cX (fB s.A s.wk)
def mRoots (A:Ar):List Int→Ar × List Int
 | []=>(A,[])
 | x :: l=>((mRoots (bD A x) l).1,cQ (bD A x) x :: (mRoots (bD A x) l).2)
def eD (base:Int) (cd:List Bool) (s:Ms) (l:List Int):Ms:=l.foldl (fun s i=>if de base cd i=true then eu s i else s) s
def iB (O:Wo):Md:=
 mDrain 2000 ⟨eD O.ar.nur O.cd ⟨(mRoots O.ar O.rt).1,[],[]⟩ O.ar.aN.2,O.ar.grn,O.wt⟩
def bI (O:Wo):Mt × List (Int × Int) × List It:=dC bL gE ((iB O).s,(iB O).c) O.rg (iB O).q
def g9 (O:Wo):Int × Wo:=
 if (O.ar.yng:Int) > (O.ar.ws.length:Int)-O.ar.grn then (3,O)
 else (0,⟨(jR (bI O).1.1).clear,O.cd.map fun _=>false,(mRoots O.ar O.rt).2,
  bq bL fh (bI O).1 (bI O).2.2,bs bL fh (bI O).1 (bI O).2.1⟩)
structure Sm (A B:Ar):Prop where
 ok:B.ok
 nur:B.nur=A.nur
 yng:B.yng=A.yng
 len:B.ws.length=A.ws.length
 grn:A.grn≤B.grn
theorem Sm.refl {A:Ar} (h:A.ok):Sm A A:=⟨h,rfl,rfl,rfl,Nat.le_refl _⟩
theorem Sm.trans {A B C:Ar} (h:Sm A B) (k:Sm B C):Sm A C:=⟨k.ok,k.nur.trans h.nur,k.yng.trans h.yng,k.len.trans h.len,Nat.le_trans h.grn k.grn⟩
theorem Sm.store {A:Ar} (h:A.ok) (i:Int) {x:Int} (hx:a9 x):Sm A (A.store i x):=⟨h.store i x hx,A.cU i x,A.fy i x,A.lH i x,by rw [A.dG];exact Nat.le_refl _⟩
theorem Sm.copy {A:Ar} (h:A.ok) (i:Int):Sm A (A.copy i).2:=by
 refine ⟨h.copy i,?_,?_,?_,?_⟩
 all_goals unfold Ar.copy;dsimp only;split
 all_goals first | rfl | exact Nat.le_add_right _ _ | exact Nat.le_refl _ | skip
 rename_i hc;have hf:=A.aO i;have hs:=Ar.kx h hf.1 hc.2.1;have:=h.h1;have:=h.h2;have:=h.h3;exact dQ (by simp;omega)
theorem Ar.qC {A:Ar} (h:A.ok) (i:Int):-1≤(A.copy i).1∧(A.copy i).1≤1280:=by
 have:=h.h3;have:=h.h4;unfold Ar.copy;dsimp only;split
 ·dsimp only;omega
 ·dsimp only;omega
theorem yy (x:Int):a9 (IntKind.i64.wrap x):=by
 unfold a9;rw [IntKind.wrap_i64];omega
theorem Sm.iI {A:Ar} (h:A.ok) (x:Int):Sm A (bD A x):=by
 unfold bD;split
 ·exact Sm.refl h
 ·have:=Ar.qC h (x/4);exact (Sm.copy h _).trans (Sm.store (h.copy _) _ (by unfold a9;omega))
theorem hH {A:Ar} {x:Int} (hx:a9 x):a9 (cQ A x):=by
 unfold cQ;split
 ·exact yy _
 ·exact hx
theorem Sm.field {A:Ar} (h:A.ok) (i:Int):Sm A (fA A i):=
 (Sm.iI h _).trans (Sm.store (Sm.iI h _).ok _ (hH (h.load i)))
theorem Sm.fields {A:Ar} (h:A.ok):∀ (n:Nat) (i:Int),Sm A (mFields n A i):=by
 intro n
 induction n generalizing A with
 | zero=>intro i;exact Sm.refl h
 | succ n ih=>intro i;exact (Sm.field h i).trans (ih (Sm.field h i).ok (i+1))
theorem Sm.look {s:Ms} (h:s.A.ok) (i:Int):Sm s.A (eu s i).A:=by
 unfold eu;split
 ·exact Sm.fields h _ _
 ·split
  ·exact Sm.field h _
  ·split <;> exact Sm.refl h
theorem Sm.scan:∀ (n:Nat) (s:Ms) (c:Int),s.A.ok→Sm s.A (mScan n s c).1.A
 | 0,s,c,h=>Sm.refl h
 | n+1,s,c,h=>by
  unfold mScan;split
  ·exact (Sm.look h c).trans (Sm.scan n _ _ (Sm.look h c).ok)
  ·exact Sm.refl h
theorem Sm.tr {A:Ar} (h:A.ok) (i:Int):Sm A (jQ A i):=by
 unfold jQ;split
 ·exact (Sm.field h _).trans (Sm.field (Sm.field h _).ok _)
 ·exact Sm.refl h
theorem Sm.qD:∀ (l:List Int) {A:Ar} (h:A.ok),Sm A (gm A l)
 | [],A,h=>Sm.refl h
 | i :: l,A,h=>(Sm.tr h i).trans (Sm.qD l (Sm.tr h i).ok)
theorem Sm.e6:∀ (l:List (Int × Int)) {A:Ar} (h:A.ok),Sm A (wakeM aW i3 A l).1
 | [],A,h=>Sm.refl h
 | e :: l,A,h=>by
  unfold wakeM;split
  ·exact (Sm.iI h e.2).trans (Sm.e6 l (Sm.iI h e.2).ok)
  ·exact Sm.e6 l h
theorem Sm.round (d:Md) (h:d.s.A.ok):Sm d.s.A (bE d).s.A:=by
 have h1:=Sm.scan 2000 d.s d.c h;have h2:=Sm.qD (mScan 2000 d.s d.c).1.ep h1.ok;exact (h1.trans h2).trans (Sm.e6 d.q h2.ok)
theorem Sm.fix {A:Ar} (h:A.ok) (i:Int) (b:Bool):Sm A (gO A i b):=by
 refine Sm.store h i ?_;split
 ·unfold a9;omega
 ·exact hH (h.load i)
theorem lL {τ:Type} (alive:τ→Int→Bool) (kp:τ→Int→τ × Int):∀ (l:List (Int × Int)) (t:τ),(wakeM alive kp t l).2.1.length=l.length
 | [],_=>rfl
 | e :: l,t=>by
  unfold wakeM;split
  ·simp [lL alive kp l]
  ·simp [lL alive kp l]
theorem mP:∀ (n:Nat) (d:Md),(mDrain n d).q.length=d.q.length
 | 0,d=>rfl
 | n+1,d=>by
  have h:(bE d).q.length=d.q.length:=lL _ _ _ _;unfold mDrain;split
  ·rw [mP n,h]
  ·exact h
end
section
def lr (φ ψ:Int→Int) (S:Int→Prop) (x:Int) (v:Vl):Prop:=x=ay φ v∨((v.1=3→S v.2)∧x=ay ψ v)
structure Cu (O:Wo) (W:Wd) (φ:Int→Int) (A:Ar) (S:Int→Prop) (ψ:Int→Int) (N:List Int):Prop where
 sm:Sm O.ar A
 sl:∀ i,S i→W.live i
 so:∀ i,W.live i→(W.th i).aI=true→S i
 po:∀ i,W.live i→(W.th i).aI=true→ψ i=φ i
 nd:N.Nodup
 nm:∀ i,i ∈ N↔S i∧(W.th i).aI=false
 iP:Tile A (N.map ψ) O.ar.grn A.grn
 th:∀ i,S i→A.ai (ψ i)=((W.th i).k,((W.th i).fs.length:Int),0)
 yet:∀ i,W.live i→(W.th i).aI=false→¬ S i→∀ j:Int,0≤j→j≤(W.th i).fs.length→A.load (φ i+j)=O.ar.load (φ i+j)
 fwd:∀ i ∈ N,A.load (φ i)=-1-ψ i
 fd:∀ i,S i→∀ (j:Nat) (v:Vl),(W.th i).fs[j]? = some v→lr φ ψ S (A.load (ψ i+1+j)) v
section
variable {O:Wo} {W:Wd} {φ ψ ψ':Int→Int} {A A':Ar} {S S':Int→Prop} {N N':List Int}
def Up (W:Wd) (A:Ar) (S:Int→Prop) (ψ:Int→Int) (i:Int) (j:Nat) (v:Vl):Prop:=(v.1=3→S v.2)∧A.load (ψ i+1+j)=ay ψ v
structure Ext (W:Wd) (A:Ar) (S:Int→Prop) (ψ:Int→Int) (N:List Int) (A':Ar) (S':Int→Prop) (ψ':Int→Int) (N':List Int):Prop where
 sub:∀ i,S i→S' i
 at_:∀ i,S i→ψ' i=ψ i
 pre:∃ m,N'=N ++ m
 up:∀ i,S i→∀ (j:Nat) (v:Vl),(W.th i).fs[j]? = some v→Up W A S ψ i j v→Up W A' S' ψ' i j v
 grn:A.grn≤A'.grn
theorem Ext.refl:Ext W A S ψ N A S ψ N:=⟨fun _ h=>h,fun _ _=>rfl,⟨[],by simp⟩,fun _ _ _ _ _ h=>h,Nat.le_refl _⟩
theorem Ext.trans {A2:Ar} {S2:Int→Prop} {ψ2:Int→Int} {N2:List Int} (h:Ext W A S ψ N A' S' ψ' N') (k:Ext W A' S' ψ' N' A2 S2 ψ2 N2):Ext W A S ψ N A2 S2 ψ2 N2:=by
 obtain ⟨m,e⟩:=h.pre;obtain ⟨m',e'⟩:=k.pre;exact ⟨fun i hi=>k.sub i (h.sub i hi),fun i hi=>(k.at_ i (h.sub i hi)).trans (h.at_ i hi),⟨m ++ m',by rw [e',e];simp⟩,fun i hi j v hv hu=>k.up i (h.sub i hi) j v hv (h.up i hi j v hv hu),Nat.le_trans h.grn k.grn⟩
theorem Ext.A9 (h:Ext W A S ψ N A' S' ψ' N') {x:Int} {v:Vl} (hw:lr φ ψ S x v):lr φ ψ' S' x v:=by
 rcases hw with h1 | ⟨h1,h2⟩
 ·exact .inl h1
 ·exact .inr ⟨fun h3=>h.sub _ (h1 h3),by rw [h2];exact (ei (fun h3=>h.at_ _ (h1 h3))).symm⟩
theorem lu {f:Int→Int}:∀ {l:List Int},(l.map f).Nodup→∀ {a b:Int},a ∈ l→b ∈ l→f a=f b→a=b
 | x :: l,h,a,b,ha,hb,e=>by
  simp only [List.map_cons,List.nodup_cons] at h;rcases List.mem_cons.1 ha with ea | ha'
  ·rcases List.mem_cons.1 hb with eb | hb'
   ·rw [ea,eb]
   ·rw [ea] at e;exact (h.1 (List.mem_map.2 ⟨b,hb',e.symm⟩)).elim
  ·rcases List.mem_cons.1 hb with eb | hb'
   ·rw [eb] at e;exact (h.1 (List.mem_map.2 ⟨a,ha',e⟩)).elim
   ·exact lu h.2 ha' hb' e
theorem Cu.ts (C:Cu O W φ A S ψ N) {i:Int} (hi:S i) (hn:¬ i ∈ N):(W.th i).aI=true:=by
 cases h:(W.th i).aI
 ·exact (hn ((C.nm i).2 ⟨hi,h⟩)).elim
 ·rfl
theorem Cu.place (R:aH O W φ) (C:Cu O W φ A S ψ N) {i:Int} (hi:S i) :
  (A.nur:Int)≤ψ i∧ψ i+1+(W.th i).fs.length≤A.grn∧(i ∈ N→(O.ar.grn:Int)≤ψ i)∧(¬ i ∈ N→ψ i+1+(W.th i).fs.length≤O.ar.grn):=by
 have hg:=C.sm.grn;have hn:=C.sm.nur;have h2:=R.ho.ha.h2;by_cases h:i ∈ N
 ·have:=C.iP.mem (ψ i) (List.mem_map.2 ⟨i,h,rfl⟩);rw [C.th i hi] at this;dsimp only at this;exact ⟨by omega,by omega,fun _=>by omega,fun h'=>(h' h).elim⟩
 ·have ho:=C.ts hi h;have hl:=C.sl i hi;have:=R.tz.mem _ (R.ino i hl ho);rw [R.th i hl] at this;dsimp only at this;rw [C.po i hl ho];exact ⟨by omega,by omega,fun h'=>(h h').elim,fun _=>by omega⟩
theorem Cu.vh (R:aH O W φ) (C:Cu O W φ A S ψ N) {i:Int} (hi:S i) {j:Int} (h0:0≤j) (h1:j≤(W.th i).fs.length):A.aI (ψ i+j)=true:=by
 have:=C.place R hi;rw [c6];omega
theorem Cu.rS (R:aH O W φ) (C:Cu O W φ A S ψ N) {i:Int} (hi:S i) {j:Int} (h0:0≤j) (h1:j≤(W.th i).fs.length):A.aL (ψ i+j)=true:=by
 unfold Ar.aL;rw [C.vh R hi h0 h1];simp
theorem Cu.apart (R:aH O W φ) (C:Cu O W φ A S ψ N) {i j:Int} (hi:S i) (hj:S j) (h:i≠j):ψ i+1+(W.th i).fs.length≤ψ j∨ψ j+1+(W.th j).fs.length≤ψ i:=by
 have pi:=C.place R hi;have pj:=C.place R hj;have ti:=C.th i hi;have tj:=C.th j hj;by_cases ni:i ∈ N <;> by_cases nj:j ∈ N
 ·have:=lp (f:=fun p=>(A.ai p).2.1) C.iP.apart (List.mem_map.2 ⟨i,ni,rfl⟩) (List.mem_map.2 ⟨j,nj,rfl⟩);rw [ti,tj] at this;dsimp only at this;rcases this with e | e | e
  ·exact (h (lu C.iP.nodup ni nj e)).elim
  ·exact .inl e
  ·exact .inr e
 ·have:=pi.2.2.1 ni;have:=pj.2.2.2 nj;omega
 ·have:=pi.2.2.2 ni;have:=pj.2.2.1 nj;omega
 ·have oi:=C.ts hi ni;have oj:=C.ts hj nj;have li:=C.sl i hi;have lj:=C.sl j hj;rw [C.po i li oi,C.po j lj oj];exact R.apart li lj h
theorem Cu.inj (R:aH O W φ) (C:Cu O W φ A S ψ N) {i j:Int} (hi:S i) (hj:S j) (e:ψ i=ψ j):i=j:=by
 by_cases h:i=j
 ·exact h
 ·have:=C.apart R hi hj h;omega
theorem iy {A B:Ar} {p q:Int} (h:B.load p=A.load q):B.ai p=A.ai q:=by unfold Ar.ai;rw [h]
theorem xj {A:Ar} {p:Int} (h:(A.ai p).2.2=0):0<A.load p:=by
 unfold Ar.ai fq at h;split at h
 ·rename_i hf;have:=bK hf;omega
 ·simp at h
theorem Cu.qE (R:aH O W φ) (C:Cu O W φ A S ψ N) {i:Int} (hl:W.live i) (ho:(W.th i).aI=false) (hs:¬ S i):A.load (φ i)=O.ar.load (φ i)∧0<A.load (φ i):=by
 have:=C.yet i hl ho hs 0 (by omega) (by omega);rw [Int.add_zero] at this;have h2:=R.th i hl;exact ⟨this,by rw [this];exact xj (by rw [h2])⟩
theorem Cu.i4 (R:aH O W φ) (C:Cu O W φ A S ψ N) {i:Int} (hl:W.live i):A.az (φ i)=true↔(W.th i).aI=false:=by
 have:A.az (φ i)=O.ar.az (φ i):=by unfold Ar.az;rw [C.sm.yng]
 rw [this];exact R.bP hl
theorem Cu.r6 (R:aH O W φ) (C:Cu O W φ A S ψ N) {i:Int} (hi:S i):A.az (ψ i)=false:=by
 have:=C.place R hi;have h1:=C.sm.ok.h1;cases h:A.az (ψ i)
 ·rfl
 ·rw [bP] at h;omega
theorem nV {A:Ar} {x:Int} (h:¬ x%4=1):aW A x=true:=by unfold aW;simp [h]
theorem qF {A:Ar} {x:Int} (h:¬ x%4=1):cQ A x=x:=if_neg (fun h'=>h h'.1)
theorem Cu.alive (R:aH O W φ) (C:Cu O W φ A S ψ N) {x:Int} {v:Vl} (hv:W.cC v) (hx:lr φ ψ S x v):aW A x=true↔(v.1=3→S v.2):=by
 by_cases h3:v.1=3
 ·have hl:=Wd.aY hv h3;rcases hx with rfl | ⟨hs,rfl⟩
  ·have e:=bF φ h3;have e4:ay φ v/4=φ v.2:=by rw [e];omega
   have e1:ay φ v%4=1:=by rw [e];omega
   unfold aW;rw [e4];cases ho:(W.th v.2).aI
   ·rw [(C.i4 R hl).2 ho];by_cases hs:S v.2
    ·have:=C.fwd v.2 ((C.nm _).2 ⟨hs,ho⟩);have hp:=C.place R hs;have h0:(0:Int)≤A.nur:=by omega
     simp [e1,this,hs];omega
    ·have:=(C.qE R hl ho hs).2;simp [e1,h3,hs];omega
   ·have:A.az (φ v.2)=false:=by
     cases h:A.az (φ v.2)
     ·rfl
     ·rw [C.i4 R hl,ho] at h;cases h
    rw [this];simp [C.so _ hl ho]
  ·have e:=bF ψ h3;have e4:ay ψ v/4=ψ v.2:=by rw [e];omega
   unfold aW;rw [e4,C.r6 R (hs h3)];simp [hs h3]
 ·have e:x=ay φ v:=by
   rcases hx with h | ⟨_,h⟩
   ·exact h
   ·rw [h];exact kH h3
  subst e;rw [nV (fun h=>h3 ((fM hv).1 h))];simp [h3]
theorem Cu.now (R:aH O W φ) (C:Cu O W φ A S ψ N) {x:Int} {v:Vl} (hv:W.cC v) (hx:lr φ ψ S x v) (hs:v.1=3→S v.2):cQ A x=ay ψ v:=by
 by_cases h3:v.1=3
 ·have hl:=Wd.aY hv h3;have hS:=hs h3;have hp:=C.place R hS;have hok:=C.sm.ok;have b1:=hok.h3;have b2:=hok.h4;have e':=bF ψ h3;rcases hx with rfl | ⟨_,rfl⟩
  ·have e:=bF φ h3;have e4:ay φ v/4=φ v.2:=by rw [e];omega
   have e1:ay φ v%4=1:=by rw [e];omega
   unfold cQ;rw [e4];cases ho:(W.th v.2).aI
   ·have hf:=C.fwd v.2 ((C.nm _).2 ⟨hS,ho⟩);rw [if_pos ⟨e1,(C.i4 R hl).2 ho,by rw [hf];omega⟩,hf,e'];unfold g8;rw [show 4*(-1-(-1-ψ v.2))+1=4*ψ v.2+1 by omega,IntKind.wrap_i64];omega
   ·have:¬ A.az (φ v.2)=true:=by rw [C.i4 R hl,ho];decide
    rw [if_neg (fun h=>this h.2.1),e,e',C.po _ hl ho]
  ·have e4:ay ψ v/4=ψ v.2:=by rw [e'];omega
   unfold cQ;rw [e4,C.r6 R hS,if_neg (fun h=>by cases h.2.1)]
 ·have e:x=ay φ v:=by
   rcases hx with h | ⟨_,h⟩
   ·exact h
   ·rw [h];exact kH h3
  subst e;rw [qF (fun h=>h3 ((fM hv).1 h))];exact kH h3
theorem Cu.room (R:aH O W φ) (C:Cu O W φ A S ψ N) (hr:(O.ar.yng:Int)≤(O.ar.ws.length:Int)-O.ar.grn) {i:Int} (hl:W.live i) (ho:(W.th i).aI=false) (hs:¬ S i) :
  1+((W.th i).fs.length:Int)≤(A.ws.length:Int)-A.grn:=by
 have hn:¬ i ∈ N:=fun h=>hs ((C.nm i).1 h).1;have h1:=C.iP.sum;rw [List.map_map] at h1;have e:N.map ((fun p=>1+(A.ai p).2.1) ∘ ψ)=N.map fun i=>(W.th i).words:=
  List.map_congr_left fun j hj=>by simp only [Function.comp];rw [C.th j ((C.nm j).1 hj).1];rfl
 rw [e] at h1;have h2:=mi (f:=fun i=>(W.th i).words) (fun i=>by unfold Th.words;omega) (l:=i :: N) (m:=W.idx false) (List.nodup_cons.2 ⟨hn,C.nd⟩) (by
  intro j hj;rcases List.mem_cons.1 hj with rfl | hj
  ·exact Wd.c8.2 ⟨hl,ho⟩
  ·have:=(C.nm j).1 hj;exact Wd.c8.2 ⟨C.sl j this.1,this.2⟩)
 rw [Wd.iZ] at h2;have h3:(dL W.T fun t=>!t.dead && (t.aI == false))=W.az:=by
  unfold Wd.az;congr 1
  funext t;cases t.aI <;> rfl
 rw [h3,←R.sy] at h2;simp only [List.map_cons,List.sum_cons] at h2;have h4:=C.sm.len;have h5:(W.th i).words=1+((W.th i).fs.length:Int):=rfl;omega
theorem Ar.vS {A:Ar} (hA:A.ok) {p:Int} (h:(A.ai p).2.2=0∧A.whole p (A.ai p).2.1=true∧1+(A.ai p).2.1≤(A.ws.length:Int)-A.grn) :
  (A.copy p).1=A.grn∧(∀ q,A.aL q=true→(A.copy p).2.load q=A.load q)∧(∀ j:Int,0≤j→j≤(A.ai p).2.1→(A.copy p).2.load (A.grn+j)=A.load (p+j))∧((A.copy p).2.grn:Int)=A.grn+(1+(A.ai p).2.1):=by
 have hf:=A.aO p;have hs:=Ar.kx hA hf.1 h.2.1;have a1:=hA.h1;have a2:=hA.h2;have a3:=hA.h3;have hl:((A.ws.drop p.toNat).take (1+(A.ai p).2.1).toNat).length=(1+(A.ai p).2.1).toNat:=by simp;omega
 have hle:A.grn+((A.ws.drop p.toNat).take (1+(A.ai p).2.1).toNat).length≤A.ws.length:=by rw [hl];omega
 rw [Ar.sN h];refine ⟨rfl,fun q hq=>?_,fun j h0 h1=>?_,by dsimp only;omega⟩
 ·have hu:Ar.aL { A with grn:=A.grn+(1+(A.ai p).2.1).toNat,ws:=lay A.ws A.grn ((A.ws.drop p.toNat).take (1+(A.ai p).2.1).toNat) } q=true:=by
   unfold Ar.aL at *;rw [Bool.or_eq_true] at *;rw [bP,c6] at *;dsimp only;omega
  unfold Ar.load;rw [hu,hq];simp only [if_true];rw [jz hle,if_neg];rw [hl];unfold Ar.aL at hq;rw [Bool.or_eq_true,bP,c6] at hq;omega
 ·have hu:Ar.aL { A with grn:=A.grn+(1+(A.ai p).2.1).toNat,ws:=lay A.ws A.grn ((A.ws.drop p.toNat).take (1+(A.ai p).2.1).toNat) } (A.grn+j)=true:=by
   unfold Ar.aL;rw [Bool.or_eq_true,c6];right;dsimp only;omega
  have hup:A.aL (p+j)=true:=by
   unfold Ar.whole at h;unfold Ar.aL;have h2:=h.2.1;simp only [Bool.or_eq_true,Bool.and_eq_true,bP,c6] at h2 ⊢;omega
  unfold Ar.load;rw [hu,hup];simp only [if_true];rw [jz hle,if_pos (by rw [hl];omega)];simp only [Ld];rw [List.getElem?_take,if_pos (by omega),List.getElem?_drop];congr 2;omega
end
end
section
section
variable {O:Wo} {W:Wd} {φ ψ ψ':Int→Int} {A A':Ar} {S S':Int→Prop} {N N':List Int}
def vT (O:Wo) (W:Wd) (φ:Int→Int) (A:Ar) (S:Int→Prop) (ψ:Int→Int) (N:List Int) (A':Ar) (Al:Int→Prop) (T:(Int→Prop)→(Int→Int)→List Int→Prop):Prop:=
 ∃ S' ψ' N',Cu O W φ A' S' ψ' N'∧Ext W A S ψ N A' S' ψ' N'∧(∀ k,S' k→S k∨Al k)∧T S' ψ' N'
theorem Cu.iI (R:aH O W φ) (C:Cu O W φ A S ψ N) (hr:(O.ar.yng:Int)≤(O.ar.ws.length:Int)-O.ar.grn) {x:Int} {v:Vl} (hv:W.cC v) (hx:lr φ ψ S x v) :
  vT O W φ A S ψ N (bD A x) (fun k=>v.1=3∧k=v.2) fun S' ψ' N'=>cQ (bD A x) x=ay ψ' v∧(v.1=3→S' v.2)∧∀ q,A.aI q=true→(bD A x).load q=A.load q:=by
 by_cases ha:aW A x=true
 ·have e:bD A x=A:=by unfold bD;rw [if_pos ha]
  have hs:=(C.alive R hv hx).1 ha;rw [e];exact ⟨S,ψ,N,C,Ext.refl,fun k hk=>.inl hk,C.now R hv hx hs,hs,fun _ _=>rfl⟩
 ·have hns:¬ (v.1=3→S v.2):=fun h=>ha ((C.alive R hv hx).2 h);have h3:v.1=3:=Decidable.byContradiction fun h=>hns (fun h'=>(h h').elim);have hs:¬ S v.2:=fun h=>hns (fun _=>h);obtain ⟨i,hi⟩:∃ i,v.2=i:=⟨_,rfl⟩;have hl:=Wd.aY hv h3;rw [hi] at hs hl;have ho:(W.th i).aI=false:=by
   cases h:(W.th i).aI
   ·rfl
   ·exact (hs (C.so i hl h)).elim
  have hxe:x=ay φ v:=by
   rcases hx with h | ⟨h,_⟩
   ·exact h
   ·exact (hns h).elim
  have e4:x/4=φ i:=by rw [hxe,bF φ h3,hi];omega
  have hA:=C.sm.ok;have hfl:=C.qE R hl ho hs;have hth:A.ai (φ i)=((W.th i).k,((W.th i).fs.length:Int),0):=(cL hfl.1).trans (R.th i hl);have hyA:∀ j:Int,0≤j→j≤(W.th i).fs.length→A.az (φ i+j)=true:=fun j h0 h1=>by
   have:=R.az hl ho h0 h1;unfold Ar.az at *;rw [C.sm.yng];exact this
  have hy0:A.az (φ i)=true:=by have:=hyA 0 (by omega) (by omega);rwa [Int.add_zero] at this
  have hcond:(A.ai (φ i)).2.2=0∧A.whole (φ i) (A.ai (φ i)).2.1=true∧1+(A.ai (φ i)).2.1≤(A.ws.length:Int)-A.grn:=by
   rw [hth];refine ⟨rfl,?_,C.room R hr hl ho hs⟩;unfold Ar.whole;rw [hy0,hyA _ (by omega) (Int.le_refl _)];rfl
  obtain ⟨c1,c2,c3,c4⟩:=Ar.vS hA hcond;rw [hth] at c3 c4;dsimp only at c3 c4;have hB:(A.copy (φ i)).2.ok:=hA.copy _;obtain ⟨B,hBe⟩:∃ B,(A.copy (φ i)).2=B:=⟨_,rfl⟩;have e:bD A x=B.store (φ i) (-1-A.grn):=by
   unfold bD;rw [if_neg ha,e4,c1,hBe]
  rw [hBe] at c2 c3 c4 hB;have hsB:Sm A B:=by rw [←hBe];exact Sm.copy hA _
  have hsm:Sm O.ar (bD A x):=C.sm.trans (Sm.iI hA x);have hp:=R.place hl;have y0:=bP.1 hy0;have a1:=hA.h1;have a2:=hA.h2;have useB:B.aL (φ i)=true:=by unfold Ar.aL;rw [Bool.or_eq_true,bP,hsB.yng];exact .inl y0
  have hload:=fun q=>Ar.eR hB (φ i) q (-1-(A.grn:Int));have hlo:∀ q,q≠φ i→(B.store (φ i) (-1-(A.grn:Int))).load q=B.load q:=fun q hq=>by rw [hload,if_neg (fun h=>hq h.1)]
  have hlq:∀ q,A.aL q=true→q≠φ i→(B.store (φ i) (-1-(A.grn:Int))).load q=A.load q:=fun q hq h=>(hlo q h).trans (c2 q hq);have hold:∀ q,A.aI q=true→(B.store (φ i) (-1-(A.grn:Int))).load q=A.load q:=fun q hq=>by
   refine hlq q (by unfold Ar.aL;rw [hq];simp) ?_;have:=c6.1 hq;omega
  have hnew:∀ j:Int,0≤j→j≤(W.th i).fs.length→(B.store (φ i) (-1-(A.grn:Int))).load (A.grn+j)=O.ar.load (φ i+j):=fun j h0 h1=>by
   rw [hlo _ (by omega),c3 j h0 h1,C.yet i hl ho hs j h0 h1]
  rw [e];rw [e] at hsm;have hni:¬ i ∈ N:=fun h=>hs ((C.nm i).1 h).1;have fe:∀ k,k≠i→lq i A.grn ψ k=ψ k:=fun k hk=>if_neg hk;have fi:lq i A.grn ψ i=A.grn:=if_pos rfl;have fS:∀ k,S k→lq i A.grn ψ k=ψ k:=fun k hk=>fe k (fun h=>hs (h ▸ hk));have hgr:((B.store (φ i) (-1-(A.grn:Int))).grn:Int)=A.grn+(1+(W.th i).fs.length):=by rw [Ar.dG];exact c4
  have hti:(B.store (φ i) (-1-(A.grn:Int))).ai A.grn=((W.th i).k,((W.th i).fs.length:Int),0):=by
   have:=hnew 0 (by omega) (by omega);rw [Int.add_zero,Int.add_zero] at this;exact (iy this).trans (R.th i hl)
  have hts:∀ k,S k→(B.store (φ i) (-1-(A.grn:Int))).ai (ψ k)=A.ai (ψ k):=fun k hk=>by
   refine cL (hold _ ?_);have:=C.vh R hk (j:=0) (by omega) (by omega);rwa [Int.add_zero] at this
  have wr:∀ {y:Int} {u:Vl},lr φ ψ S y u→lr φ (lq i A.grn ψ) (fun k=>S k∨k=i) y u:=fun hw=>by
   rcases hw with h1 | ⟨h1,h2⟩
   ·exact .inl h1
   ·exact .inr ⟨fun h=>.inl (h1 h),by rw [h2];exact (ei (fun h=>fS _ (h1 h))).symm⟩
  refine ⟨fun k=>S k∨k=i,lq i A.grn ψ,N ++ [i],⟨hsm,fun k hk=>?_,fun k hk h=>.inl (C.so k hk h),fun k hk h=>?_,?_,fun k=>?_,?_,fun k hk=>?_,fun k hk hko hks j h0 h1=>?_,fun k hk=>?_,fun k hk j u hu=>?_⟩,
   ⟨fun k hk=>.inl hk,fS,⟨[i],rfl⟩,fun k hk j u hu hup=>?_,by have:=hsB.grn;rw [Ar.dG];exact this⟩,fun k hk=>?_,?_,fun _=>.inr hi,hold⟩
  ·rcases hk with hk | rfl
   ·exact C.sl k hk
   ·exact hl
  ·rw [fe k (fun e=>by rw [e,ho] at h;cases h)];exact C.po k hk h
  ·rw [List.nodup_append];exact ⟨C.nd,by simp,fun a ha b hb e=>hni (by rw [←List.mem_singleton.1 hb,←e];exact ha)⟩
  ·rw [List.mem_append,List.mem_singleton,C.nm];constructor
   ·rintro (⟨h1,h2⟩ | rfl)
    ·exact ⟨.inl h1,h2⟩
    ·exact ⟨.inr rfl,ho⟩
   ·rintro ⟨h1 | rfl,h2⟩
    ·exact .inl ⟨h1,h2⟩
    ·exact .inr rfl
  ·rw [List.map_append];have e1:N.map (lq i A.grn ψ)=N.map ψ:=List.map_congr_left fun k hk=>fS k ((C.nm k).1 hk).1;rw [e1];refine Tile.app (Tile.congr (fun p hp'=>?_) C.iP) ⟨by rw [fi],by rw [fi,hti],?_⟩
   ·obtain ⟨k,hk,rfl⟩:=List.mem_map.1 hp';exact hts k ((C.nm k).1 hk).1
   ·rw [fi,hti]
    show (A.grn:Int)+1+(W.th i).fs.length=_
    rw [hgr];omega
  ·rcases hk with hk | rfl
   ·rw [fS k hk];exact (hts k hk).trans (C.th k hk)
   ·rw [fi];exact hti
  ·have hki:k≠i:=fun e=>hks (.inr e);have hkS:¬ S k:=fun h=>hks (.inl h);have hyk:=R.az hk hko h0 h1;refine (hlq _ ?_ ?_).trans (C.yet k hk hko hkS j h0 h1)
   ·unfold Ar.aL Ar.az at *;rw [C.sm.yng,hyk];rfl
   ·have:=R.apart hk hl hki;have:=R.apart hl hk (Ne.symm hki);omega
  ·rcases List.mem_append.1 hk with hk | hk
   ·have hkS:=(C.nm k).1 hk;have hki:k≠i:=fun e=>hs (e ▸ hkS.1);rw [fS k hkS.1];refine (hlq _ ?_ (fun e=>hki (R.inj k i (C.sl k hkS.1) hl e))).trans (C.fwd k hk);unfold Ar.aL;rw [(C.i4 R (C.sl k hkS.1)).2 hkS.2];rfl
   ·rw [List.mem_singleton.1 hk,fi,hload,if_pos ⟨rfl,useB⟩]
  ·rcases hk with hk | rfl
   ·have hj:j<(W.th k).fs.length:=(List.getElem?_eq_some_iff.1 hu).1;rw [fS k hk,hold _ (by rw [Int.add_assoc];exact C.vh R hk (by omega) (by omega))];exact wr (C.fd k hk j u hu)
   ·have hj:j<(W.th k).fs.length:=(List.getElem?_eq_some_iff.1 hu).1;rw [fi,Int.add_assoc,hnew (1+j) (by omega) (by omega),←Int.add_assoc];exact .inl (R.fl k hl j u hu)
  ·have hj:j<(W.th k).fs.length:=(List.getElem?_eq_some_iff.1 hu).1;refine ⟨fun h=>.inl (hup.1 h),?_⟩;rw [fS k hk,hold _ (by rw [Int.add_assoc];exact C.vh R hk (by omega) (by omega)),hup.2];exact (ei (fun h=>fS _ (hup.1 h))).symm
  ·rcases hk with hk | rfl
   ·exact .inl hk
   ·exact .inr ⟨h3,hi.symm⟩
  ·unfold cQ;have hyB:(B.store (φ i) (-1-(A.grn:Int))).az (φ i)=true:=by rw [bP,Ar.fy,hsB.yng];exact y0
   have hlp:(B.store (φ i) (-1-(A.grn:Int))).load (φ i)=-1-A.grn:=by rw [hload,if_pos ⟨rfl,useB⟩]
   rw [e4,hlp,if_pos ⟨by rw [hxe,bF φ h3];omega,hyB,by omega⟩,bF _ h3,hi,fi];have:=hB.h3;have:=hB.h4;unfold g8;rw [show 4*(-1-(-1-(A.grn:Int)))+1=4*(A.grn:Int)+1 by omega,IntKind.wrap_i64];omega
theorem Cu.put (R:aH O W φ) (C:Cu O W φ A S ψ N) {i:Int} (hi:S i) {j:Nat} {v:Vl} (hj:(W.th i).fs[j]? = some v) (hs:v.1=3→S v.2) :
  Cu O W φ (A.store (ψ i+1+j) (ay ψ v)) S ψ N∧Ext W A S ψ N (A.store (ψ i+1+j) (ay ψ v)) S ψ N∧Up W (A.store (ψ i+1+j) (ay ψ v)) S ψ i j v:=by
 have hA:=C.sm.ok;have hjl:j<(W.th i).fs.length:=(List.getElem?_eq_some_iff.1 hj).1;have hpi:=C.place R hi;have b1:=hA.h1;have b2:=hA.h2;have b3:=hA.h3;have b4:=hA.h4;have hok:=R.hw.tv i (C.sl i hi) v (List.mem_of_getElem? hj);have hR:a9 (ay ψ v):=by
  unfold a9;rcases hok with h | h | h | h
  ·have e:ay ψ v=2:=by simp [ay,h.1]
   rw [e];decide
  ·have e:ay ψ v=4*v.2:=by simp [ay,h.1]
   have:=h.2;unfold cN at this;rw [e];omega
  ·have e:ay ψ v=3:=by simp [ay,h.1]
   rw [e];decide
  ·rw [bF ψ h.1];have:=C.place R (hs h.1);omega
 have huse:A.aL (ψ i+1+j)=true:=by rw [Int.add_assoc];exact C.rS R hi (by omega) (by omega)
 have hload:=fun q=>Ar.eR hA (ψ i+1+(j:Int)) q (ay ψ v);have hne:∀ q,q≠ψ i+1+j→(A.store (ψ i+1+j) (ay ψ v)).load q=A.load q:=fun q hq=>by rw [hload,if_neg (fun h=>hq h.1)]
 have heq:(A.store (ψ i+1+j) (ay ψ v)).load (ψ i+1+j)=ay ψ v:=by rw [hload,if_pos ⟨rfl,huse⟩]
 have hth:∀ k,S k→(A.store (ψ i+1+j) (ay ψ v)).ai (ψ k)=A.ai (ψ k):=fun k hk=>by
  refine cL (hne _ ?_);by_cases e:k=i
  ·subst e;omega
  ·have:=C.apart R hk hi e;omega
 have hyo:∀ q,A.az q=true→(A.store (ψ i+1+j) (ay ψ v)).load q=A.load q:=fun q hq=>by
  refine hne _ ?_;have:=bP.1 hq;omega
 have hfd:∀ k,S k→∀ (n:Nat) (u:Vl),(W.th k).fs[n]? = some u→(k=i∧n=j∧u=v)∨(A.store (ψ i+1+j) (ay ψ v)).load (ψ k+1+n)=A.load (ψ k+1+n):=fun k hk n u hu=>by
  have hn:n<(W.th k).fs.length:=(List.getElem?_eq_some_iff.1 hu).1;by_cases e:k=i
  ·subst e;by_cases en:n=j
   ·subst en;rw [hj] at hu;cases hu;exact .inl ⟨rfl,rfl,rfl⟩
   ·exact .inr (hne _ (by omega))
  ·have:=C.apart R hk hi e;exact .inr (hne _ (by omega))
 have hup:Up W (A.store (ψ i+1+j) (ay ψ v)) S ψ i j v:=⟨hs,heq⟩;refine ⟨⟨C.sm.trans (Sm.store hA _ hR),C.sl,C.so,C.po,C.nd,C.nm,?_,fun k hk=>(hth k hk).trans (C.th k hk),fun k hk hko hks n h0 h1=>?_,fun k hk=>?_,fun k hk n u hu=>?_⟩,⟨fun _ h=>h,fun _ _=>rfl,⟨[],by simp⟩,fun k hk n u hu h=>?_,by rw [Ar.dG];exact Nat.le_refl _⟩,hup⟩
 ·rw [Ar.dG];refine Tile.congr (fun p hp=>?_) C.iP;obtain ⟨k,hk,rfl⟩:=List.mem_map.1 hp;exact hth k ((C.nm k).1 hk).1
 ·have hyk:=R.az hk hko h0 h1;rw [hyo _ (by unfold Ar.az at *;rw [C.sm.yng];exact hyk)];exact C.yet k hk hko hks n h0 h1
 ·have hkS:=(C.nm k).1 hk;rw [hyo _ ((C.i4 R (C.sl k hkS.1)).2 hkS.2)];exact C.fwd k hk
 ·rcases hfd k hk n u hu with ⟨rfl,rfl,rfl⟩ | h
  ·exact .inr hup
  ·rw [h];exact C.fd k hk n u hu
 ·rcases hfd k hk n u hu with ⟨rfl,rfl,rfl⟩ | e
  ·exact hup
  ·exact ⟨h.1,e.trans h.2⟩
theorem Cu.field (R:aH O W φ) (C:Cu O W φ A S ψ N) (hr:(O.ar.yng:Int)≤(O.ar.ws.length:Int)-O.ar.grn) {i:Int} (hi:S i) {j:Nat} {v:Vl} (hj:(W.th i).fs[j]? = some v) :
  vT O W φ A S ψ N (fA A (ψ i+1+j)) (fun k=>v.1=3∧k=v.2) fun S' ψ' N'=>Up W (fA A (ψ i+1+j)) S' ψ' i j v:=by
 have hok:=R.hw.tv i (C.sl i hi) v (List.mem_of_getElem? hj);obtain ⟨S1,ψ1,N1,C1,E1,h1,h2,h3,h4⟩:=C.iI R hr hok (C.fd i hi j v hj);have e:fA A (ψ i+1+j)=(bD A (A.load (ψ i+1+j))).store (ψ1 i+1+j) (ay ψ1 v):=by
  unfold fA;rw [h2,E1.at_ i hi]
 rw [e];obtain ⟨C2,E2,hup⟩:=C1.put R (E1.sub i hi) hj h3;exact ⟨S1,ψ1,N1,C2,E1.trans E2,h1,hup⟩
end
end
section
section
variable {O:Wo} {W:Wd} {φ ψ ψ':Int→Int} {A A':Ar} {S S' Al:Int→Prop} {N N':List Int} {qw:List (Int × Int)}
theorem Cu.fields (R:aH O W φ) (hr:(O.ar.yng:Int)≤(O.ar.ws.length:Int)-O.ar.grn) {i:Int}:∀ (n:Nat) {A:Ar} {S:Int→Prop} {ψ:Int→Int} {N:List Int} (j:Nat),Cu O W φ A S ψ N→S i→j+n≤(W.th i).fs.length →
  vT O W φ A S ψ N (mFields n A (ψ i+1+j)) (fun k=>∃ v ∈ (W.th i).fs,v.1=3∧k=v.2) fun S' ψ' N'=>∀ (m:Nat) (v:Vl),j≤m→m<j+n→(W.th i).fs[m]? = some v→Up W (mFields n A (ψ i+1+j)) S' ψ' i m v
 | 0,A,S,ψ,N,j,C,hi,hn=>⟨S,ψ,N,C,Ext.refl,fun k h=>.inl h,fun m v h1 h2=>by omega⟩
 | n+1,A,S,ψ,N,j,C,hi,hn=>by
  have hj:(W.th i).fs[j]? = some (W.th i).fs[j]:=Le (by omega);obtain ⟨S1,ψ1,N1,C1,E1,h1,u1⟩:=C.field R hr hi hj;obtain ⟨S2,ψ2,N2,C2,E2,h2,u2⟩:=Cu.fields R hr n (j+1) C1 (E1.sub i hi) (by omega);have e:mFields (n+1) A (ψ i+1+j)=mFields n (fA A (ψ i+1+j)) (ψ1 i+1+((j+1:Nat):Int)):=by
   rw [E1.at_ i hi]
   show mFields n (fA A (ψ i+1+j)) (ψ i+1+j+1)=_
   congr 1;omega
  rw [e];refine ⟨S2,ψ2,N2,C2,E1.trans E2,fun k hk=>?_,fun m v h3 h4 hv=>?_⟩
  ·rcases h2 k hk with h | h
   ·rcases h1 k h with h | ⟨h,h'⟩
    ·exact .inl h
    ·exact .inr ⟨_,List.getElem_mem (by omega),h,h'⟩
   ·exact .inr h
  ·by_cases em:m=j
   ·subst em;rw [hj] at hv;cases hv;exact E2.up i (E1.sub i hi) _ _ hj u1
   ·exact u2 m v (by omega) (by omega) hv
structure Sc (O:Wo) (W:Wd) (φ:Int→Int) (Al:Int→Prop) (s:Ms) (S:Int→Prop) (ψ:Int→Int) (N:List Int):Prop where
 C:Cu O W φ s.A S ψ N
 al:∀ k,S k→Al k
 wk:∀ p ∈ s.wk, ∃ i,S i∧(W.th i).k=3∧p=ψ i
 ep:∀ p ∈ s.ep, ∃ i,S i∧(W.th i).k=4∧p=ψ i
structure SE (W:Wd) (s:Ms) (S:Int→Prop) (ψ:Int→Int) (N:List Int) (s':Ms) (S':Int→Prop) (ψ':Int→Int) (N':List Int):Prop where
 E:Ext W s.A S ψ N s'.A S' ψ' N'
 wk:∀ p ∈ s.wk,p ∈ s'.wk
 ep:∀ p ∈ s.ep,p ∈ s'.ep
variable {s s':Ms}
theorem SE.refl:SE W s S ψ N s S ψ N:=⟨Ext.refl,fun _ h=>h,fun _ h=>h⟩
theorem SE.trans {s2:Ms} {S2:Int→Prop} {ψ2:Int→Int} {N2:List Int} (h:SE W s S ψ N s' S' ψ' N') (k:SE W s' S' ψ' N' s2 S2 ψ2 N2):SE W s S ψ N s2 S2 ψ2 N2:=
 ⟨h.E.trans k.E,fun p hp=>k.wk p (h.wk p hp),fun p hp=>k.ep p (h.ep p hp)⟩
def hY (W:Wd) (s:Ms) (S:Int→Prop) (ψ:Int→Int) (i:Int):Prop:=
 (((W.th i).k=1∨(W.th i).k=2)→∀ (j:Nat) (v:Vl),(W.th i).fs[j]? = some v→Up W s.A S ψ i j v) ∧
 ((W.th i).k=3→ψ i ∈ s.wk∧∀ v,(W.th i).fs[1]? = some v→Up W s.A S ψ i 1 v)∧((W.th i).k=4→ψ i ∈ s.ep)
def Clean (W:Wd) (i:Int):Prop:=(W.th i).aI=true∧∀ v ∈ (W.th i).fs,v.1=3→(W.th v.2).aI=true
theorem hY.mono (h:SE W s S ψ N s' S' ψ' N') {i:Int} (hi:S i) (hl:hY W s S ψ i):hY W s' S' ψ' i:=
 ⟨fun hk j v hv=>h.E.up i hi j v hv (hl.1 hk j v hv),fun hk=>⟨by rw [h.E.at_ i hi];exact h.wk _ (hl.2.1 hk).1,fun v hv=>h.E.up i hi 1 v hv ((hl.2.1 hk).2 v hv)⟩,fun hk=>by rw [h.E.at_ i hi];exact h.ep _ (hl.2.2 hk)⟩
theorem Sc.lists (H:Sc O W φ Al s S ψ N) {A':Ar} (E:Ext W s.A S ψ N A' S' ψ' N'):(∀ p ∈ s.wk, ∃ i,S' i∧(W.th i).k=3∧p=ψ' i)∧∀ p ∈ s.ep, ∃ i,S' i∧(W.th i).k=4∧p=ψ' i:=by
 constructor
 ·intro p hp;obtain ⟨i,h1,h2,h3⟩:=H.wk p hp;exact ⟨i,E.sub i h1,h2,by rw [E.at_ i h1];exact h3⟩
 ·intro p hp;obtain ⟨i,h1,h2,h3⟩:=H.ep p hp;exact ⟨i,E.sub i h1,h2,by rw [E.at_ i h1];exact h3⟩
theorem yz {k f:Int} (h:bm k f=true) (hk:k=3∨k=4∨k=1):f=2:=by
 unfold bm at h;rcases hk with rfl | rfl | rfl <;> simp at h <;> exact h
theorem Wd.two {W:Wd} (h:W.ok) {i:Int} (hl:W.live i) (hk:(W.th i).k=3∨(W.th i).k=4∨(W.th i).k=1):(W.th i).fs.length=2:=by
 have:=yz (h.tk i hl) hk;omega
theorem Sc.look (R:aH O W φ) (hr:(O.ar.yng:Int)≤(O.ar.ws.length:Int)-O.ar.grn) (hal:cj W.nd qw Al) (H:Sc O W φ Al s S ψ N) {i:Int} (hi:S i) :
  ∃ S' ψ' N',Sc O W φ Al (eu s (ψ i)) S' ψ' N'∧SE W s S ψ N (eu s (ψ i)) S' ψ' N'∧hY W (eu s (ψ i)) S' ψ' i:=by
 have hth:=H.C.th i hi;have hl:=H.C.sl i hi;unfold eu;rw [hth];dsimp only;by_cases k12:(W.th i).k=1∨(W.th i).k=2
 ·rw [if_pos k12];obtain ⟨S1,ψ1,N1,C1,E1,h1,u1⟩:=Cu.fields R hr (W.th i).fs.length 0 H.C hi (by omega);rw [show ψ i+1+((0:Nat):Int)=ψ i+1 by omega] at C1 E1 u1;rw [Int.toNat_natCast];have hL:=H.lists E1;refine ⟨S1,ψ1,N1,⟨C1,fun k hk=>?_,hL.1,hL.2⟩,⟨E1,fun _ h=>h,fun _ h=>h⟩,fun _ j v hv=>u1 j v (by omega) (by have:=(List.getElem?_eq_some_iff.1 hv).1;omega) hv,fun h=>by omega,fun h=>by omega⟩;rcases h1 k hk with h | ⟨v,hv,h3,rfl⟩
  ·exact H.al k h
  ·exact hal i _ (H.al i hi) (.inl ⟨k12,by show ((3,v.2):Vl) ∈ (W.th i).fs;rw [←h3];exact hv⟩)
 ·rw [if_neg k12];by_cases k3:(W.th i).k=3
  ·rw [if_pos k3];have h2:=Wd.two R.hw hl (.inl k3);have hj:(W.th i).fs[1]? = some (W.th i).fs[1]:=Le (by omega);obtain ⟨S1,ψ1,N1,C1,E1,h1,u1⟩:=H.C.field R hr hi hj;rw [show ψ i+1+((1:Nat):Int)=ψ i+2 by omega] at C1 E1 u1;have hL:=H.lists E1;refine ⟨S1,ψ1,N1,⟨C1,fun k hk=>?_,fun p hp=>?_,hL.2⟩,⟨E1,fun p hp=>by simp [hp],fun _ h=>h⟩,fun h=>(k12 h).elim,fun _=>⟨by rw [E1.at_ i hi];simp,fun v hv=>?_⟩,fun h=>by omega⟩
   ·rcases h1 k hk with h | ⟨h3,rfl⟩
    ·exact H.al k h
    ·refine hal i _ (H.al i hi) (.inr (.inl ⟨k3,?_⟩))
     show (W.th i).fs[1]? = _
     rw [hj];congr 1;exact Prod.ext h3 rfl
   ·rcases List.mem_append.1 hp with h | h
    ·exact hL.1 p h
    ·rw [List.mem_singleton.1 h];exact ⟨i,E1.sub i hi,k3,(E1.at_ i hi).symm⟩
   ·rw [hj] at hv;cases hv;exact u1
  ·rw [if_neg k3];by_cases k4:(W.th i).k=4
   ·rw [if_pos k4];refine ⟨S,ψ,N,⟨H.C,H.al,H.wk,fun p hp=>?_⟩,⟨Ext.refl,fun _ h=>h,fun p hp=>by simp [hp]⟩,fun h=>(k12 h).elim,fun h=>(k3 h).elim,fun _=>by simp⟩;rcases List.mem_append.1 hp with h | h
    ·exact H.ep p h
    ·rw [List.mem_singleton.1 h];exact ⟨i,hi,k4,rfl⟩
   ·rw [if_neg k4];exact ⟨S,ψ,N,H,SE.refl,fun h=>(k12 h).elim,fun h=>(k3 h).elim,fun h=>(k4 h).elim⟩
theorem Tile.split {A:Ar} {m:List Int}:∀ {l:List Int} {a b:Int},Tile A (l ++ m) a b→∃ c,Tile A l a c∧Tile A m c b
 | [],a,b,h=>⟨a,rfl,h⟩
 | p :: l,a,b,h=>by
  obtain ⟨c,h1,h2⟩:=Tile.split h.2.2;exact ⟨c,⟨h.1,h.2.1,h1⟩,h2⟩
theorem Tile.end_ {A:Ar}:∀ {l:List Int} {a b c:Int},Tile A l a b→Tile A l a c→b=c
 | [],a,b,c,h,k=>by have h1:a=b:=h;have h2:a=c:=k;omega
 | p :: l,a,b,c,h,k=>Tile.end_ h.2.2 k.2.2
structure Sn (O:Wo) (W:Wd) (s:Ms) (S:Int→Prop) (ψ:Int→Int) (N:List Int) (c:Int):Prop where
 sp:∃ N1 N2,N=N1 ++ N2∧Tile s.A (N1.map ψ) O.ar.grn c∧∀ i ∈ N1,hY W s S ψ i
 aI:∀ i,W.live i→(W.th i).aI=true→hY W s S ψ i∨Clean W i
theorem Sn.more (C:Cu O W φ s.A S ψ N) (C':Cu O W φ s'.A S' ψ' N') (E:SE W s S ψ N s' S' ψ' N') {c:Int} (h:Sn O W s S ψ N c):Sn O W s' S' ψ' N' c:=by
 obtain ⟨N1,N2,e,ht,hl⟩:=h.sp;obtain ⟨m,em⟩:=E.E.pre;have bS:∀ i ∈ N1,S i:=fun i hi=>((C.nm i).1 (by rw [e];simp [hi])).1;refine ⟨⟨N1,N2 ++ m,by rw [em,e];simp,?_,fun i hi=>(hl i hi).mono E (bS i hi)⟩,fun i hi ho=>?_⟩
 ·have e1:N1.map ψ'=N1.map ψ:=List.map_congr_left fun i hi=>E.E.at_ i (bS i hi);rw [e1];refine Tile.congr (fun p hp=>?_) ht;obtain ⟨i,hi,rfl⟩:=List.mem_map.1 hp;rw [C.th i (bS i hi),←E.E.at_ i (bS i hi),C'.th i (E.E.sub i (bS i hi))]
 ·rcases h.aI i hi ho with h1 | h1
  ·exact .inl (h1.mono E (C.so i hi ho))
  ·exact .inr h1
theorem Sn.all (R:aH O W φ) (C:Cu O W φ s.A S ψ N) {c:Int} (h:Sn O W s S ψ N c) (hc:c=s.A.grn):∀ i ∈ N,hY W s S ψ i:=by
 obtain ⟨N1,N2,e,ht,hl⟩:=h.sp;have hw:=C.iP;rw [e,List.map_append] at hw;obtain ⟨m,h1,h2⟩:=hw.split;have:=h1.end_ ht;subst this;cases N2 with
 | nil=>rw [e];simpa using hl
 | cons i N2=>
  have h3:=Tile.le h2.2.2;have h4:=s.A.aO (ψ i);have h5:ψ i=m:=h2.1;omega
theorem Sc.scan (R:aH O W φ) (hr:(O.ar.yng:Int)≤(O.ar.ws.length:Int)-O.ar.grn) (hal:cj W.nd qw Al):∀ (n:Nat) {s:Ms} {S:Int→Prop} {ψ:Int→Int} {N:List Int} (c:Int),
  Sc O W φ Al s S ψ N→Sn O W s S ψ N c→c≤s.A.grn→((O.ar.ws.length:Int)-c).toNat<n →
  ∃ S' ψ' N',Sc O W φ Al (mScan n s c).1 S' ψ' N'∧SE W s S ψ N (mScan n s c).1 S' ψ' N'∧Sn O W (mScan n s c).1 S' ψ' N' (mScan n s c).2∧(mScan n s c).2=(mScan n s c).1.A.grn
 | 0,s,S,ψ,N,c,H,hs,hc,hn=>by omega
 | n+1,s,S,ψ,N,c,H,hs,hc,hn=>by
  unfold mScan;by_cases hlt:c<s.A.grn
  ·rw [if_pos hlt];obtain ⟨N1,N2,e,ht,hl⟩:=hs.sp;have hw:=H.C.iP;rw [e,List.map_append] at hw;obtain ⟨m,h1,h2⟩:=hw.split;have hm:=h1.end_ ht;subst hm;cases N2 with
   | nil=>have h2':m=(s.A.grn:Int):=h2;omega
   | cons i N2=>
    have hic:ψ i=m:=h2.1;have hi:S i:=((H.C.nm i).1 (by rw [e];simp)).1;subst hic;have hth:=H.C.th i hi;obtain ⟨S1,ψ1,M1,H1,E1,hL⟩:=H.look R hr hal hi;have hsn:=hs.more H.C H1.C E1;have bS:∀ k ∈ N1,S k:=fun k hk=>((H.C.nm k).1 (by rw [e];simp [hk])).1;have hth1:=H1.C.th i (E1.E.sub i hi);rw [E1.E.at_ i hi] at hth1;obtain ⟨mm,em⟩:=E1.E.pre;have hsn':Sn O W (eu s (ψ i)) S1 ψ1 M1 (ψ i+(1+(s.A.ai (ψ i)).2.1)):=by
     refine ⟨⟨N1 ++ [i],N2 ++ mm,by rw [em,e];simp,?_,fun k hk=>?_⟩,hsn.aI⟩
     ·have e1:N1.map ψ1=N1.map ψ:=List.map_congr_left fun k hk=>E1.E.at_ k (bS k hk);rw [List.map_append,e1];refine Tile.app (Tile.congr (fun p hp=>?_) ht) ⟨E1.E.at_ i hi,by rw [E1.E.at_ i hi,hth1],?_⟩
      ·obtain ⟨k,hk,rfl⟩:=List.mem_map.1 hp;rw [H.C.th k (bS k hk),←E1.E.at_ k (bS k hk),H1.C.th k (E1.E.sub k (bS k hk))]
      ·rw [E1.E.at_ i hi,hth1,hth]
       show ψ i+1+((W.th i).fs.length:Int)=ψ i+(1+(W.th i).fs.length)
       omega
     ·rcases List.mem_append.1 hk with h | h
      ·exact (hl k h).mono E1 (bS k h)
      ·rw [List.mem_singleton.1 h];exact hL
    have hp:=H1.C.place R (E1.E.sub i hi);rw [E1.E.at_ i hi] at hp;have hth':=hth;rw [hth] at hsn' ⊢;dsimp only at hsn' ⊢;obtain ⟨S2,ψ2,M2,H2,E2,hn2,hc2⟩:=Sc.scan R hr hal n _ H1 hsn' (by omega) (by have:=H.C.sm.ok.h3;have:=H.C.sm.len;omega);exact ⟨S2,ψ2,M2,H2,E1.trans E2,hn2,hc2⟩
  ·rw [if_neg hlt];exact ⟨S,ψ,N,H,SE.refl,hs,by show c=(s.A.grn:Int);omega⟩
theorem Sc.zq (H:Sc O W φ Al s S ψ N) {A':Ar} (C:Cu O W φ A' S' ψ' N') (E:Ext W s.A S ψ N A' S' ψ' N') (hal:∀ k,S' k→Al k):Sc O W φ Al { s with A:=A' } S' ψ' N'∧SE W s S ψ N { s with A:=A' } S' ψ' N':=
 ⟨⟨C,hal,(H.lists E).1,(H.lists E).2⟩,⟨E,fun _ h=>h,fun _ h=>h⟩⟩
theorem Cu.qD (R:aH O W φ) (hr:(O.ar.yng:Int)≤(O.ar.ws.length:Int)-O.ar.grn) (hal:cj W.nd qw Al):∀ (l:List Int) {A:Ar} {S:Int→Prop} {ψ:Int→Int} {N:List Int},
  Cu O W φ A S ψ N→(∀ k,S k→Al k)→(∀ p ∈ l, ∃ i,S i∧(W.th i).k=4∧p=ψ i) →
  ∃ S' ψ' N',Cu O W φ (gm A l) S' ψ' N'∧Ext W A S ψ N (gm A l) S' ψ' N'∧(∀ k,S' k→Al k) ∧
   ∀ i,S i→(W.th i).k=4→ψ i ∈ l→(∀ v,(W.th i).fs[0]? = some v→v.1=3→S v.2)→∀ v,(W.th i).fs[1]? = some v→v.1=3→S' v.2
 | [],A,S,ψ,N,C,ha,hl=>⟨S,ψ,N,C,Ext.refl,ha,fun i _ _ h=>by cases h⟩
 | p :: l,A,S,ψ,N,C,ha,hl=>by
  obtain ⟨i,hi,k4,rfl⟩:=hl p (by simp);have hli:=C.sl i hi;have h2:=Wd.two R.hw hli (.inr (.inl k4));have hj0:(W.th i).fs[0]? = some (W.th i).fs[0]:=Le (by omega);have hj1:(W.th i).fs[1]? = some (W.th i).fs[1]:=Le (by omega);have hok:=R.hw.tv i hli _ (List.mem_of_getElem? hj0);have hfd:=C.fd i hi 0 _ hj0;rw [show ψ i+1+((0:Nat):Int)=ψ i+1 by omega] at hfd;have halive:=C.alive R hok hfd;have step:∃ S1 ψ1 N1,Cu O W φ (jQ A (ψ i)) S1 ψ1 N1∧Ext W A S ψ N (jQ A (ψ i)) S1 ψ1 N1∧(∀ k,S1 k→Al k)∧((∀ v,(W.th i).fs[0]? = some v→v.1=3→S v.2)→∀ v,(W.th i).fs[1]? = some v→v.1=3→S1 v.2):=by
   unfold jQ;by_cases hm:aW A (A.load (ψ i+1))=true
   ·rw [if_pos hm];have hkey:=halive.1 hm;obtain ⟨S1,ψ1,N1,C1,E1,h1,u1⟩:=C.field R hr hi hj0;rw [show ψ i+1+((0:Nat):Int)=ψ i+1 by omega] at C1 E1 u1;obtain ⟨S2,ψ2,N2,C2,E2,h3,u2⟩:=C1.field R hr (E1.sub i hi) hj1;rw [E1.at_ i hi,show ψ i+1+((1:Nat):Int)=ψ i+2 by omega] at C2 E2 u2;refine ⟨S2,ψ2,N2,C2,E1.trans E2,fun k hk=>?_,fun _ v hv h=>by rw [hj1] at hv;cases hv;exact u2.1 h⟩;rcases h3 k hk with h | ⟨h4,rfl⟩
    ·rcases h1 k h with h | ⟨h4,rfl⟩
     ·exact ha k h
     ·exact ha _ (hkey h4)
    ·refine hal i _ (ha i hi) (.inr (.inr (.inl ⟨k4,?_,fun v hv h5=>?_⟩)))
     ·show (W.th i).fs[1]? = _
      rw [hj1];congr 1;exact Prod.ext h4 rfl
     ·have hv':(W.th i).fs[0]? = some v:=hv;rw [hj0] at hv';cases hv';exact ha _ (hkey h5)
   ·rw [if_neg hm];exact ⟨S,ψ,N,C,Ext.refl,ha,fun h=>(hm (halive.2 (fun h3=>h _ hj0 h3))).elim⟩
  obtain ⟨S1,ψ1,N1,C1,E1,ha1,hk1⟩:=step;obtain ⟨S2,ψ2,N2,C2,E2,ha2,hk2⟩:=Cu.qD R hr hal l C1 ha1 (fun p hp=>by
   obtain ⟨k,h3,h4,h5⟩:=hl p (by simp [hp])
   exact ⟨k,E1.sub k h3,h4,by rw [E1.at_ k h3];exact h5⟩)
  have e:gm A (ψ i :: l)=gm (jQ A (ψ i)) l:=rfl;rw [e];refine ⟨S2,ψ2,N2,C2,E1.trans E2,ha2,fun k hk k4' hkl hkey v hv h3=>?_⟩;rcases List.mem_cons.1 hkl with h | h
  ·have hki:=C.inj R hk hi h;subst hki;exact E2.sub _ (hk1 hkey v hv h3)
  ·exact hk2 k (E1.sub k hk) k4' (by rw [E1.at_ k hk];exact h) (fun v hv h3=>E1.sub _ (hkey v hv h3)) v hv h3
def fV (φ ψ:Int→Int) (S:Int→Prop):List (Int × Int)→List (Int × Int)→Prop
 | [],[]=>True
 | e :: l,f :: m=>(e.1=ay φ (3,f.1)∧lr φ ψ S e.2 (3,f.2))∧fV φ ψ S l m
 | _,_=>False
theorem fV.mono (E:Ext W A S ψ N A' S' ψ' N'):∀ {l m:List (Int × Int)},fV φ ψ S l m→fV φ ψ' S' l m
 | [],[],_=>trivial
 | e :: l,f :: m,h=>⟨⟨h.1.1,E.A9 h.1.2⟩,fV.mono E h.2⟩
theorem fV.app {e f:Int × Int} (he:e.1=ay φ (3,f.1)∧lr φ ψ S e.2 (3,f.2)):∀ {l m:List (Int × Int)},fV φ ψ S l m→fV φ ψ S (l ++ [e]) (m ++ [f])
 | [],[],_=>⟨he,trivial⟩
 | _ :: l,_ :: m,h=>⟨h.1,fV.app he h.2⟩
theorem Cu.e6 (R:aH O W φ) (hr:(O.ar.yng:Int)≤(O.ar.ws.length:Int)-O.ar.grn) (hal:cj W.nd qw Al) (hqw:∀ e ∈ qw,W.dD e):∀ (l m:List (Int × Int)) {A:Ar} {S:Int→Prop} {ψ:Int→Int} {N:List Int},
  Cu O W φ A S ψ N→(∀ k,S k→Al k)→fV φ ψ S l m→(∀ f ∈ m,f ∈ qw) →
  ∃ S' ψ' N',Cu O W φ (wakeM aW i3 A l).1 S' ψ' N'∧Ext W A S ψ N (wakeM aW i3 A l).1 S' ψ' N'∧(∀ k,S' k→Al k)∧fV φ ψ' S' (wakeM aW i3 A l).2.1 m∧∀ f ∈ m,S f.1→S' f.2
 | [],[],A,S,ψ,N,C,ha,hq,hm=>⟨S,ψ,N,C,Ext.refl,ha,trivial,fun f h=>by cases h⟩
 | e :: l,f :: m,A,S,ψ,N,C,ha,hq,hm=>by
  have hf:=hqw f (hm f (by simp));have okg:W.cC (3,f.1):=.inr (.inr (.inr ⟨rfl,hf.1⟩));have okt:W.cC (3,f.2):=.inr (.inr (.inr ⟨rfl,hf.2.2⟩));have ag:=C.alive R okg (x:=e.1) (.inl hq.1.1);have at_:=C.alive R okt hq.1.2;simp only [forall_const] at ag at_;unfold wakeM;by_cases hc:(aW A e.1 && !aW A e.2)=true
  ·rw [if_pos hc];rw [Bool.and_eq_true] at hc;have hg:=ag.1 hc.1;obtain ⟨S1,ψ1,N1,C1,E1,h1,h2,h3,_⟩:=C.iI R hr okt hq.1.2;have ha1:∀ k,S1 k→Al k:=fun k hk=>by
    rcases h1 k hk with h | ⟨_,rfl⟩
    ·exact ha k h
    ·exact hal f.1 _ (ha _ hg) (.inr (.inr (.inr ⟨hf.2.1,by show (f.1,f.2) ∈ qw;exact hm f (by simp)⟩)))
   obtain ⟨S2,ψ2,N2,C2,E2,ha2,hq2,hk2⟩:=Cu.e6 R hr hal hqw l m C1 ha1 (hq.2.mono E1) (fun f hf=>hm f (by simp [hf]));have hw:lr φ ψ1 S1 (i3 A e.2).2 (3,f.2):=.inr ⟨h3,h2⟩;refine ⟨S2,ψ2,N2,C2,E1.trans E2,ha2,⟨⟨hq.1.1,E2.A9 hw⟩,hq2⟩,fun f' hf' hs=>?_⟩;rcases List.mem_cons.1 hf' with rfl | h
   ·exact E2.sub _ (h3 rfl)
   ·exact hk2 f' h (E1.sub _ hs)
  ·rw [if_neg hc];obtain ⟨S2,ψ2,N2,C2,E2,ha2,hq2,hk2⟩:=Cu.e6 R hr hal hqw l m C ha hq.2 (fun f hf=>hm f (by simp [hf]));refine ⟨S2,ψ2,N2,C2,E2,ha2,⟨⟨hq.1.1,E2.A9 hq.1.2⟩,hq2⟩,fun f' hf' hs=>?_⟩;rcases List.mem_cons.1 hf' with rfl | h
   ·have h1:=ag.2 hs;rw [h1] at hc;simp at hc;exact E2.sub _ (at_.1 hc)
   ·exact hk2 f' h hs
end
end
section
section
variable {O:Wo} {W:Wd} {φ ψ ψ':Int→Int} {A A':Ar} {S S' Al:Int→Prop} {N N':List Int} {qw:List (Int × Int)}
theorem Ext.same (R:aH O W φ) (C:Cu O W φ A S ψ N) (C':Cu O W φ A' S' ψ' N') (E:Ext W A S ψ N A' S' ψ' N') (h:A'.grn=A.grn):∀ k,S' k→S k:=by
 obtain ⟨m,em⟩:=E.pre;have hm:m=[]:=by
  have ht':=C'.iP;rw [em,List.map_append] at ht';obtain ⟨c,h1,h2⟩:=ht'.split;have e1:N.map ψ'=N.map ψ:=List.map_congr_left fun i hi=>E.at_ i ((C.nm i).1 hi).1;have h3:Tile A' (N.map ψ') O.ar.grn A.grn:=by
   rw [e1];refine Tile.congr (fun p hp=>?_) C.iP;obtain ⟨i,hi,rfl⟩:=List.mem_map.1 hp;have hS:=((C.nm i).1 hi).1;rw [C.th i hS,←E.at_ i hS,C'.th i (E.sub i hS)]
  have:=h1.end_ h3;subst this;cases m with
  | nil=>rfl
  | cons p m=>
   have h5:ψ' p=(A.grn:Int):=h2.1;have h6:=Tile.le h2.2.2;have h7:=A'.aO (ψ' p);rw [h] at h6;omega
 intro k hk;cases ho:(W.th k).aI
 ·have:=(C'.nm k).2 ⟨hk,ho⟩;rw [em,hm,List.append_nil] at this;exact ((C.nm k).1 this).1
 ·exact C.so k (C'.sl k hk) ho
theorem Sc.round (R:aH O W φ) (hr:(O.ar.yng:Int)≤(O.ar.ws.length:Int)-O.ar.grn) (hal:cj W.nd qw Al) (hqw:∀ e ∈ qw,W.dD e) {d:Md} (H:Sc O W φ Al d.s S ψ N) (hs:Sn O W d.s S ψ N d.c) (hc:d.c≤d.s.A.grn) (hq:fV φ ψ S d.q qw) :
  ∃ S' ψ' N',Sc O W φ Al (bE d).s S' ψ' N'∧SE W d.s S ψ N (bE d).s S' ψ' N'∧Sn O W (bE d).s S' ψ' N' (bE d).c∧(bE d).c≤(bE d).s.A.grn∧(d.s.A.grn:Int)≤(bE d).c∧fV φ ψ' S' (bE d).q qw ∧
   (¬ (bE d).c<(bE d).s.A.grn→cj W.nd qw S'):=by
 have hlen:=H.C.sm.len;have h3':=H.C.sm.ok.h3;have h4':=H.C.sm.ok.h4;have hc0:(0:Int)≤d.c:=by
  obtain ⟨N1,N2,e,ht,hl⟩:=hs.sp;have:=ht.le;omega
 obtain ⟨S1,ψ1,N1,H1,E1,n1,c1⟩:=H.scan R hr hal 2000 d.c hs hc (by omega);obtain ⟨S2,ψ2,N2,C2,X2,a2,k2⟩:=Cu.qD R hr hal (mScan 2000 d.s d.c).1.ep H1.C H1.al H1.ep;obtain ⟨S3,ψ3,N3,C3,X3,a3,q3,k3⟩:=Cu.e6 R hr hal hqw d.q qw C2 a2 ((hq.mono E1.E).mono X2) (fun f hf=>hf);obtain ⟨H3,E3⟩:=H1.zq C3 (X2.trans X3) a3;have e1:(bE d).s={ (mScan 2000 d.s d.c).1 with A:=(wakeM aW i3 (gm (mScan 2000 d.s d.c).1.A (mScan 2000 d.s d.c).1.ep) d.q).1 }:=rfl;have e2:(bE d).c=(mScan 2000 d.s d.c).2:=rfl;have e3:(bE d).q=(wakeM aW i3 (gm (mScan 2000 d.s d.c).1.A (mScan 2000 d.s d.c).1.ep) d.q).2.1:=rfl;have g3:=(X2.trans X3).grn;have n3:=n1.more H1.C H3.C E3;rw [e1,e2,e3];refine ⟨S3,ψ3,N3,H3,E1.trans E3,n3,by rw [c1];exact Int.ofNat_le.2 g3,by rw [c1];exact Int.ofNat_le.2 E1.E.grn,q3,fun hno=>?_⟩;have hg:(wakeM aW i3 (gm (mScan 2000 d.s d.c).1.A (mScan 2000 d.s d.c).1.ep) d.q).1.grn=(mScan 2000 d.s d.c).1.A.grn:=by
  rw [c1] at hno;have:¬ ((mScan 2000 d.s d.c).1.A.grn:Int)<((wakeM aW i3 (gm (mScan 2000 d.s d.c).1.A (mScan 2000 d.s d.c).1.ep) d.q).1.grn:Int):=hno;omega
 have back1:=(X2.trans X3).same R H1.C C3 hg;have back2:∀ k,S3 k→S2 k:=fun k hk=>X2.sub k (back1 k hk);have all:=n3.all R C3 (by show (mScan 2000 d.s d.c).2=_;rw [c1];exact (congrArg Int.ofNat hg).symm);have seen:∀ i,S3 i→hY W { (mScan 2000 d.s d.c).1 with A:=(wakeM aW i3 (gm (mScan 2000 d.s d.c).1.A (mScan 2000 d.s d.c).1.ep) d.q).1 } S3 ψ3 i∨Clean W i:=fun i hi=>by
  cases ho:(W.th i).aI
  ·exact .inl (all i ((C3.nm i).2 ⟨hi,ho⟩))
  ·exact n3.aI i (C3.sl i hi) ho
 intro i j hi hl;have hli:=C3.sl i hi;have inF:∀ {n:Nat},(W.th i).fs[n]? = some (3,j)→Clean W i→S3 j:=fun hv hcl=>
  C3.so j (Wd.aY (R.hw.tv i hli _ (List.mem_of_getElem? hv)) rfl) (hcl.2 _ (List.mem_of_getElem? hv) rfl)
 rcases hl with ⟨hk,hm⟩ | ⟨hk,hm⟩ | ⟨hk,hm,hkey⟩ | ⟨hk,hm⟩
 ·obtain ⟨n,hn,he⟩:=List.mem_iff_getElem.1 (show ((3,j):Vl) ∈ (W.th i).fs from hm);have hv:(W.th i).fs[n]? = some (3,j):=by rw [Le hn,he]
  rcases seen i hi with h | h
  ·exact (h.1 hk n _ hv).1 rfl
  ·exact inF hv h
 ·rcases seen i hi with h | h
  ·exact ((h.2.1 hk).2 _ hm).1 rfl
  ·exact inF hm h
 ·rcases seen i hi with h | h
  ·have hep:=h.2.2 hk;have hi1:=back1 i hi;have h2:ψ1 i ∈ (mScan 2000 d.s d.c).1.ep:=by
    rw [←(X2.trans X3).at_ i hi1];exact hep
   exact X3.sub _ (k2 i hi1 hk h2 (fun v hv h3=>back1 _ (hkey v hv h3)) _ hm rfl)
  ·exact inF hm h
 ·exact k3 (i,j) hm (back2 i hi)
theorem Sc.drain (R:aH O W φ) (hr:(O.ar.yng:Int)≤(O.ar.ws.length:Int)-O.ar.grn) (hal:cj W.nd qw Al) (hqw:∀ e ∈ qw,W.dD e):∀ (n:Nat) {d:Md} {S:Int→Prop} {ψ:Int→Int} {N:List Int},
  Sc O W φ Al d.s S ψ N→Sn O W d.s S ψ N d.c→d.c≤d.s.A.grn→fV φ ψ S d.q qw→((O.ar.ws.length:Int)-d.s.A.grn).toNat<n →
  ∃ S' ψ' N',Sc O W φ Al (mDrain n d).s S' ψ' N'∧SE W d.s S ψ N (mDrain n d).s S' ψ' N'∧Sn O W (mDrain n d).s S' ψ' N' (mDrain n d).c∧(mDrain n d).c=(mDrain n d).s.A.grn∧fV φ ψ' S' (mDrain n d).q qw∧cj W.nd qw S'
 | 0,d,S,ψ,N,H,hs,hc,hq,hn=>by omega
 | n+1,d,S,ψ,N,H,hs,hc,hq,hn=>by
  obtain ⟨S1,ψ1,N1,H1,E1,n1,l1,g1,q1,k1⟩:=H.round R hr hal hqw hs hc hq;unfold mDrain;by_cases hlt:(bE d).c<(bE d).s.A.grn
  ·rw [if_pos hlt];have h3:=H1.C.sm.ok.h3;have h4:=H1.C.sm.len;obtain ⟨S2,ψ2,N2,H2,E2,n2,c2,q2,k2⟩:=Sc.drain R hr hal hqw n H1 n1 l1 q1 (by omega);exact ⟨S2,ψ2,N2,H2,E1.trans E2,n2,c2,q2,k2⟩
  ·rw [if_neg hlt];exact ⟨S1,ψ1,N1,H1,E1,n1,by omega,q1,k1 hlt⟩
end
end
section
section
variable {O:Wo} {W:Wd} {φ ψ ψ':Int→Int} {A A':Ar} {S S' Al:Int→Prop} {N N':List Int} {qw:List (Int × Int)}
theorem Cu.start (R:aH O W φ):Cu O W φ O.ar (fun i=>W.live i∧(W.th i).aI=true) φ []:=by
 refine ⟨Sm.refl R.ho.ha,fun i h=>h.1,fun i h1 h2=>⟨h1,h2⟩,fun _ _ _=>rfl,List.nodup_nil,fun i=>?_,rfl,fun i h=>R.th i h.1,fun _ _ _ _ _ _ _=>rfl,(by intro i hi;cases hi),fun i h j v hv=>.inl (R.fl i h.1 j v hv)⟩;constructor
 ·intro h;cases h
 ·rintro ⟨h1,h2⟩;rw [h1.2] at h2;cases h2
theorem Cu.roots (R:aH O W φ) (hr:(O.ar.yng:Int)≤(O.ar.ws.length:Int)-O.ar.grn):∀ (l:List Vl) {A:Ar} {S:Int→Prop} {ψ:Int→Int} {N:List Int},Cu O W φ A S ψ N→(∀ v ∈ l,W.cC v) →
  vT O W φ A S ψ N (mRoots A (l.map (ay φ))).1 (fun k=>((3,k):Vl) ∈ l) fun S' ψ' N'=>(∀ v ∈ l,v.1=3→S' v.2)∧(mRoots A (l.map (ay φ))).2=l.map (ay ψ')
 | [],A,S,ψ,N,C,_=>⟨S,ψ,N,C,Ext.refl,fun k h=>.inl h,by simp,rfl⟩
 | v :: l,A,S,ψ,N,C,hl=>by
  obtain ⟨S1,ψ1,N1,C1,E1,h1,h2,h3,_⟩:=C.iI R hr (hl v (by simp)) (x:=ay φ v) (.inl rfl);obtain ⟨S2,ψ2,N2,C2,E2,h4,h5,h6⟩:=Cu.roots R hr l C1 (fun u hu=>hl u (by simp [hu]));simp only [List.map_cons,mRoots];refine ⟨S2,ψ2,N2,C2,E1.trans E2,fun k hk=>?_,fun u hu h=>?_,?_⟩
  ·rcases h4 k hk with h | h
   ·rcases h1 k h with h' | ⟨h',rfl⟩
    ·exact .inl h'
    ·exact .inr (by rw [←h'];simp)
   ·exact .inr (by simp [h])
  ·rcases List.mem_cons.1 hu with rfl | hu
   ·exact E2.sub _ (h3 h)
   ·exact h5 u hu h
  ·rw [h2,h6];congr 1;exact (ei (fun h=>E2.at_ _ (h3 h))).symm
theorem Sc.zr (R:aH O W φ) (hr:(O.ar.yng:Int)≤(O.ar.ws.length:Int)-O.ar.grn) (hal:cj W.nd qw Al):∀ (l:List Int) {s:Ms} {S:Int→Prop} {ψ:Int→Int} {N:List Int},Sc O W φ Al s S ψ N→(∀ p ∈ l, ∃ i,W.live i∧(W.th i).aI=true∧p=φ i) →
  ∃ S' ψ' N',Sc O W φ Al (eD O.ar.nur O.cd s l) S' ψ' N'∧SE W s S ψ N (eD O.ar.nur O.cd s l) S' ψ' N'∧∀ i,W.live i→(W.th i).aI=true→φ i ∈ l→hY W (eD O.ar.nur O.cd s l) S' ψ' i∨Clean W i
 | [],s,S,ψ,N,H,_=>⟨S,ψ,N,H,SE.refl,fun i _ _ h=>by cases h⟩
 | p :: l,s,S,ψ,N,H,hl=>by
  obtain ⟨i,hi,ho,rfl⟩:=hl p (by simp);have hS:=H.C.so i hi ho;have step:∃ S1 ψ1 N1,Sc O W φ Al (if de O.ar.nur O.cd (φ i)=true then eu s (φ i) else s) S1 ψ1 N1∧SE W s S ψ N (if de O.ar.nur O.cd (φ i)=true then eu s (φ i) else s) S1 ψ1 N1∧(hY W (if de O.ar.nur O.cd (φ i)=true then eu s (φ i) else s) S1 ψ1 i∨Clean W i):=by
   by_cases hd:de O.ar.nur O.cd (φ i)=true
   ·rw [if_pos hd,←H.C.po i hi ho];obtain ⟨S1,ψ1,N1,H1,E1,hL⟩:=H.look R hr hal hS;exact ⟨S1,ψ1,N1,H1,E1, .inl hL⟩
   ·rw [if_neg hd];refine ⟨S,ψ,N,H,SE.refl, .inr ⟨ho,fun v hv h3=>?_⟩⟩;cases hv':(W.th v.2).aI
    ·exact (hd (R.card i hi ho v hv h3 hv')).elim
    ·rfl
  obtain ⟨S1,ψ1,N1,H1,E1,k1⟩:=step;obtain ⟨S2,ψ2,N2,H2,E2,k2⟩:=Sc.zr R hr hal l H1 (fun p hp=>hl p (by simp [hp]));have e:eD O.ar.nur O.cd s (φ i :: l)=eD O.ar.nur O.cd (if de O.ar.nur O.cd (φ i)=true then eu s (φ i) else s) l:=rfl;rw [e];refine ⟨S2,ψ2,N2,H2,E1.trans E2,fun k hk hko hkl=>?_⟩;rcases List.mem_cons.1 hkl with h | h
  ·have:=R.inj k i hk hi h;subst this;rcases k1 with h1 | h1
   ·exact .inl (h1.mono E2 (E1.E.sub k hS))
   ·exact .inr h1
  ·exact k2 k hk hko h
structure Ps (O:Wo) (W:Wd) (φ:Int→Int) (rw_:List Int) (t:Mt) (q:List (Int × Int)) (is:List Bool) (qw:List (Int × Int)) (ψ:Int→Int) (N:List Int):Prop where
 H:Sc O W φ (fun k=>au is k=true) t.1 (fun k=>au is k=true) ψ N
 n:Sn O W t.1 (fun k=>au is k=true) ψ N t.2
 c:t.2=t.1.A.grn
 q:fV φ ψ (fun k=>au is k=true) q qw
 ok:∀ e ∈ qw,W.dD e
 shut:cj W.nd qw fun k=>au is k=true
 len:is.length=W.T.length
 rt:∀ v ∈ W.roots,v.1=3→au is v.2=true
 rw_:rw_=W.roots.map (ay ψ)
theorem Sc.mQ {s:Ms} (H:Sc O W φ Al s S ψ N) {Bl:Int→Prop} (h:∀ k,S k→Bl k):Sc O W φ Bl s S ψ N:=⟨H.C,h,H.wk,H.ep⟩
theorem Sc.qG (R:aH O W φ) (hr:(O.ar.yng:Int)≤(O.ar.ws.length:Int)-O.ar.grn) (hqw:∀ e ∈ qw,W.dD e) {d:Md} {is:List Bool} (hlen:is.length=W.T.length) (hS:∀ k,S k↔au is k=true)
  (H:Sc O W φ (fun k=>cI W.nd qw (fun k=>au is k=true) k) d.s S ψ N) (hs:Sn O W d.s S ψ N d.c) (hc:d.c≤d.s.A.grn) (hq:fV φ ψ S d.q qw) {rts:List Int} (hrt:∀ v ∈ W.roots,v.1=3→S v.2) (hrw:rts=W.roots.map (ay ψ)) :
  ∃ ψ' N',Ps O W φ rts ((mDrain 2000 d).s,(mDrain 2000 d).c) (mDrain 2000 d).q (W.cT qw is) qw ψ' N'∧SE W d.s S ψ N (mDrain 2000 d).s (fun k=>au (W.cT qw is) k=true) ψ' N':=by
 have h3:=H.C.sm.ok.h3;have h4:=H.C.sm.ok.h4;have h5:=H.C.sm.len;obtain ⟨S1,ψ1,N1,H1,E1,n1,c1,q1,k1⟩:=H.drain R hr (cI.closed W.nd qw _) hqw 2000 hs hc hq (by omega);have e:S1=fun k=>au (W.cT qw is) k=true:=by
  funext k
  refine propext ⟨fun hk=>?_,fun hk=>?_⟩
  ·have hl:=H1.C.sl k hk;exact cW.2 ⟨hl.1,by rw [hlen];exact hl.2.1,H1.al k hk⟩
  ·exact (cW.1 hk).2.2.least (fun j hj=>E1.E.sub j ((hS j).2 hj)) k1
 subst e;refine ⟨ψ1,N1,⟨H1.mQ (fun k hk=>hk),n1,c1,q1,hqw,k1,by unfold Wd.cT;rw [eW,hlen],fun v hv h=>E1.E.sub _ (hrt v hv h),?_⟩,E1⟩;rw [hrw];exact List.map_congr_left fun v hv=>(ei (fun h=>E1.E.at_ _ (hrt v hv h))).symm
theorem aH.pre (R:aH O W φ) (hr:(O.ar.yng:Int)≤(O.ar.ws.length:Int)-O.ar.grn):∃ ψ N,Ps O W φ (mRoots O.ar O.rt).2 ((iB O).s,(iB O).c) (iB O).q (W.cT W.wait (W.first false)) W.wait ψ N:=by
 have hal:=cI.closed W.nd W.wait (fun k=>au (W.first false) k=true);have C0:=Cu.start R;obtain ⟨S1,ψ1,N1,C1,E1,h1,h2,h3⟩:=Cu.roots R hr W.roots C0 R.hw.rv;rw [←R.rt] at C1 E1 h3;have hS1:∀ k,S1 k↔au (W.first false) k=true:=fun k=>by
  rw [Wd.iN];constructor
  ·intro hk;have hl:=C1.sl k hk;refine ⟨hl.1,hl.2.1,?_⟩;rcases h1 k hk with h | h
   ·exact .inl ⟨h.2,hl.2.2,rfl⟩
   ·exact .inr h
  ·rintro ⟨h0,h4,h5 | h5⟩
   ·exact C1.so k ⟨h0,h4,h5.2.1⟩ h5.1
   ·exact h2 _ h5 rfl
 have H1:Sc O W φ (fun k=>cI W.nd W.wait (fun k=>au (W.first false) k=true) k) ⟨(mRoots O.ar O.rt).1,[],[]⟩ S1 ψ1 N1:=⟨C1,fun k hk=>cI.base ((hS1 k).1 hk),(by intro p hp;cases hp),(by intro p hp;cases hp)⟩;have hz:∀ p ∈ O.ar.aN.2, ∃ i,W.live i∧(W.th i).aI=true∧p=φ i:=fun p hp=>by
  have:=(R.qA.mem_iff (a:=p)).1 hp;obtain ⟨i,hi,rfl⟩:=List.mem_map.1 this;have:=Wd.c8.1 hi;exact ⟨i,this.1,this.2,rfl⟩
 obtain ⟨S2,ψ2,N2,H2,E2,k2⟩:=H1.zr R hr hal O.ar.aN.2 hz;have hn2:Sn O W (eD O.ar.nur O.cd ⟨(mRoots O.ar O.rt).1,[],[]⟩ O.ar.aN.2) S2 ψ2 N2 O.ar.grn:=
  ⟨⟨[],N2,rfl,rfl,(by intro i hi;cases hi)⟩,fun i hi ho=>k2 i hi ho (R.ino i hi ho)⟩
 have hq0:∀ (m:List (Int × Int)),fV φ ψ2 S2 (m.map (bp φ)) m:=fun m=>by
  induction m with
  | nil=>trivial
  | cons f m ih=>
   refine ⟨⟨?_, .inl ?_⟩,ih⟩
   ·rw [bF φ rfl];rfl
   ·rw [bF φ rfl];rfl
 have h3':=H2.C.sm.ok.h3;have h4':=H2.C.sm.ok.h4;have h5':=H2.C.sm.len;have hflen:(W.first false).length=W.T.length:=Wd.fU W false;obtain ⟨S3,ψ3,N3,H3,E3,n3,c3,q3,k3⟩:=H2.drain R hr hal R.hw.wv 2000 (d:=⟨eD O.ar.nur O.cd ⟨(mRoots O.ar O.rt).1,[],[]⟩ O.ar.aN.2,O.ar.grn,O.wt⟩) hn2 (Int.ofNat_le.2 (Nat.le_trans E1.grn E2.E.grn)) (by
  show fV φ ψ2 S2 O.wt W.wait
  rw [R.wt];exact hq0 _) (by show ((O.ar.ws.length:Int)-_).toNat<2000;omega)
 have e:S3=fun k=>au (W.cT W.wait (W.first false)) k=true:=by
  funext k
  refine propext ⟨fun hk=>?_,fun hk=>?_⟩
  ·have hl:=H3.C.sl k hk;exact cW.2 ⟨hl.1,by rw [hflen];exact hl.2.1,H3.al k hk⟩
  ·exact (cW.1 hk).2.2.least (fun j hj=>E3.E.sub j (E2.E.sub j ((hS1 j).2 hj))) k3
 subst e;have qz:∀ k,S1 k→ψ3 k=ψ1 k:=fun k hk=>(E3.E.at_ k (E2.E.sub k hk)).trans (E2.E.at_ k hk);refine ⟨ψ3,N3,⟨H3.mQ (fun k hk=>hk),n3,c3,q3,R.hw.wv,k3,by unfold Wd.cT;rw [eW,hflen],fun v hv h=>E3.E.sub _ (E2.E.sub _ (h2 v hv h)),?_⟩⟩;rw [h3];exact List.map_congr_left fun v hv=>(ei (fun h=>qz _ (h2 v hv h))).symm
theorem Ps.ab (R:aH O W φ) (hr:(O.ar.yng:Int)≤(O.ar.ws.length:Int)-O.ar.grn) {rts:List Int} {t:Mt} {q:List (Int × Int)} {is:List Bool} (P:Ps O W φ rts t q is qw ψ N) {x g:Int} (hx:W.live x) (hg:W.live g) (hk:(W.th g).k=5) :
  ∃ ψ' N',Ps O W φ rts (gE t q (ay φ (3,x))).1 ((gE t q (ay φ (3,x))).2.1 ++ [(ay φ (3,g),(gE t q (ay φ (3,x))).2.2)]) (W.cT qw (is.set x.toNat true)) (qw ++ [(g,x)]) ψ' N':=by
 have okx:W.cC (3,x):=.inr (.inr (.inr ⟨rfl,hx⟩));obtain ⟨S1,ψ1,N1,C1,E1,h1,h2,h3,_⟩:=P.H.C.iI R hr okx (x:=ay φ (3,x)) (.inl rfl);have hS1:∀ k,S1 k↔au (is.set x.toNat true) k=true:=fun k=>by
  rw [gL hx.1 (by rw [P.len];exact hx.2.1)];constructor
  ·intro hk;rcases h1 k hk with h | ⟨_,rfl⟩
   ·exact .inr h
   ·exact .inl rfl
  ·rintro (rfl | h)
   ·exact h3 rfl
   ·exact E1.sub k h
 obtain ⟨H1,SE1⟩:=(P.H.mQ (Bl:=fun k=>cI W.nd qw (fun k=>au (is.set x.toNat true) k=true) k) (fun k hk=>cI.base ((hS1 k).1 (E1.sub k hk)))).zq C1 E1 (fun k hk=>cI.base ((hS1 k).1 hk));have hn1:=P.n.more P.H.C C1 SE1;have hq1:=P.q.mono E1;obtain ⟨ψ2,N2,P2,SE2⟩:=H1.qG (d:=⟨{ t.1 with A:=bD t.1.A (ay φ (3,x)) },t.2,q⟩) R hr P.ok (by rw [List.length_set];exact P.len) hS1 hn1 (by show t.2≤_;rw [P.c];exact Int.ofNat_le.2 E1.grn) hq1 (rts:=rts) (fun v hv h=>E1.sub _ (P.rt v hv h)) (by
  rw [P.rw_]
  exact List.map_congr_left fun v hv=>(ei (fun h=>E1.at_ _ (P.rt v hv h))).symm)
 have hxin:au (W.cT qw (is.set x.toNat true)) x=true:=SE2.E.sub _ (h3 rfl);refine ⟨ψ2,N2,⟨P2.H,P2.n,P2.c,fV.app ⟨rfl,?_⟩ P2.q,fun e he=>?_,?_,P2.len,P2.rt,P2.rw_⟩⟩
 ·refine .inr ⟨fun _=>hxin,?_⟩
  show cQ (bD t.1.A (ay φ (3,x))) (ay φ (3,x))=_
  rw [h2];exact (ei (fun h=>SE2.E.at_ _ (h3 rfl))).symm
 ·rcases List.mem_append.1 he with h | h
  ·exact P.ok e h
  ·rw [List.mem_singleton.1 h];exact ⟨hg,hk,hx⟩
 ·intro a b ha hl;by_cases hb:b=x
  ·subst hb;exact hxin
  ·refine P2.shut a b ha ?_;rcases hl with h | h | h | ⟨h,h'⟩
   ·exact .inl h
   ·exact .inr (.inl h)
   ·exact .inr (.inr (.inl h))
   ·refine .inr (.inr (.inr ⟨h,?_⟩));rcases List.mem_append.1 h' with h4 | h4
    ·exact h4
    ·simp at h4;exact absurd h4.2 hb
def cR (φ:Int→Int) (i:It):It:=(bp φ i.1,i.2)
theorem dI (φ:Int→Int) (e:Int × Int):bp φ e=(ay φ (3,e.1),ay φ (3,e.2)):=by
 rw [bF φ rfl,bF φ rfl];rfl
theorem Ps.alive (R:aH O W φ) {rts:List Int} {t:Mt} {q:List (Int × Int)} {is:List Bool} (P:Ps O W φ rts t q is qw ψ N) {x:Int} (hx:W.live x):bL t (ay φ (3,x))=au is x:=by
 have:=P.H.C.alive R (v:=(3,x)) (x:=ay φ (3,x)) (.inr (.inr (.inr ⟨rfl,hx⟩))) (.inl rfl);simp only [forall_const] at this;rw [Bool.eq_iff_iff];exact this
theorem Ps.scan (R:aH O W φ) (hr:(O.ar.yng:Int)≤(O.ar.ws.length:Int)-O.ar.grn) {rts:List Int}:∀ (l:List It) {t:Mt} {q:List (Int × Int)} {is:List Bool} {qw:List (Int × Int)} {ψ:Int→Int} {N:List Int},Ps O W φ rts t q is qw ψ N→(∀ i ∈ l,W.dD i.1) →
  ∃ ψ' N',Ps O W φ rts (scanM bL gE t q (l.map (cR φ))).1 (scanM bL gE t q (l.map (cR φ))).2.1 (scanM au W.bY is qw l).1 (scanM au W.bY is qw l).2.1 ψ' N' ∧
   (scanM bL gE t q (l.map (cR φ))).2.2.1=(scanM au W.bY is qw l).2.2.1.map (cR φ)∧(scanM bL gE t q (l.map (cR φ))).2.2.2=(scanM au W.bY is qw l).2.2.2
 | [],t,q,is,qw,ψ,N,P,_=>⟨ψ,N,P,rfl,rfl⟩
 | i :: l,t,q,is,qw,ψ,N,P,hl=>by
  have hi:=hl i (by simp);have ea:bL t (cR φ i).1.1=au is i.1.1:=by
   show bL t (bp φ i.1).1=_
   rw [dI];exact P.alive R hi.1
  simp only [List.map_cons,scanM];rw [ea];have e2:(cR φ i).2=i.2:=rfl;rw [e2];by_cases hc:(i.2.1 && !i.2.2 && au is i.1.1)=true
  ·rw [if_pos hc,if_pos hc];obtain ⟨ψ1,N1,P1⟩:=P.ab R hr hi.2.2 hi.1 hi.2.1;have e3:(cR φ i).1.2=ay φ (3,i.1.2):=by show (bp φ i.1).2=_;rw [dI]
   have e4:(cR φ i).1.1=ay φ (3,i.1.1):=by show (bp φ i.1).1=_;rw [dI]
   rw [←e3,←e4] at P1;obtain ⟨ψ2,N2,P2,h1,h2⟩:=Ps.scan R hr l P1 (fun j hj=>hl j (by simp [hj]));refine ⟨ψ2,N2,P2,?_,rfl⟩;dsimp only;rw [h1];rfl
  ·rw [if_neg hc,if_neg hc];obtain ⟨ψ2,N2,P2,h1,h2⟩:=Ps.scan R hr l P (fun j hj=>hl j (by simp [hj]));refine ⟨ψ2,N2,P2,?_,h2⟩;dsimp only;rw [h1];rfl
theorem Ps.rounds (R:aH O W φ) (hr:(O.ar.yng:Int)≤(O.ar.ws.length:Int)-O.ar.grn) {rts:List Int}:∀ (n:Nat) (l:List It) {t:Mt} {q:List (Int × Int)} {is:List Bool} {qw:List (Int × Int)} {ψ:Int→Int} {N:List Int},Ps O W φ rts t q is qw ψ N→(∀ i ∈ l,W.dD i.1) →
  ∃ ψ' N',Ps O W φ rts (roundsM bL gE n t q (l.map (cR φ))).1 (roundsM bL gE n t q (l.map (cR φ))).2.1 (roundsM au W.bY n is qw l).1 (roundsM au W.bY n is qw l).2.1 ψ' N' ∧
   (roundsM bL gE n t q (l.map (cR φ))).2.2=(roundsM au W.bY n is qw l).2.2.map (cR φ)
 | 0,l,t,q,is,qw,ψ,N,P,hl=>⟨ψ,N,P,rfl⟩
 | n+1,l,t,q,is,qw,ψ,N,P,hl=>by
  obtain ⟨ψ1,N1,P1,h1,h2⟩:=P.scan R hr l hl;have hl1:=mM is qw hl;simp only [roundsM];rw [h2];by_cases hc:(scanM au W.bY is qw l).2.2.2=true
  ·rw [if_pos hc,if_pos hc,h1];exact Ps.rounds R hr n _ P1 hl1
  ·rw [if_neg hc,if_neg hc];exact ⟨ψ1,N1,P1,h1⟩
theorem aH.Ba (R:aH O W φ) (hr:(O.ar.yng:Int)≤(O.ar.ws.length:Int)-O.ar.grn):∃ ψ N,Ps O W φ (mRoots O.ar O.rt).2 (bI O).1 (bI O).2.1 (W.pass false).1 (W.pass false).2.1 ψ N∧(bI O).2.2=(W.pass false).2.2.map (cR φ):=by
 obtain ⟨ψ0,N0,P0⟩:=R.pre hr;have e:cV bL ((iB O).s,(iB O).c) O.rg=(cV au (W.cT W.wait (W.first false)) W.ah).map (cR φ):=by
  unfold cV;rw [R.rg,List.map_map,List.map_map];refine List.map_congr_left fun e he=>?_;have:=R.hw.gv e he
  show (bp φ e,!bL _ (bp φ e).2,false)=(bp φ e,!au _ e.2,false)
  rw [show (bp φ e).2=ay φ (3,e.2) by rw [dI],P0.alive R this.2.2]
 have hlen:O.rg.length=W.ah.length:=by rw [R.rg];simp
 unfold bI Wd.pass dC;rw [e,hlen];exact P0.rounds R hr _ _ (fun i hi=>by
  simp only [cV,List.mem_map] at hi;obtain ⟨e,he,rfl⟩:=hi
  exact R.hw.gv e he)
end
end
section
section
variable {O:Wo} {W:Wd} {φ ψ:Int→Int} {A B:Ar} {is:List Bool} {N:List Int} {qw:List (Int × Int)}
theorem Cu.vU {S:Int→Prop} (R:aH O W φ) (C:Cu O W φ A S ψ N) {v:Vl} (hok:W.cC v) (hs:v.1=3→S v.2):a9 (ay ψ v):=by
 have b3:=C.sm.ok.h3;have b4:=C.sm.ok.h4;unfold a9;rcases hok with h | h | h | h
 ·have e:ay ψ v=2:=by simp [ay,h.1]
  rw [e];decide
 ·have e:ay ψ v=4*v.2:=by simp [ay,h.1]
  have:=h.2;unfold cN at this;rw [e];omega
 ·have e:ay ψ v=3:=by simp [ay,h.1]
  rw [e];decide
 ·rw [bF ψ h.1];have:=C.place R (hs h.1);omega
theorem j3:a9 3:=by unfold a9;decide
structure Gb (ψ:Int→Int) (is:List Bool) (A B:Ar):Prop where
 sm:Sm A B
 grn:B.grn=A.grn
 yl:∀ q,A.az q=true→B.load q=A.load q
 hd:∀ k,au is k=true→B.ai (ψ k)=A.ai (ψ k)
theorem Gb.alive (G:Gb ψ is A B) (x:Int):aW B x=aW A x:=by
 have hy:B.az (x/4)=A.az (x/4):=by unfold Ar.az;rw [G.sm.yng]
 unfold aW;rw [hy];cases h:A.az (x/4)
 ·simp
 ·rw [G.yl _ h]
theorem Gb.now (G:Gb ψ is A B) (x:Int):cQ B x=cQ A x:=by
 have hy:B.az (x/4)=A.az (x/4):=by unfold Ar.az;rw [G.sm.yng]
 unfold cQ;rw [hy];cases h:A.az (x/4)
 ·simp
 ·rw [G.yl _ h]
theorem Gb.put (R:aH O W φ) (C:Cu O W φ A (fun k=>au is k=true) ψ N) (G:Gb ψ is A B) {i:Int} (hi:au is i=true) {j:Nat} (hj:j<(W.th i).fs.length) {x:Int} (hx:a9 x) :
  Gb ψ is A (B.store (ψ i+1+j) x)∧(B.store (ψ i+1+j) x).load (ψ i+1+j)=x ∧
  ∀ k,au is k=true→∀ n,n<(W.th k).fs.length→(k≠i∨n≠j)→(B.store (ψ i+1+j) x).load (ψ k+1+n)=B.load (ψ k+1+n):=by
 have hB:=G.sm.ok;have hld:=fun q=>Ar.eR hB (ψ i+1+(j:Int)) q x;have hne:∀ q,q≠ψ i+1+j→(B.store (ψ i+1+j) x).load q=B.load q:=fun q hq=>by rw [hld,if_neg (fun h=>hq h.1)]
 have hpi:=C.place R hi;have b1:=C.sm.ok.h1;have huse:B.aL (ψ i+1+j)=true:=by
  have:=C.vh R hi (j:=1+(j:Int)) (by omega) (by omega);rw [←Int.add_assoc] at this;unfold Ar.aL Ar.aI at *;rw [G.grn,G.sm.nur,this];simp
 refine ⟨⟨G.sm.trans (Sm.store hB _ hx),by rw [Ar.dG];exact G.grn,fun q hq=>?_,fun k hk=>?_⟩,by rw [hld,if_pos ⟨rfl,huse⟩],fun k hk n hn hne'=>hne _ ?_⟩
 ·rw [hne q (by have:=bP.1 hq;omega)];exact G.yl q hq
 ·have:(B.store (ψ i+1+j) x).ai (ψ k)=B.ai (ψ k):=by
   refine cL (hne _ ?_);by_cases e:k=i
   ·subst e;omega
   ·have:=C.apart R hk hi e;omega
  rw [this];exact G.hd k hk
 ·by_cases e:k=i
  ·subst e;have:n≠j:=by rcases hne' with h | h;exact absurd rfl h;exact h
   omega
  ·have:=C.apart R hk hi e;omega
def l4 (W:Wd) (is:List Bool) (i:Int):List Vl:=(dM is i.toNat (W.th i)).fs
def fg (W:Wd) (ψ:Int→Int) (is:List Bool) (B:Ar) (i:Int):Prop:=∀ (j:Nat) (v:Vl),(l4 W is i)[j]? = some v→B.load (ψ i+1+j)=ay ψ v
def rz (W:Wd) (φ ψ:Int→Int) (is:List Bool) (B:Ar) (i:Int):Prop:=∀ (j:Nat) (v:Vl),(W.th i).fs[j]? = some v→lr φ ψ (fun k=>au is k=true) (B.load (ψ i+1+j)) v
theorem kN {i:Int} (h0:0≤i) (hb:au is i=true):l4 W is i =
  if (W.th i).k=4∧bS is ((W.th i).fs.getD 0 (0,0))=false then [(2,0),(2,0)] else if (W.th i).k=3∧bS is ((W.th i).fs.getD 0 (0,0))=false then [(2,0),(W.th i).fs.getD 1 (0,0)] else (W.th i).fs:=by
 unfold l4 dM;rw [if_pos (by rw [dh h0];exact hb)]
theorem dZ {v:Vl}:bS is v=true↔(v.1=3→au is v.2=true):=by
 unfold bS;by_cases h:v.1=3
 ·simp [h]
 ·simp [h]
theorem iQ {α:Type} {l:List α} (h:l.length=2):∃ a b,l=[a,b]:=by
 match l,h with
 | [a,b],_=>exact ⟨a,b,rfl⟩
structure Gn (W:Wd) (φ ψ:Int→Int) (is:List Bool) (A B:Ar):Prop where
 G:Gb ψ is A B
 f:∀ i,au is i=true→fg W ψ is B i∨((W.th i).k=3∧rz W φ ψ is B i∧∀ v,(W.th i).fs[1]? = some v→B.load (ψ i+2)=ay ψ v)∨((W.th i).k=4∧rz W φ ψ is B i)
theorem fg.congr {B':Ar} {i:Int} (hl:(l4 W is i).length=(W.th i).fs.length) (h:∀ n,n<(W.th i).fs.length→B'.load (ψ i+1+n)=B.load (ψ i+1+n)) (hf:fg W ψ is B i):fg W ψ is B' i:=fun j v hv=>by
 have:=(List.getElem?_eq_some_iff.1 hv).1;rw [h j (by omega)];exact hf j v hv
theorem rz.congr {B':Ar} {i:Int} (h:∀ n,n<(W.th i).fs.length→B'.load (ψ i+1+n)=B.load (ψ i+1+n)) (hf:rz W φ ψ is B i):rz W φ ψ is B' i:=fun j v hv=>by
 rw [h j (List.getElem?_eq_some_iff.1 hv).1];exact hf j v hv
theorem pL (R:aH O W φ) (C:Cu O W φ A (fun k=>au is k=true) ψ N) {i:Int} (hi:au is i=true):(l4 W is i).length=(W.th i).fs.length:=by
 have hl:=C.sl i hi;exact jD (by rw [dh hl.1];exact hi) (R.hw.tk i hl)
theorem Gn.other (R:aH O W φ) (C:Cu O W φ A (fun k=>au is k=true) ψ N) (g:Gn W φ ψ is A B) {B':Ar} (G':Gb ψ is A B') {i:Int} (hfin:fg W ψ is B' i)
  (h:∀ k,au is k=true→k≠i→∀ n,n<(W.th k).fs.length→B'.load (ψ k+1+n)=B.load (ψ k+1+n)):Gn W φ ψ is A B':=by
 refine ⟨G',fun k hk=>?_⟩;by_cases e:k=i
 ·subst e;exact .inl hfin
 ·rcases g.f k hk with h1 | ⟨h1,h2,h3⟩ | ⟨h1,h2⟩
  ·exact .inl (h1.congr (pL R C hk) (h k hk e))
  ·refine .inr (.inl ⟨h1,h2.congr (h k hk e),fun v hv=>?_⟩);have hh:=h k hk e 1 (List.getElem?_eq_some_iff.1 hv).1;rw [show ψ k+1+((1:Nat):Int)=ψ k+2 by omega] at hh;rw [hh];exact h3 v hv
  ·exact .inr (.inr ⟨h1,h2.congr (h k hk e)⟩)
theorem jE (ψ:Int→Int):ay ψ (2,0)=3:=rfl
theorem nW (B:Ar):cQ B 3=3:=qF (by decide)
theorem l5 (B:Ar):aW B 3=true:=nV (by decide)
theorem Gn.key (R:aH O W φ) (C:Cu O W φ A (fun k=>au is k=true) ψ N) (g:Gn W φ ψ is A B) {i:Int} (hi:au is i=true) {v0 v1:Vl} (hk:(W.th i).k=3∨(W.th i).k=4) (hfs:(W.th i).fs=[v0,v1]) :
  (bS is v0=true→aW B (B.load (ψ i+1))=true∧cQ B (B.load (ψ i+1))=ay ψ v0) ∧
  (bS is v0=false→(fg W ψ is B i∧B.load (ψ i+1)=3)∨aW B (B.load (ψ i+1))=false):=by
 have hl:=C.sl i hi;have ok0:=R.hw.tv i hl v0 (by rw [hfs];simp);have e0:ψ i+1+((0:Nat):Int)=ψ i+1:=by omega
 have hc:=kN (W:=W) hl.1 hi;rw [hfs] at hc;simp only [List.getD_cons_zero,List.getD_cons_succ] at hc;constructor
 ·intro hs;have hw:lr φ ψ (fun k=>au is k=true) (B.load (ψ i+1)) v0:=by
   rw [if_neg (fun h=>by rw [hs] at h;cases h.2),if_neg (fun h=>by rw [hs] at h;cases h.2)] at hc;rcases g.f i hi with h | ⟨_,h,_⟩ | ⟨_,h⟩
   ·have:=h 0 v0 (by rw [hc];rfl);rw [e0] at this;exact .inr ⟨dZ.1 hs,this⟩
   ·have:=h 0 v0 (by rw [hfs];rfl);rwa [e0] at this
   ·have:=h 0 v0 (by rw [hfs];rfl);rwa [e0] at this
  rw [g.G.alive,g.G.now];exact ⟨(C.alive R ok0 hw).2 (dZ.1 hs),C.now R ok0 hw (dZ.1 hs)⟩
 ·intro hs;have hn:¬ (v0.1=3→au is v0.2=true):=fun h=>by rw [dZ.2 h] at hs;cases hs
  have raw:rz W φ ψ is B i→aW B (B.load (ψ i+1))=false:=fun h=>by
   have h1:=h 0 v0 (by rw [hfs];rfl);rw [e0] at h1;rw [g.G.alive];cases ha:aW A (B.load (ψ i+1))
   ·rfl
   ·exact (hn ((C.alive R ok0 h1).1 ha)).elim
  rcases g.f i hi with h | ⟨_,h,_⟩ | ⟨_,h⟩
  ·refine .inl ⟨h,?_⟩;have h2:(l4 W is i)[0]? = some (2,0):=by
    rw [hc];rcases hk with hk | hk
    ·rw [if_neg (fun h=>by omega),if_pos ⟨hk,hs⟩];rfl
    ·rw [if_pos ⟨hk,hs⟩];rfl
   have:=h 0 _ h2;rw [e0] at this;rw [this,jE]
  ·exact .inr (raw h)
  ·exact .inr (raw h)
theorem Gn.CJ (R:aH O W φ) (C:Cu O W φ A (fun k=>au is k=true) ψ N) (g:Gn W φ ψ is A B) {i:Int} (hi:au is i=true) (hk:(W.th i).k=3) :
  Gn W φ ψ is A (gO B (ψ i+1) (!aW B (B.load (ψ i+1))))∧fg W ψ is (gO B (ψ i+1) (!aW B (B.load (ψ i+1)))) i:=by
 have hl:=C.sl i hi;have h2:=Wd.two R.hw hl (.inl hk);obtain ⟨v0,v1,hfs⟩:=iQ h2;have ok0:=R.hw.tv i hl v0 (by rw [hfs];simp);obtain ⟨k1,k2⟩:=g.key R C hi (.inl hk) hfs;have hc:=kN (W:=W) hl.1 hi;rw [hfs] at hc;simp only [List.getD_cons_zero,List.getD_cons_succ] at hc;rw [if_neg (fun h=>by omega)] at hc;have e0:ψ i+1+((0:Nat):Int)=ψ i+1:=by omega
 have e1:ψ i+1+((1:Nat):Int)=ψ i+2:=by omega
 have hval:∃ w,l4 W is i=[w,v1]∧(if (!aW B (B.load (ψ i+1)))=true then 3 else cQ B (B.load (ψ i+1)))=ay ψ w∧a9 (ay ψ w):=by
  cases hs:bS is v0
  ·rw [if_pos ⟨hk,hs⟩] at hc;refine ⟨(2,0),hc,?_,by rw [jE];exact j3⟩;rcases k2 hs with ⟨_,h⟩ | h
   ·rw [h,l5,nW];rfl
   ·rw [h];rfl
  ·rw [if_neg (fun h=>by rw [hs] at h;cases h.2)] at hc;obtain ⟨h1,h3⟩:=k1 hs;exact ⟨v0,hc,by rw [h1,h3];rfl,C.vU R ok0 (dZ.1 hs)⟩
 obtain ⟨w,hcw,hv,hR⟩:=hval;have hB:gO B (ψ i+1) (!aW B (B.load (ψ i+1)))=B.store (ψ i+1+((0:Nat):Int)) (ay ψ w):=by
  rw [e0];unfold gO;rw [hv]
 obtain ⟨G',a1,a2⟩:=g.G.put R C hi (j:=0) (by omega) hR;have hfin:fg W ψ is (gO B (ψ i+1) (!aW B (B.load (ψ i+1)))) i:=by
  rw [hB];intro j v hv';rw [hcw] at hv'
  match j,hv' with
  | 0,hv'=>simp at hv';subst hv';exact a1
  | 1,hv'=>
   simp at hv';subst hv';rw [a2 i hi 1 (by omega) (.inr (by decide)),e1];rcases g.f i hi with h | ⟨_,_,h⟩ | ⟨h,_⟩
   ·have:=h 1 v1 (by rw [hcw];rfl);rwa [e1] at this
   ·exact h v1 (by rw [hfs];rfl)
   ·omega
 refine ⟨?_,hfin⟩;rw [hB] at hfin ⊢;exact g.other R C G' hfin (fun k hk' hne n hn=>a2 k hk' n hn (.inl hne))
theorem Gn.qD (R:aH O W φ) (C:Cu O W φ A (fun k=>au is k=true) ψ N) (hcl:cj W.nd qw fun k=>au is k=true) (g:Gn W φ ψ is A B) {i:Int} (hi:au is i=true) (hk:(W.th i).k=4) :
  Gn W φ ψ is A (cX B (ψ i))∧fg W ψ is (cX B (ψ i)) i:=by
 have hl:=C.sl i hi;have h2:=Wd.two R.hw hl (.inr (.inl hk));obtain ⟨v0,v1,hfs⟩:=iQ h2;have ok0:=R.hw.tv i hl v0 (by rw [hfs];simp);have ok1:=R.hw.tv i hl v1 (by rw [hfs];simp);obtain ⟨k1,k2⟩:=g.key R C hi (.inr hk) hfs;have hc:=kN (W:=W) hl.1 hi;rw [hfs] at hc;simp only [List.getD_cons_zero,List.getD_cons_succ] at hc;have e0:ψ i+1+((0:Nat):Int)=ψ i+1:=by omega
 have e1:ψ i+1+((1:Nat):Int)=ψ i+2:=by omega
 obtain ⟨dd,hd⟩:∃ d,(!aW B (B.load (ψ i+1)))=d:=⟨_,rfl⟩;have hval:∃ w0 w1,l4 W is i=[w0,w1]∧(if dd=true then 3 else cQ B (B.load (ψ i+1)))=ay ψ w0∧a9 (ay ψ w0)∧(if dd=true then 3 else cQ B (B.load (ψ i+2)))=ay ψ w1∧a9 (ay ψ w1):=by
  cases hs:bS is v0
  ·rw [if_pos ⟨hk,hs⟩] at hc;refine ⟨(2,0),(2,0),hc,?_,by rw [jE];exact j3,?_,by rw [jE];exact j3⟩
   ·rcases k2 hs with ⟨_,h⟩ | h
    ·rw [←hd,h,l5,nW];rfl
    ·rw [←hd,h];rfl
   ·rcases k2 hs with ⟨hf,h⟩ | h
    ·have:=hf 1 (2,0) (by rw [hc];rfl);rw [e1,jE] at this;rw [←hd,h,l5,this,nW];rfl
    ·rw [←hd,h];rfl
  ·rw [if_neg (fun h=>by rw [hs] at h;cases h.2),if_neg (fun h=>by omega)] at hc;obtain ⟨h1,h3⟩:=k1 hs;have hs1:v1.1=3→au is v1.2=true:=fun h3=>hcl i v1.2 hi (.inr (.inr (.inl ⟨hk,by
    show (W.th i).fs[1]? = _
    rw [hfs];show some v1=_;congr 1;exact Prod.ext h3 rfl,fun v hv h=>by
    have hv':(W.th i).fs[0]? = some v:=hv;rw [hfs] at hv';have:v0=v:=by simpa using hv'
    subst this;exact dZ.1 hs h⟩)))
   have hw1:lr φ ψ (fun k=>au is k=true) (B.load (ψ i+2)) v1:=by
    rcases g.f i hi with h | ⟨h,_,_⟩ | ⟨_,h⟩
    ·have:=h 1 v1 (by rw [hc];rfl);rw [e1] at this;exact .inr ⟨hs1,this⟩
    ·omega
    ·have:=h 1 v1 (by rw [hfs];rfl);rwa [e1] at this
   refine ⟨v0,v1,hc,by rw [←hd,h1,h3];rfl,C.vU R ok0 (dZ.1 hs),?_,C.vU R ok1 hs1⟩;rw [←hd,h1]
   show cQ B (B.load (ψ i+2))=_
   rw [g.G.now];exact C.now R ok1 hw1 hs1
 obtain ⟨w0,w1,hcw,hv0,hR0,hv1,hR1⟩:=hval;obtain ⟨G1,a1,a2⟩:=g.G.put R C hi (j:=0) (by omega) hR0;have hld:(B.store (ψ i+1+((0:Nat):Int)) (ay ψ w0)).load (ψ i+2)=B.load (ψ i+2):=by
  have:=a2 i hi 1 (by omega) (.inr (by decide));rwa [e1] at this
 obtain ⟨G2,b1,b2⟩:=G1.put R C hi (j:=1) (by omega) hR1;have hB:cX B (ψ i)=(B.store (ψ i+1+((0:Nat):Int)) (ay ψ w0)).store (ψ i+1+((1:Nat):Int)) (ay ψ w1):=by
  unfold cX;rw [hd];have e2:gO B (ψ i+1) dd=B.store (ψ i+1+((0:Nat):Int)) (ay ψ w0):=by rw [e0];unfold gO;rw [hv0]
  rw [e2];unfold gO;rw [hld,e1,G1.now,←g.G.now,hv1]
 have hfin:fg W ψ is (cX B (ψ i)) i:=by
  rw [hB];intro j v hv';rw [hcw] at hv'
  match j,hv' with
  | 0,hv'=>simp at hv';subst hv';rw [b2 i hi 0 (by omega) (.inr (by decide))];exact a1
  | 1,hv'=>simp at hv';subst hv';exact b1
 refine ⟨?_,hfin⟩;rw [hB] at hfin ⊢;refine g.other R C G2 hfin (fun k hk' hne n hn=>?_);rw [b2 k hk' n hn (.inl hne),a2 k hk' n hn (.inl hne)]
theorem Gn.zt (R:aH O W φ) (C:Cu O W φ A (fun k=>au is k=true) ψ N):∀ (l:List Int) {B:Ar},Gn W φ ψ is A B→(∀ p ∈ l, ∃ i,au is i=true∧(W.th i).k=3∧p=ψ i) →
  Gn W φ ψ is A (fB B l)∧(∀ i,au is i=true→fg W ψ is B i→fg W ψ is (fB B l) i)∧∀ i,au is i=true→ψ i ∈ l→fg W ψ is (fB B l) i
 | [],B,g,_=>⟨g,fun _ _ h=>h,fun _ _ h=>by cases h⟩
 | p :: l,B,g,hl=>by
  obtain ⟨i,hi,hk,rfl⟩:=hl p (by simp);obtain ⟨g1,f1⟩:=g.CJ R C hi hk;obtain ⟨g2,f2,f3⟩:=Gn.zt R C l g1 (fun p hp=>hl p (by simp [hp]));have e:fB B (ψ i :: l)=fB (gO B (ψ i+1) (!aW B (B.load (ψ i+1)))) l:=rfl;rw [e];have ab:∀ k,au is k=true→fg W ψ is B k→fg W ψ is (gO B (ψ i+1) (!aW B (B.load (ψ i+1)))) k:=fun k hk' hf=>by
   by_cases ek:k=i
   ·subst ek;exact f1
   ·refine hf.congr (pL R C hk') (fun n hn=>?_);unfold gO;have:=C.apart R hk' hi ek;have hn2:=Wd.two R.hw (C.sl i hi) (.inl hk);rw [Ar.eR g.G.sm.ok,if_neg (fun h=>by omega)]
  refine ⟨g2,fun k hk' hf=>f2 k hk' (ab k hk' hf),fun k hk' hm=>?_⟩;rcases List.mem_cons.1 hm with h | h
  ·have:=C.inj R hk' hi h;subst this;exact f2 k hk' f1
  ·exact f3 k hk' h
theorem Gn.mR (R:aH O W φ) (C:Cu O W φ A (fun k=>au is k=true) ψ N) (hcl:cj W.nd qw fun k=>au is k=true):∀ (l:List Int) {B:Ar},Gn W φ ψ is A B→(∀ p ∈ l, ∃ i,au is i=true∧(W.th i).k=4∧p=ψ i) →
  Gn W φ ψ is A (l.foldl cX B)∧(∀ i,au is i=true→fg W ψ is B i→fg W ψ is (l.foldl cX B) i)∧∀ i,au is i=true→ψ i ∈ l→fg W ψ is (l.foldl cX B) i
 | [],B,g,_=>⟨g,fun _ _ h=>h,fun _ _ h=>by cases h⟩
 | p :: l,B,g,hl=>by
  obtain ⟨i,hi,hk,rfl⟩:=hl p (by simp);obtain ⟨g1,f1⟩:=g.qD R C hcl hi hk;obtain ⟨g2,f2,f3⟩:=Gn.mR R C hcl l g1 (fun p hp=>hl p (by simp [hp]));have e:(ψ i :: l).foldl cX B=l.foldl cX (cX B (ψ i)):=rfl;rw [e];have ab:∀ k,au is k=true→fg W ψ is B k→fg W ψ is (cX B (ψ i)) k:=fun k hk' hf=>by
   by_cases ek:k=i
   ·subst ek;exact f1
   ·refine hf.congr (pL R C hk') (fun n hn=>?_);unfold cX gO;have:=C.apart R hk' hi ek;have hn2:=Wd.two R.hw (C.sl i hi) (.inr (.inl hk));have hok1:(B.store (ψ i+1) (if (!aW B (B.load (ψ i+1)))=true then 3 else cQ B (B.load (ψ i+1)))).ok:=by
     refine g.G.sm.ok.store _ _ ?_;split
     ·exact j3
     ·exact hH (g.G.sm.ok.load _)
    rw [Ar.eR hok1,if_neg (fun h=>by omega),Ar.eR g.G.sm.ok,if_neg (fun h=>by omega)]
  refine ⟨g2,fun k hk' hf=>f2 k hk' (ab k hk' hf),fun k hk' hm=>?_⟩;rcases List.mem_cons.1 hm with h | h
  ·have:=C.inj R hk' hi h;subst this;exact f2 k hk' f1
  ·exact f3 k hk' h
theorem Ps.gone (R:aH O W φ) {rts:List Int} {t:Mt} {q:List (Int × Int)} (P:Ps O W φ rts t q is qw ψ N):Gb ψ is t.1.A (jR t.1)∧∀ i,au is i=true→fg W ψ is (jR t.1) i:=by
 have C:=P.H.C;have start:Gn W φ ψ is t.1.A t.1.A∧∀ i,au is i=true→fg W ψ is t.1.A i∨((W.th i).k=3∧ψ i ∈ t.1.wk)∨((W.th i).k=4∧ψ i ∈ t.1.ep):=by
  have main:∀ i,au is i=true→fg W ψ is t.1.A i∨((W.th i).k=3∧ψ i ∈ t.1.wk∧∀ v,(W.th i).fs[1]? = some v→t.1.A.load (ψ i+2)=ay ψ v)∨((W.th i).k=4∧ψ i ∈ t.1.ep):=by
   intro i hi;have hl:=C.sl i hi;have all:hY W t.1 (fun k=>au is k=true) ψ i∨Clean W i:=by
    cases ho:(W.th i).aI
    ·exact .inl (P.n.all R C P.c i ((C.nm i).2 ⟨hi,ho⟩))
    ·exact P.n.aI i hl ho
   rcases all with h | h
   ·by_cases k3:(W.th i).k=3
    ·refine .inr (.inl ⟨k3,(h.2.1 k3).1,fun v hv=>?_⟩);have:=((h.2.1 k3).2 v hv).2;rwa [show ψ i+1+((1:Nat):Int)=ψ i+2 by omega] at this
    ·by_cases k4:(W.th i).k=4
     ·exact .inr (.inr ⟨k4,h.2.2 k4⟩)
     ·left;intro j v hv;rw [kN hl.1 hi,if_neg (fun h=>k4 h.1),if_neg (fun h=>k3 h.1)] at hv;by_cases k12:(W.th i).k=1∨(W.th i).k=2
      ·exact (h.1 k12 j v hv).2
      ·exfalso;have hf:=R.hw.tk i hl;have hs:=bK hf;have k5:(W.th i).k=5:=by omega
       rw [k5] at hf;simp [bm] at hf;have:=(List.getElem?_eq_some_iff.1 hv).1;simp [hf] at this
   ·left;intro j v hv;have all:∀ v ∈ (W.th i).fs,bS is v=true:=fun v hv=>dZ.2 fun h3=>C.so _ (Wd.aY (R.hw.tv i hl v hv) h3) (h.2 v hv h3);have h0:(W.th i).k=3∨(W.th i).k=4→bS is ((W.th i).fs.getD 0 (0,0))=true:=fun hk=>by
     obtain ⟨a,b,e⟩:=iQ (Wd.two R.hw hl (by rcases hk with h | h;exact .inl h;exact .inr (.inl h)));rw [e];exact all a (by rw [e];simp)
    rw [kN hl.1 hi,if_neg (fun h=>by rw [h0 (.inr h.1)] at h;cases h.2),if_neg (fun h=>by rw [h0 (.inl h.1)] at h;cases h.2)] at hv;have hm:=List.mem_of_getElem? hv;rcases C.fd i hi j v hv with e | ⟨_,e⟩
    ·rw [e];exact (ei (fun h3=>C.po _ (Wd.aY (R.hw.tv i hl v hm) h3) (h.2 v hm h3))).symm
    ·exact e
  refine ⟨⟨⟨Sm.refl C.sm.ok,rfl,fun _ _=>rfl,fun _ _=>rfl⟩,fun i hi=>?_⟩,fun i hi=>?_⟩
  ·rcases main i hi with h | ⟨h,_,h'⟩ | ⟨h,_⟩
   ·exact .inl h
   ·exact .inr (.inl ⟨h,C.fd i hi,h'⟩)
   ·exact .inr (.inr ⟨h,C.fd i hi⟩)
  ·rcases main i hi with h | ⟨h,h',_⟩ | h
   ·exact .inl h
   ·exact .inr (.inl ⟨h,h'⟩)
   ·exact .inr (.inr h)
 obtain ⟨g0,f0⟩:=start;obtain ⟨g1,f1,f2⟩:=g0.zt R C t.1.wk P.H.wk;obtain ⟨g2,f3,f4⟩:=g1.mR R C P.shut t.1.ep P.H.ep;refine ⟨g2.G,fun i hi=>?_⟩;rcases f0 i hi with h | ⟨_,h⟩ | ⟨_,h⟩
 ·exact f3 i hi (f1 i hi h)
 ·exact f3 i hi (f2 i hi h)
 ·exact f4 i hi h
end
end
section
section
variable {O:Wo} {W:Wd} {φ ψ:Int→Int} {A B:Ar} {is:List Bool} {N:List Int} {qw:List (Int × Int)}
theorem z4 (h:W.ok) (hl:∀ i,au is i=true→W.live i):fp is W.T≤W.az+W.cm:=by
 have e:fp is W.T=((((List.range W.T.length).map (Int.ofNat ·)).filter fun i=>au is i).map fun i=>(W.th i).words).sum:=by
  rw [jo];unfold fp;congr 1;apply List.ext_getElem
  ·simp
  ·intro k h1 h2;simp only [List.length_mapIdx] at h1;simp only [List.getElem_mapIdx,List.getElem_map,List.getElem_range];have e1:W.th (Int.ofNat k)=W.T[k]:=by
    unfold Wd.th;rw [Ld,show (Int.ofNat k).toNat=k from rfl,Le h1];rfl
   have e2:au is (Int.ofNat k)=is.getD k false:=dH is k;rw [e1,e2]
 have hnd:(((List.range W.T.length).map (Int.ofNat ·)).filter fun i=>au is i).Nodup:=(jn _).filter _;have h1:=mi (f:=fun i=>(W.th i).words) (fun i=>by unfold Th.words;omega) hnd (m:=W.idx false ++ W.idx true) (by
  intro i hi;have hb:=(List.mem_filter.1 hi).2;have hlv:=hl i (by simpa using hb);rw [List.mem_append];cases ho:(W.th i).aI
  ·exact .inl (Wd.c8.2 ⟨hlv,ho⟩)
  ·exact .inr (Wd.c8.2 ⟨hlv,ho⟩))
 rw [List.map_append,List.sum_append,Wd.iZ,Wd.iZ] at h1;have e1:(dL W.T fun t=>!t.dead && (t.aI == false))=W.az:=by unfold Wd.az;congr 1;funext t;cases t.aI <;> rfl
 have e2:(dL W.T fun t=>!t.dead && (t.aI == true))=W.cm:=by unfold Wd.cm;congr 1;funext t;cases t.aI <;> rfl
 rw [e1,e2] at h1;rw [e];exact h1
theorem qH (A:Ar) {q:Int} (h:A.aI q=true):A.clear.load q=A.load q:=by
 have h1:A.aL q=true:=by unfold Ar.aL;rw [h];simp
 have h2:A.clear.aL q=true:=by
  unfold Ar.aL;rw [Bool.or_eq_true];right;exact h
 unfold Ar.load;rw [if_pos h1,if_pos h2];rfl
theorem Wd.xm (W:Wd) (h:¬ W.az > W.grow-W.cm) (h2:¬ fp (W.pass false).1 W.T > W.grow):W.cut false=(0,W.after false):=by
 unfold Wd.cut;rw [if_neg (fun h'=>h h'.2),if_neg h2]
theorem aH.minor (R:aH O W φ):(g9 O).1=(W.cut false).1∧∃ ψ,aH (g9 O).2 (W.cut false).2 ψ:=by
 have hsy:=R.sy;have hso:=R.so;have hnur:=R.nur;have hlen:=R.len;by_cases hfull:(O.ar.yng:Int) > (O.ar.ws.length:Int)-O.ar.grn
 ·have e1:g9 O=(3,O):=by unfold g9;rw [if_pos hfull]
  have e2:W.cut false=(3,W):=by unfold Wd.cut;rw [if_pos ⟨rfl,by omega⟩]
  rw [e1,e2];exact ⟨rfl,φ,R⟩
 ·have hr:(O.ar.yng:Int)≤(O.ar.ws.length:Int)-O.ar.grn:=by omega
  obtain ⟨m,hfst,hcnt,hits⟩:=Wd.g6 R.hw false;have hsum:=z4 R.hw m.live;have e2:W.cut false=(0,W.after false):=W.xm (by omega) (by omega);have e1:g9 O=(0,⟨(jR (bI O).1.1).clear,O.cd.map fun _=>false,(mRoots O.ar O.rt).2,bq bL fh (bI O).1 (bI O).2.2,bs bL fh (bI O).1 (bI O).2.1⟩):=by unfold g9;rw [if_neg hfull]
  rw [e1,e2];obtain ⟨ψ,N,P,hI⟩:=R.Ba hr;obtain ⟨G,F⟩:=P.gone R;have C:=P.H.C;refine ⟨rfl,ψ,?_⟩;have hokA:=R.hw.after (major:=false) (by omega);obtain ⟨B,hB⟩:∃ B,jR (bI O).1.1=B:=⟨_,rfl⟩;rw [hB] at G F ⊢;have okB:=G.sm.ok;have lv:∀ {i},(W.after false).live i↔au (W.pass false).1 i=true:=Wd.iw R.hw;have tha:∀ {i},au (W.pass false).1 i=true→(W.after false).th i=dM (W.pass false).1 i.toNat (W.th i):=fun hi=>Wd.iO (m.live _ hi).1 (m.live _ hi).2.1;have olda:∀ {i},au (W.pass false).1 i=true→((W.after false).th i).aI=true:=fun hi=>by
   rw [tha hi,(lJ (by rw [dh (m.live _ hi).1];exact hi)).2]
  have pl:∀ {i},au (W.pass false).1 i=true→_:=fun {i} hi=>C.place R (i:=i) hi;have oldB:∀ {i},au (W.pass false).1 i=true→∀ j:Int,0≤j→j≤(W.th i).fs.length→B.aI (ψ i+j)=true:=fun hi j h0 h1=>by
   have:=C.vh R hi h0 h1;unfold Ar.aI at *;rw [G.sm.nur,G.grn];exact this
  have thB:∀ {i},au (W.pass false).1 i=true→B.clear.ai (ψ i)=((W.th i).k,((W.th i).fs.length:Int),0):=fun {i} hi=>by
   have h1:=oldB hi 0 (by omega) (by omega);rw [Int.add_zero] at h1;rw [cL (qH B h1),G.hd i hi];exact C.th i hi
  have hgr:((O.ar.grn:Nat):Int)≤B.grn:=by rw [G.grn];exact Int.ofNat_le.2 C.sm.grn
  have tz:Tile B.clear (O.ar.aN.2 ++ N.map ψ) B.clear.nur B.clear.grn:=by
   refine Tile.app (b:=O.ar.grn) ?_ ?_
   ·have hn:B.clear.nur=O.ar.nur:=(G.sm.nur).trans C.sm.nur;rw [hn];refine Tile.congr (fun p hp=>?_) R.tz;have:=(R.qA.mem_iff (a:=p)).1 hp;obtain ⟨i,hi,rfl⟩:=List.mem_map.1 this;obtain ⟨hl,ho⟩:=Wd.c8.1 hi;have hb:=C.so i hl ho;have:=thB hb;rw [C.po i hl ho] at this;rw [this,R.th i hl]
   ·have hg:B.clear.grn=(bI O).1.1.A.grn:=G.grn;rw [hg];refine Tile.congr (fun p hp=>?_) C.iP;obtain ⟨i,hi,rfl⟩:=List.mem_map.1 hp;have hb:=((C.nm i).1 hi).1;rw [thB hb,C.th i hb]
  have ty:Tile B.clear [] 0 B.clear.yng:=rfl;have hokC:B.clear.ok:=okB.clear;have hth:=Tile.aN hokC ty tz;have itx:∀ i ∈ (W.pass false).2.2,W.dD i.1∧(i.2.1=false→au (W.pass false).1 i.1.2=true):=by
   intro i hi;have h1:(i.1,i.2.1) ∈ (W.pass false).2.2.map (fun i=>(i.1,i.2.1)):=List.mem_map.2 ⟨i,hi,rfl⟩;rw [hits] at h1;obtain ⟨e,he',e2⟩:=List.mem_map.1 h1;have e3:e=i.1:=congrArg (fun p:(Int × Int) × Bool=>p.1) e2;have e4:(!au (W.cT W.wait (W.first false)) e.2)=i.2.1:=congrArg (fun p:(Int × Int) × Bool=>p.2) e2;have hgv:=R.hw.gv e he';rw [e3] at hgv e4;exact ⟨hgv,fun hd=>hfst _ (by rw [hd] at e4;simpa using e4)⟩
  have nowP:∀ {x:Int} {y:Int},au (W.pass false).1 x=true→lr φ ψ (fun k=>au (W.pass false).1 k=true) y (3,x)→fh (bI O).1 y=4*ψ x+1:=fun {x y} hx hw=>by
   have:=C.now R (v:=(3,x)) (.inr (.inr (.inr ⟨rfl,m.live x hx⟩))) hw (fun _=>hx);unfold fh;rw [this,bF ψ rfl]
  have hrg:bq bL fh (bI O).1 (bI O).2.2=(W.after false).ah.map (bp ψ):=by
   rw [hI]
   show bq bL fh (bI O).1 _=(bq au iM (W.pass false).1 (W.pass false).2.2).map (bp ψ)
   generalize (W.pass false).2.2=l at itx;unfold bq
   induction l with
   | nil=>rfl
   | cons i l ih=>
    have hi:=itx i (by simp);have ih:=ih (fun j hj=>itx j (by simp [hj]));have ea:bL (bI O).1 (cR φ i).1.1=au (W.pass false).1 i.1.1:=by
     show bL _ (bp φ i.1).1=_
     rw [dI];exact P.alive R hi.1.1
    simp only [List.map_cons,List.filter_cons,ea];have e2:(cR φ i).2=i.2:=rfl;rw [e2];by_cases hc:(!i.2.1 && au (W.pass false).1 i.1.1)=true
    ·rw [if_pos hc,if_pos hc];simp only [List.map_cons];simp only [Bool.and_eq_true,Bool.not_eq_true'] at hc;have n1:=nowP hc.2 (y:=(cR φ i).1.1) (.inl (by show (bp φ i.1).1=_;rw [dI]));have n2:=nowP (hi.2 hc.1) (y:=(cR φ i).1.2) (.inl (by show (bp φ i.1).2=_;rw [dI]));rw [ih,n1,n2];rfl
    ·rw [if_neg hc,if_neg hc];exact ih
  have hwt:bs bL fh (bI O).1 (bI O).2.1=(W.after false).wait.map (bp ψ):=by
   show _=(bs au iM (W.pass false).1 (W.pass false).2.1).map (bp ψ)
   have hq:=P.q;have hok:=P.ok;have hsh:∀ f ∈ (W.pass false).2.1,au (W.pass false).1 f.1=true→au (W.pass false).1 f.2=true:=fun f hf h=>P.shut f.1 f.2 h (.inr (.inr (.inr ⟨(hok f hf).2.1,hf⟩)));clear hcnt
   revert hq hok hsh
   generalize (bI O).2.1=l;generalize (W.pass false).2.1=mm;unfold bs
   induction l generalizing mm with
   | nil=>
    intro hq _ _;cases mm with
    | nil=>rfl
    | cons f mm=>exact hq.elim
   | cons e l ih=>
    intro hq hok hsh;cases mm with
    | nil=>exact hq.elim
    | cons f mm=>
     have ih:=ih mm hq.2 (fun g hg=>hok g (by simp [hg])) (fun g hg=>hsh g (by simp [hg]));have hf:=hok f (by simp);have ea:bL (bI O).1 e.1=au (W.pass false).1 f.1:=by rw [hq.1.1];exact P.alive R hf.1
     simp only [List.filter_cons,ea];by_cases hc:au (W.pass false).1 f.1=true
     ·rw [if_pos hc,if_pos hc];simp only [List.map_cons];rw [ih,nowP hc (.inl hq.1.1),nowP (hsh f (by simp) hc) hq.1.2];rfl
     ·rw [if_neg hc,if_neg hc];exact ih
  have hR64:∀ {i},au (W.pass false).1 i=true→a9 (4*ψ i+1):=fun hi=>by
   have:=pl hi;have h3:=C.sm.ok.h3;have h4:=C.sm.ok.h4;unfold a9;omega
  have hE64:∀ e,(W.after false).dD e→rn (bp ψ e):=fun e he=>⟨hR64 (lv.1 he.1),hR64 (lv.1 he.2.2)⟩;refine ⟨⟨hokC,?_,fun x hx=>?_,fun e he=>?_,fun e he=>?_,?_,by simpa using R.ho.hc⟩,hokA,by rw [hth];exact ty,by rw [hth];exact tz,fun i j hi hj e=>C.inj R (lv.1 hi) (lv.1 hj) e,fun p hp=>?_,fun i hi ho=>?_,fun i hi ho=>?_,fun i hi=>?_,fun i hi j v hv=>?_,
   P.rw_,hrg,hwt,?_,?_,by rw [List.length_map];exact R.cl,fun i hi ho v hv h3 hy=>?_⟩
  ·show (mRoots O.ar O.rt).2.length=12
   rw [P.rw_];simpa using R.hw.hr
  ·have hx':x ∈ (mRoots O.ar O.rt).2:=hx;rw [P.rw_] at hx';obtain ⟨v,hv,rfl⟩:=List.mem_map.1 hx';exact C.vU R (R.hw.rv v hv) (P.rt v hv)
  ·have he':e ∈ bq bL fh (bI O).1 (bI O).2.2:=he;rw [hrg] at he';obtain ⟨f,hf,rfl⟩:=List.mem_map.1 he';exact hE64 f (hokA.gv f hf)
  ·have he':e ∈ bs bL fh (bI O).1 (bI O).2.1:=he;rw [hwt] at he';obtain ⟨f,hf,rfl⟩:=List.mem_map.1 he';exact hE64 f (hokA.wv f hf)
  ·show (bq bL fh (bI O).1 (bI O).2.2).length+(bs bL fh (bI O).1 (bI O).2.1).length≤24
   rw [hrg,hwt,List.length_map,List.length_map];exact hokA.hq
  ·have hp':p ∈ B.clear.aN.1∨p ∈ B.clear.aN.2:=hp;rw [hth] at hp';dsimp only at hp';rcases hp' with h | h
   ·cases h
   ·rcases List.mem_append.1 h with h | h
    ·obtain ⟨i,hi,rfl⟩:=List.mem_map.1 ((R.qA.mem_iff (a:=p)).1 h);obtain ⟨hl,ho⟩:=Wd.c8.1 hi;exact ⟨i,lv.2 (C.so i hl ho),C.po i hl ho⟩
    ·obtain ⟨i,hi,rfl⟩:=List.mem_map.1 h;exact ⟨i,lv.2 ((C.nm i).1 hi).1,rfl⟩
  ·rw [olda (lv.1 hi)] at ho;cases ho
  ·show ψ i ∈ B.clear.aN.2
   rw [hth];have hb:=lv.1 hi;dsimp only;rw [List.mem_append];cases ho':(W.th i).aI
   ·exact .inr (List.mem_map.2 ⟨i,(C.nm i).2 ⟨hb,ho'⟩,rfl⟩)
   ·left;have hl:=m.live i hb;rw [C.po i hl ho'];exact R.ino i hl ho'
  ·have hb:=lv.1 hi;have hl:=m.live i hb
   show B.clear.ai (ψ i)=_
   rw [thB hb,tha hb,lI,jD (by rw [dh hl.1];exact hb) (R.hw.tk i hl)]
  ·have hb:=lv.1 hi;have hl:=m.live i hb;rw [tha hb] at hv
   show B.clear.load _=_
   have hj:j<(W.th i).fs.length:=by
    have:=(List.getElem?_eq_some_iff.1 hv).1;rwa [jD (by rw [dh hl.1];exact hb) (R.hw.tk i hl)] at this
   rw [qH B (by rw [Int.add_assoc];exact oldB hb _ (by omega) (by omega))];exact F i hb j v hv
  ·show (B.nur:Int)=W.most
   rw [G.sm.nur,C.sm.nur];exact R.nur
  ·show (B.ws.length:Int)=W.most+W.grow
   rw [G.sm.len,C.sm.len];exact R.len
  ·have hl3:(W.after false).live v.2:=Wd.aY (hokA.tv i hi v hv) h3;rw [olda (lv.1 hl3)] at hy;cases hy
end
end
section
theorem uz {α β:Type} (f:Nat→α→β) (l:List α) (a:α):(l ++ [a]).mapIdx f=l.mapIdx f ++ [f l.length a]:=by
 simp [List.mapIdx_append]
def iR (is:List Bool) (l:List Th) (k:Nat):Int:=fp is (l.take k)
theorem r7 {is:List Bool} {l:List Th} {k:Nat} (h:k<l.length):iR is l (k+1)=iR is l k+(if is.getD k false then (l.getD k Th.none).words else 0):=by
 unfold iR fp;rw [←List.take_append_getElem h,uz,List.sum_append,List.length_take,Nat.min_eq_left (by omega),Ld (l:=l),Le h];simp
theorem r8 (is:List Bool) (l:List Th):iR is l 0=0:=by simp [iR,fp]
theorem yA (is:List Bool) (l:List Th):iR is l l.length=fp is l:=by simp [iR]
theorem vj {W:Wd} (h:W.ok) {is:List Bool} (hl:∀ i,au is i=true→W.live i):∀ k:Nat,k≤W.T.length→0≤iR is W.T k∧iR is W.T k≤13*k
 | 0,_=>by rw [r8];omega
 | k+1,hk=>by
  have ih:=vj h hl k (by omega);rw [r7 (by omega)];split
  ·rename_i hb;have hlv:=hl (k:Int) (by rw [dH];exact hb);have hf:=bK (h.tk _ hlv);have e:W.th (k:Int)=W.T.getD k Th.none:=by unfold Wd.th;rw [Int.toNat_natCast]
   rw [e] at hf;unfold Th.words;omega
  ·omega
def gP (is:List Bool) (l:List Th) (k:Nat):List Th:=l.mapIdx fun i t=>if i<k then dM is i t else t
theorem xo (is:List Bool) (l:List Th):gP is l 0=l:=by
 unfold gP;apply List.ext_getElem (by simp);intro j h1 h2;simp
theorem yB (is:List Bool) (l:List Th):gP is l l.length=kF is l:=by
 unfold gP kF;apply List.ext_getElem (by simp);intro j h1 h2;have:j<l.length:=by simpa using h2
 simp [this]
theorem ia (is:List Bool) (l:List Th) (k:Nat):(gP is l k).length=l.length:=by simp [gP]
theorem tt (is:List Bool) (l:List Th) {k:Nat} (h:k<l.length):(gP is l k)[k]'(by rw [ia];exact h)=l[k]:=by simp [gP]
theorem xp (is:List Bool) (l:List Th) {k:Nat} (h:k<l.length):(gP is l k).set k (dM is k l[k])=gP is l (k+1):=by
 unfold gP;apply List.ext_getElem (by simp);intro j h1 h2;simp only [List.getElem_set,List.getElem_mapIdx];by_cases e:k=j
 ·subst e;simp
 ·rw [if_neg e];by_cases e2:j<k
  ·rw [if_pos e2,if_pos (by omega)]
  ·rw [if_neg e2,if_neg (by omega)]
theorem z5 {is:List Bool} {k:Nat} {t:Th} (h:is.getD k false=false):dM is k t=⟨t.k,[],t.aI,true⟩:=by unfold dM;rw [if_neg (by rw [h];decide)]
end
section
open Go.RowKit
theorem nX {P:Program} {w:World} {ops:Array Oper} {o:Oper} {a:Act} {rest:List Oper} {Q:Exit→Act→World→Prop} (hw:Region.wanted o (yielded ops a.tmps)=true) (t:TypeId) (x:Operand) (ho:o.op=.load t x) (hr:rowB P t 2=true) (b off:Nat) (hx:a.eval x=.pointer (some ⟨b,off,none⟩)) (v0 v1:Value)
  (h0:w.cell? ⟨b,off,none⟩=some v0) (h1:w.cell? ⟨b,off+1,none⟩=some v1) (h:wpList P ops Q rest (a.put o.dst (.agg #[v0,v1])) w):wpList P ops Q (o :: rest) a w:=by
 obtain ⟨d,hu,hd,hi⟩:=jW hr;exact wpList_step fun K hK=>by
  rw [if_pos hw];exact wp_load_mid t x ho b off hx [v0,v1] d (pn h0 h1) hu hd hi (hK _ _ h)
end
section
open Go.RowKit
theorem Wd.yC {W:Wd} {major:Bool} (h:(W.cut major).1≠0):(W.cut major).2=W:=by
 unfold Wd.cut at h ⊢;split
 ·rfl
 ·rename_i h1;rw [if_neg h1] at h;split
  ·rfl
  ·rename_i h2;rw [if_neg h2] at h;exact (h rfl).elim
end
section
open Go.RowKit
theorem Rd.Ci {w:World} {ao:Option Addr} {l:List Nat} (h:Rd w ao (l.map fun (k:Nat)=>Value.int .i64 (k:Int))) (i:Nat) (hi:i<l.length) :
  ∃ g o,ao=some ⟨g,o,none⟩∧g<w.heap.size∧w.cell? ⟨g,o+i,none⟩=some (.int .i64 ((l.getD i 0:Nat):Int)):=by
 obtain ⟨g,o,rfl,hg,hc⟩:=h (by intro e;simp at e;subst e;simp at hi);refine ⟨g,o,rfl,hg,?_⟩;rw [hc i (by simpa using hi)];simp [List.getD,hi]
theorem Wd.tu (W:Wd) (n:Int):(W.room n).2.T.length=W.T.length:=by
 unfold Wd.room;split
 ·unfold Wd.cut;split
  ·rfl
  ·split
   ·rfl
   ·exact Wd.lK
 ·rfl
section
variable {w:World} {h:RW} {W:Wd}
end
end
section
open Go.RowKit
def zu:List Int:=[0,1,1,3,7,3,7,7,1,6,3,3,6,3,7,0,0]
theorem vV (k:Nat) (hk:k<17) (w:World):(Instr.index 184 (.agg #[.int .i64 0, .int .i64 1, .int .i64 1, .int .i64 3, .int .i64 7, .int .i64 3, .int .i64 7, .int .i64 7, .int .i64 1, .int .i64 6, .int .i64 3, .int .i64 3, .int .i64 6, .int .i64 3, .int .i64 7, .int .i64 0, .int .i64 0]) (.int .i64 (k:Int))).run Tryz.prog w=.ok (.int .i64 (zu.getD k 0)) w:=by
 match k,hk with
 | 0,_=>show _=_;kernel_rfl
 | 1,_=>show _=_;kernel_rfl
 | 2,_=>show _=_;kernel_rfl
 | 3,_=>show _=_;kernel_rfl
 | 4,_=>show _=_;kernel_rfl
 | 5,_=>show _=_;kernel_rfl
 | 6,_=>show _=_;kernel_rfl
 | 7,_=>show _=_;kernel_rfl
 | 8,_=>show _=_;kernel_rfl
 | 9,_=>show _=_;kernel_rfl
 | 10,_=>show _=_;kernel_rfl
 | 11,_=>show _=_;kernel_rfl
 | 12,_=>show _=_;kernel_rfl
 | 13,_=>show _=_;kernel_rfl
 | 14,_=>show _=_;kernel_rfl
 | 15,_=>show _=_;kernel_rfl
 | 16,_=>show _=_;kernel_rfl
 | n+17,h=>omega
theorem xq:∀ n:Nat,n<17→1≤n→aP n=zu.getD n 0:=by decide
theorem Bb (k:Int) (w:World):Calls Tryz.prog 90 #[.int .i64 k] w fun e w'=>e=.returned (.int .i64 (aP k))∧w=w':=by
 by_cases h1:k<1
 ·have HE:=Hz (show aP k=-1 by unfold aP;repeat' (rw [if_neg (by omega)]));have d1:decide (k<1)=true:=by simpa using h1
  clear h1;go_enter Tryz.func90,Tryz.ntmps90;go_wp2_with fail;go_ret;exact ⟨eG HE.out.symm,rfl⟩
 by_cases h2:16<k
 ·have HE:=Hz (show aP k=-1 by unfold aP;repeat' (rw [if_neg (by omega)]));have d1:decide (k<1)=false:=by simp;omega
  have d2:decide (16<k)=true:=by simpa using h2
  clear h1 h2;go_enter Tryz.func90,Tryz.ntmps90;go_wp2_with fail;go_ret;exact ⟨eG HE.out.symm,rfl⟩
 ·obtain ⟨n,rfl⟩:∃ n:Nat,k=n:=⟨k.toNat,by omega⟩;have d1:decide ((n:Int)<1)=false:=by simpa using h1
  have d2:decide (16<(n:Int))=false:=by simpa using h2
  have HE:=Hz (xq n (by omega) (by omega));have hix:=vV n (by omega);clear h1 h2;go_enter Tryz.func90,Tryz.ntmps90;go_wp2_with fail;go_ret;exact ⟨eG HE.out.symm,rfl⟩
def gS (u:Int) (j:Nat) (k:Int):Bool:=!j2 u j || bJ k
theorem l6 (u:Int) (hu:u=0∨u=1∨u=3∨u=6∨u=7) (j:Nat) (hj:j=0∨j=1∨j=2) (bit:Int) (hbit:bit=2 ^ j) (k:Int) (b:Nat) (w:World) (hc:w.cell? ⟨b,0,none⟩=some (.int .i64 u)) (hl:b<w.heap.size) :
  Calls Tryz.prog 143 #[.int .i64 k, .int .i64 bit, .pointer (some ⟨b,0,none⟩)] w fun e w'=>e=.returned (.bool (gS u j k))∧w=w':=by
 have key:∀ z:Bool,decide (k≥0)=z→True:=fun _ _=>trivial;by_cases h0:k<0
 ·have d1:decide (0≤k)=false:=by simpa using h0
  have HR:=Hz (show bJ k=false by unfold bJ;rw [d1];rfl);clear h0;rcases hu with rfl | rfl | rfl | rfl | rfl <;> rcases hj with rfl | rfl | rfl <;> subst hbit <;> (go_enter Tryz.func143,Tryz.ntmps143;go_wp2_with fail;go_ret;exact ⟨db (by unfold gS;rw [HR.out];decide),rfl⟩)
 ·have d1:decide (0≤k)=true:=by simp;omega
  by_cases h1:k<12
  ·have d2:decide (k<12)=true:=by simpa using h1
   have HR:=Hz (show bJ k=true by unfold bJ;rw [d1,d2];rfl);clear h0 h1;rcases hu with rfl | rfl | rfl | rfl | rfl <;> rcases hj with rfl | rfl | rfl <;> subst hbit <;> (go_enter Tryz.func143,Tryz.ntmps143;go_wp2_with fail;go_ret;exact ⟨db (by unfold gS;rw [HR.out];decide),rfl⟩)
  ·have d2:decide (k<12)=false:=by simpa using h1
   have HR:=Hz (show bJ k=false by unfold bJ;rw [d1,d2];rfl);clear h0 h1;rcases hu with rfl | rfl | rfl | rfl | rfl <;> rcases hj with rfl | rfl | rfl <;> subst hbit <;> (go_enter Tryz.func143,Tryz.ntmps143;go_wp2_with fail;go_ret;exact ⟨db (by unfold gS;rw [HR.out];decide),rfl⟩)
end
section
open Go.RowKit
theorem xt {x:St} (h:aP x.k≠-1) {j:Nat} (hj:j<3) (hb:gS (aP x.k) j (x.qz j)=false):bz x=1:=by
 unfold gS at hb;simp only [Bool.or_eq_false_iff,Bool.not_eq_false'] at hb;exact ur h hj hb.1 hb.2
theorem vW {x:St} (h0:gS (aP x.k) 0 x.r=true) (h1:gS (aP x.k) 1 x.a=true) (h2:gS (aP x.k) 2 x.b=true):∀ j,j<3→j2 (aP x.k) j=true→bJ (x.qz j)=true:=by
 intro j hj hb;have key:∀ {k:Int},gS (aP x.k) j k=true→bJ k=true:=fun {k} h=>by
  unfold gS at h;rw [hb] at h;simpa using h
 rcases (by omega:j=0∨j=1∨j=2) with rfl | rfl | rfl
 ·exact key h0
 ·exact key h1
 ·exact key h2
theorem dx (x:St) (w:World):Calls Tryz.prog 91 #[.agg #[.int .i64 x.k, .int .i64 x.r, .int .i64 x.a, .int .i64 x.b, .int .i64 x.i, .int .i64 x.n]] w fun e w'=>e=.returned (.int .i64 (bz x))∧aa (fun _=>False) w w':=by
 have HU:=Hz (fun w=>Bb x.k w);have HN:=Hz (fun h=>uq (x:=x) h);have HR:=Hz (fun (h1:aP x.k≠-1) j (h2:j<3) h3=>xt (x:=x) h1 (j:=j) h2 h3);have HX:=Hz (fun (h:aP x.k≠-1) h0 h1 h2=>uu (x:=x) h (vW h0 h1 h2));have hv:=vM x.k;have B1:aj (w.alloc (.cells #[.int .i64 x.k, .int .i64 x.r, .int .i64 x.a, .int .i64 x.b, .int .i64 x.i, .int .i64 x.n] 69)) w.heap.size [.int .i64 x.k, .int .i64 x.r, .int .i64 x.a, .int .i64 x.b, .int .i64 x.i, .int .i64 x.n] 69:=aj.newAt _ rfl rfl;have ka:=(Kz w).alloc (.cells #[.int .i64 x.k, .int .i64 x.r, .int .i64 x.a, .int .i64 x.b, .int .i64 x.i, .int .i64 x.n] 69);obtain ⟨xk,xr,xa,xb,xi,xn⟩:=x;dsimp only at hv B1 ka;generalize hu:aP xk=u at hv;have hU:=Hz hu;dsimp only at HU HR HX HN;rw [hu] at HU HR HX HN;clear hu;go_enter Tryz.func91,Tryz.ntmps91;go_wp2_with fail;generalize w.alloc (.cells #[.int .i64 xk, .int .i64 xr, .int .i64 xa, .int .i64 xb, .int .i64 xi, .int .i64 xn] 69)=w1 at *;generalize w.heap.size=p at *;refine (HU.out _).mono ?_;rintro e _ ⟨rfl,rfl⟩;have p0:=B1.cell 0;have p1:=B1.cell 1;have p2:=B1.cell 2;have p3:=B1.cell 3;have p5:=B1.cell 5;have pl:=B1.lt;simp only [Lz,aC] at p0 p1 p2 p3 p5;have HB:=Hz B1;have K1:=Hz ka;clear B1 ka HU;by_cases hneg:u=-1
 ·have HE:=Hz (HN.out hneg);subst hneg;clear hv;go_wp2_with fail;go_ret;exact ⟨eG HE.out.symm,K1.out.alloc _⟩
 ·have hd:decide (u<0)=false:=by simp;omega
  have hu5:u=0∨u=1∨u=3∨u=6∨u=7:=by omega
  have HNN:=Hz hneg;have hR:=HR.out hneg;have hX:=HX.out hneg;have HR:=Hz hR;have HX:=Hz hX;have HU5:=Hz hu5;clear hneg hv hR hX hu5;go_upto_region 4 with (fail)
  have ka:=(Kz w1).alloc (.cells #[.int .i64 u] 3);have hub:aj (w1.alloc (.cells #[.int .i64 u] 3)) w1.heap.size [.int .i64 u] 3:=aj.newAt _ rfl rfl;have HB2:=Hz (ka.aq HB.out (fun h=>h));have K2:=Hz (K1.out.trans ka);clear p0 p1 p2 p3 p5 pl ka HB K1;generalize w1.alloc (.cells #[.int .i64 u] 3)=w2 at *;generalize w1.heap.size=q at *;have p0:=HB2.out.cell 0;have p1:=HB2.out.cell 1;have p2:=HB2.out.cell 2;have p3:=HB2.out.cell 3;have p5:=HB2.out.cell 5;have pl:=HB2.out.lt;simp only [Lz,aC] at p0 p1 p2 p3 p5;have q0:=hub.cell 0;have ql:=hub.lt;simp only [Lz] at q0;have C0:=Hz (l6 u HU5.out 0 (by decide) 1 rfl xr q w2 q0 ql);have C1:=Hz (l6 u HU5.out 1 (by decide) 2 rfl xa q w2 q0 ql);have C2:=Hz (l6 u HU5.out 2 (by decide) 4 rfl xb q w2 q0 ql);clear hub q0 ql;obtain ⟨z0,h0⟩:∃ z,gS u 0 xr=z:=⟨_,rfl⟩;obtain ⟨z1,h1⟩:∃ z,gS u 1 xa=z:=⟨_,rfl⟩;obtain ⟨z2,h2⟩:∃ z,gS u 2 xb=z:=⟨_,rfl⟩;rw [h0] at C0;rw [h1] at C1;rw [h2] at C2;have H0:=Hz h0;have H1:=Hz h1;have H2:=Hz h2;clear h0 h1 h2;go_wp2_with fail;refine C0.out.mono ?_;rintro e _ ⟨rfl,rfl⟩;cases z0
  ·have HE:=Hz (HR.out 0 (by decide) H0.out);go_wp2_with fail;go_ret;exact ⟨eG HE.out.symm,K2.out⟩
  go_wp2_with fail;refine C1.out.mono ?_;rintro e _ ⟨rfl,rfl⟩;cases z1
  ·have HE:=Hz (HR.out 1 (by decide) H1.out);go_wp2_with fail;go_ret;exact ⟨eG HE.out.symm,K2.out⟩
  go_wp2_with fail;refine C2.out.mono ?_;rintro e _ ⟨rfl,rfl⟩;cases z2
  ·have HE:=Hz (HR.out 2 (by decide) H2.out);go_wp2_with fail;go_ret;exact ⟨eG HE.out.symm,K2.out⟩
  have HX2:=Hz (HX.out H0.out H1.out H2.out);clear HX HR C0 C1 C2;by_cases k1:xk=1
  ·subst k1;by_cases n2:xn < -1152921504606846976
   ·have HE:=Hz (show bz ⟨1,xr,xa,xb,xi,xn⟩=1 by rw [HX2.out,if_pos ⟨rfl,fun h=>by unfold cN at h;omega⟩]);have d2:decide (xn < -1152921504606846976)=true:=by simpa using n2
    clear n2 HX2;go_wp2_with fail;go_ret;exact ⟨eG HE.out.symm,K2.out⟩
   have d2:decide (xn < -1152921504606846976)=false:=by simpa using n2
   by_cases n1:1152921504606846976≤xn
   ·have HE:=Hz (show bz ⟨1,xr,xa,xb,xi,xn⟩=1 by rw [HX2.out,if_pos ⟨rfl,fun h=>by unfold cN at h;omega⟩]);have d1:decide (1152921504606846976≤xn)=true:=by simpa using n1
    clear n1 n2 HX2;go_wp2_with fail;go_ret;exact ⟨eG HE.out.symm,K2.out⟩
   ·have HE:=Hz (show bz ⟨1,xr,xa,xb,xi,xn⟩=0 by rw [HX2.out,if_neg (fun h=>h.2 (by unfold cN;omega)),if_neg (fun h=>by omega)]);have d1:decide (1152921504606846976≤xn)=false:=by simpa using n1
    clear n1 n2 HX2;go_wp2_with fail;go_ret;exact ⟨eG HE.out.symm,K2.out⟩
  ·have e1:(xk == 1)=false:=by simpa using k1
   by_cases k5:xk=5
   ·subst k5;by_cases n1:xn<0
    ·have HE:=Hz (show bz ⟨5,xr,xa,xb,xi,xn⟩=1 by rw [HX2.out,if_neg (fun h=>by omega),if_pos ⟨rfl,fun h=>by omega⟩]);have d1:decide (xn<0)=true:=by simpa using n1
     clear n1 HX2 k1;go_wp2_with fail;go_ret;exact ⟨eG HE.out.symm,K2.out⟩
    have d1:decide (xn<0)=false:=by simpa using n1
    by_cases n2:12<xn
    ·have HE:=Hz (show bz ⟨5,xr,xa,xb,xi,xn⟩=1 by rw [HX2.out,if_neg (fun h=>by omega),if_pos ⟨rfl,fun h=>by omega⟩]);have d2:decide (12<xn)=true:=by simpa using n2
     clear n1 n2 HX2 k1;go_wp2_with fail;go_ret;exact ⟨eG HE.out.symm,K2.out⟩
    ·have HE:=Hz (show bz ⟨5,xr,xa,xb,xi,xn⟩=0 by rw [HX2.out,if_neg (fun h=>by omega),if_neg (fun h=>h.2 (by omega))]);have d2:decide (12<xn)=false:=by simpa using n2
     clear n1 n2 HX2 k1;go_wp2_with fail;go_ret;exact ⟨eG HE.out.symm,K2.out⟩
   ·have e5:(xk == 5)=false:=by simpa using k5
    have HE:=Hz (show bz ⟨xk,xr,xa,xb,xi,xn⟩=0 by rw [HX2.out,if_neg (fun h=>k1 h.1),if_neg (fun h=>k5 h.1)]);clear k1 k5 HX2;go_wp2_with fail;go_ret;exact ⟨eG HE.out.symm,K2.out⟩
end
section
open Go.RowKit
def WH.In (h:WH) (k:Nat):Prop:=(k=h.pa∨k=h.g)∨k=h.cb
def j4 (w:World) (h:WH) (w':World) (O:Wo):Prop:=bh w' h O∧aa h.In w w'
theorem WH.In.own {h:WH} {k:Nat} (hk:h.In k):h.Own k:=by
 rcases hk with hk | hk
 ·exact .inr (.inl hk)
 ·exact .inr (.inr (.inl (.inr hk)))
section
variable {w w':World} {h:WH} {O O':Wo}
theorem j4.bT (H:bh w h O) {A:Ar} (t:aT w h.pa h.g w' A) (hn:A.nur=O.ar.nur):j4 w h w' { O with ar:=A }:=
 ⟨H.bT t hn,t.k.mono (fun k _ hk=>.inl hk)⟩
theorem z6 (x i y:Int) (H:bh w h O) (hy:a9 y) :
  Calls Tryz.prog 47 #[.pointer (some ⟨h.p,0,none⟩), .int .i64 x, .int .i64 i, .int .i64 y] w fun e w'=>
   e=.returned (.int .i64 (O.set x i y).1)∧j4 w h w' (O.set x i y).2:=by
 have HH:=Hz H;have HY:=Hz hy;have pl:=H.hp.lt;have h4:=H.ok.ha.h4;have HN:=Hz (show 0≤(O.ar.nur:Int)∧(O.ar.nur:Int)≤1000000 by have:=H.ok.ha.h1;have:=H.ok.ha.h2;have:=H.ok.ha.h3;omega);by_cases hc:(O.ar.get x i).2=0
 ·have HE:=Hz (Wo.uX (y:=y) hc);obtain ⟨p1,-,p2,p3,p4,p5,-⟩:=rT H.ok.ha hc;have p6:=(O.ar.aO (x/4)).2;have p7:i<12:=by omega
  have P1:=Hz p1;have HC:=Hz hc;clear H hy hc p1 p5 p6;go_enter Tryz.func47,Tryz.ntmps47;go_wp2_with fail;refine (qq x i HH.out).mono ?_;rintro e w1 ⟨rfl,rfl⟩;rw [HC.out];go_wp2_with fail;refine (dz x _ P1.out).mono ?_;rintro e w1 ⟨rfl,rfl⟩;obtain ⟨c0,-,-,-⟩:=HH.out.dY;go_wp2_with fail;refine (gI (x/4+1+i) y _ HH.out.ha HY.out).mono ?_;rintro e w1 ⟨rfl,ht⟩;have HT:=Hz ht.k;have HW:=Hz (HH.out.bT ht (O.ar.cU _ _));have HTO:=Hz (j4.bT HH.out ht (O.ar.cU _ _));clear c0 pl ht;generalize hA:O.ar.store (x/4+1+i) y=A at *;have HA:=Hz hA;clear hA;obtain ⟨c0,c1,-,-⟩:=HW.out.dY;have pl:=HW.out.hp.lt;by_cases hy4:y%4=1
  ·have HY4:=Hz hy4;cases hyo:A.az (y/4)
   ·have HF:=Hz (show ¬ (y%4=1∧A.az (y/4)=true∧A.aI (x/4)=true) by rw [hyo];exact fun h=>by cases h.2.1);clear hy4;go_wp2_with fail;refine (dz y _ HY4.out).mono ?_;rintro e w2 ⟨rfl,rfl⟩;go_wp2_with fail;refine (cO (y/4) _ HW.out.ha).mono ?_;rintro e w2 ⟨rfl,rfl⟩;rw [hyo];go_wp2_with fail;go_ret;refine ⟨by rw [HE.out];rfl,?_⟩;rw [HE.out,if_neg HF.out];exact HTO.out
   ·cases hol:A.aI (x/4)
    ·have HF:=Hz (show ¬ (y%4=1∧A.az (y/4)=true∧A.aI (x/4)=true) by rw [hol];exact fun h=>by cases h.2.2);clear hy4;go_wp2_with fail;refine (dz y _ HY4.out).mono ?_;rintro e w2 ⟨rfl,rfl⟩;go_wp2_with fail;refine (cO (y/4) _ HW.out.ha).mono ?_;rintro e w2 ⟨rfl,rfl⟩;rw [hyo];go_wp2_with fail;refine (iG (x/4) _ HW.out.ha).mono ?_;rintro e w2 ⟨rfl,rfl⟩;rw [hol];go_wp2_with fail;go_ret;refine ⟨by rw [HE.out];rfl,?_⟩;rw [HE.out,if_neg HF.out];exact HTO.out
    ·have HF:=Hz (show (y%4=1∧A.az (y/4)=true∧A.aI (x/4)=true) from ⟨hy4,hyo,hol⟩);clear hy4;go_wp2_with fail;refine (dz y _ HY4.out).mono ?_;rintro e w2 ⟨rfl,rfl⟩;go_wp2_with fail;refine (cO (y/4) _ HW.out.ha).mono ?_;rintro e w2 ⟨rfl,rfl⟩;rw [hyo];go_wp2_with fail;refine (iG (x/4) _ HW.out.ha).mono ?_;rintro e w2 ⟨rfl,rfl⟩;rw [hol];go_wp2_with fail;have hcc:=HW.out.hc;have hcl:=HW.out.ok.hc;have hnn:A.nur=O.ar.nur:=by rw [←HA.out];exact O.ar.cU _ _
     refine (wP h.pc h.cb A.nur (x/4) O.cd _ hcc (by rw [hnn];exact HN.out.1) (by rw [hnn];exact HN.out.2) (by omega) (by omega) (by simpa using Nat.le_trans hcl (by decide))).mono ?_;rintro e w2 ⟨rfl,hc2,hk2⟩;have HTO2:=Hz (show j4 w h w2 { O with ar:=A,cd:=gR O.ar.nur O.cd (x/4) } by
      have:=HW.out.cards hc2 (by rw [gX];exact hcl) hk2;rw [hnn] at this
      exact ⟨this,(HT.out.mono (fun k _ hk=>.inl hk)).then hk2 (fun k hk=>.inl (.inr hk))⟩)
     clear hcc hcl hnn hc2 hk2;go_wp2_with fail;go_ret;refine ⟨by rw [HE.out];rfl,?_⟩;rw [HE.out,if_pos HF.out];exact HTO2.out
  ·have HY4:=Hz hy4;have HF:=Hz (show ¬ (y%4=1∧A.az (y/4)=true∧A.aI (x/4)=true) from fun h=>hy4 h.1);clear hy4;go_wp2_with fail;refine (lF y _ HY4.out).mono ?_;rintro e w2 ⟨rfl,rfl⟩;go_wp2_with fail;go_ret;refine ⟨by rw [HE.out];rfl,?_⟩;rw [HE.out,if_neg HF.out];exact HTO.out
 ·have HE:=Hz (Wo.wU (y:=y) hc);have HTC:=Hz (qq x i H);obtain ⟨⟨a,c⟩,hT⟩:∃ t,O.ar.get x i=t:=⟨_,rfl⟩;rw [hT] at hc HE HTC;dsimp only at hc HE HTC;have hcb:(c != 0)=true:=by simpa using hc
  clear H hc hT;go_enter Tryz.func47,Tryz.ntmps47;go_wp2_with fail;refine HTC.out.mono ?_;rintro e w1 ⟨rfl,rfl⟩;go_wp2_with fail;go_ret;refine ⟨by rw [HE.out];rfl,?_⟩;rw [HE.out];exact ⟨HH.out,aa.refl _ _⟩
end
end
section
open Go.RowKit
section
variable {w w':World} {h:WH} {O:Wo}
theorem bh.roots (H:bh w h O):∃ g o cap,h.ro=.slice (some ⟨g,o,none⟩) O.rt.length cap∧ak h.ro g∧g<w.heap.size∧w.cell? ⟨h.p,3,none⟩=some (.slice (some ⟨g,o,none⟩) O.rt.length cap)∧(∀ k,w.frozen? ⟨g,k,none⟩=false) ∧
  ∀ k,k<O.rt.length→w.cell? ⟨g,o+k,none⟩=some (.int .i64 (O.rt.getD k 0)):=by
 obtain ⟨ao,cap,e,hrd,-,-⟩:=H.hr.rd;have h12:=H.ok.h12;obtain ⟨g,o,rfl,hg,hc⟩:=hrd (by intro e;have:=congrArg List.length e;rw [List.length_map,h12] at this;cases this);have hown:ak h.ro g:=by rw [e];rfl
 obtain ⟨-,cur,hb⟩:=H.hr.own hown;refine ⟨g,o,cap,e,hown,hg,by have:=H.dY.2.2.2;rw [e] at this;exact this,fun k=>hb.free k,fun k hk=>?_⟩;rw [hc k (by simpa using hk)];simp [List.getD,hk]
theorem bh.rA (H:bh w h O) {g o cap k:Nat} {x:Int} (e:h.ro=.slice (some ⟨g,o,none⟩) O.rt.length cap) (hk:k<O.rt.length) (hx:a9 x) :
  bh (w.setCell ⟨g,o+k,none⟩ (.int .i64 x)) h { O with rt:=O.rt.set k x }∧aa (ak h.ro) w (w.setCell ⟨g,o+k,none⟩ (.int .i64 x)):=by
 have hown:ak h.ro g:=by rw [e];rfl
 have kk:aa (ak h.ro) w (w.setCell ⟨g,o+k,none⟩ (.int .i64 x)):=(aa.refl _ _).setCell (p:=⟨g,o+k,none⟩) (.inl hown) _;refine ⟨⟨kk.aq H.hp (H.kB H.hp (by decide)),H.ha.ab kk (H.kB H.ha.hp (by decide)) H.ap,H.hc.ab kk (H.kB H.hc.hp (by decide)) (H.kB H.hc.hq (by decide)),H.hs.ab kk (fun b hb=>?_),?_,H.ap, { H.ok with h12:=by simpa using H.ok.h12,hR:=fun y hy=>?_ }⟩,kk⟩
 ·obtain ⟨c,T,hc,hT⟩:=H.hs.cF hb;rcases hT with rfl | rfl
  ·exact H.kB hc (by decide)
  ·exact H.kB hc (by decide)
 ·have hs:=H.hr;rw [e] at hs ⊢;have:=hs.set (j:=k) (u:=.int .i64 x) (by omega)
  show Sl _ _ _ _ (O.rt.set k x).length ((O.rt.set k x).map _)
  rw [List.length_set,List.map_set];exact this
 ·rcases List.mem_or_eq_of_mem_set hy with h1 | rfl
  ·exact H.ok.hR y h1
  ·exact hx
end
end
section
section
variable {W:Wd}
def Wd.all (W:Wd):List Int:=W.idx false ++ W.idx true
theorem Wd.i7 {i:Int}:i ∈ W.all↔W.live i:=by
 unfold Wd.all;rw [List.mem_append,Wd.c8,Wd.c8];constructor
 ·rintro (h | h) <;> exact h.1
 ·intro h;cases ho:(W.th i).aI
  ·exact .inl ⟨h,rfl⟩
  ·exact .inr ⟨h,rfl⟩
theorem Wd.vm (h:W.ok) {i:Int} (hi:W.live i) {v:Vl} (hv:v ∈ (W.gr i).2) (h3:v.1=3):W.live v.2:=by
 unfold Wd.gr at hv;dsimp only at hv;rcases List.mem_append.1 hv with h1 | h1
 ·exact Wd.aY (h.tv i hi v h1) h3
 ·split at h1
  ·obtain ⟨x,hx,rfl⟩:=List.mem_map.1 h1;unfold dS at hx;obtain ⟨e,he,rfl⟩:=List.mem_map.1 hx;exact (h.wv e (List.mem_filter.1 he).1).2.2
  ·cases h1
theorem Wd.rS (h:W.ok):uU W.gr W.all:=⟨fun i hi v hv h3=>Wd.i7.2 (Wd.vm h (Wd.i7.1 hi) hv h3)⟩
theorem Wd.rB (h:W.ok):W.all.length≤1300:=by
 have key:∀ b,((W.idx b).length:Int)≤((W.idx b).map fun i=>(W.th i).words).sum:=fun b=>by
  generalize W.idx b=l
  induction l with
  | nil=>simp
  | cons a l ih=>
   have hw:(W.th a).words=1+((W.th a).fs.length:Int):=rfl;simp only [List.length_cons,List.map_cons,List.sum_cons];omega
 have h1:=key false;have h2:=key true;rw [Wd.iZ] at h1 h2;have e1:(dL W.T fun t=>!t.dead && (t.aI == false))=W.az:=by unfold Wd.az;congr 1;funext t;cases t.aI <;> rfl
 have e2:(dL W.T fun t=>!t.dead && (t.aI == true))=W.cm:=by unfold Wd.cm;congr 1;funext t;cases t.aI <;> rfl
 rw [e1] at h1;rw [e2] at h2;have:=h.uy;have:=h.uo;have:=h.m2;have:=h.g2;unfold Wd.all;rw [List.length_append];omega
def Wd.met (W:Wd):List Int:=lh W.gr W.roots
structure Seen (W:Wd):Prop where
 eq:W.view=(W.roots.map (gN W.met),W.met.map fun x=>pI W.met (W.gr x))
 nd:W.met.Nodup
 rt:∀ v ∈ W.roots,v.1=3→v.2 ∈ W.met
 fd:∀ x ∈ W.met, ∀ v ∈ (W.gr x).2,v.1=3→v.2 ∈ W.met
 led:∀ (k:Nat) (x:Int),W.met[k]? = some x→((3,x):Vl) ∈ W.roots∨∃ (j:Nat) (y:Int),j<k∧W.met[j]? = some y∧((3,x):Vl) ∈ (W.gr y).2
 lv:∀ x ∈ W.met,W.live x
theorem Wd.seen (h0:W.ok):Seen W:=by
 have h:=h0;have hr:∀ v ∈ W.roots,v.1=3→v.2 ∈ W.all:=fun v hv h3=>Wd.i7.2 (Wd.aY (h.rv v hv) h3);obtain ⟨h1,h2,h3,h4,h5⟩:=vO (Wd.rS h) (by have:=Wd.rB h;unfold deep;omega) hr;refine ⟨h1,h2,h3,h4,h5,?_⟩;have key:∀ (k:Nat) (x:Int),W.met[k]? = some x→W.live x:=by
  intro k
  induction k using Nat.strongRecOn with
  | _ k ih=>
   intro x hx;rcases h5 k x hx with h | ⟨j,y,hj,hy,hm⟩
   ·exact Wd.aY (h0.rv _ h) rfl
   ·exact Wd.vm h0 (ih j hj y hy) hm rfl
 intro x hx;obtain ⟨k,hk,rfl⟩:=List.mem_iff_getElem.1 hx;exact key k _ (Le hk)
theorem Seen.lens (S:Seen W) (h:W.ok):W.view.1.length=12∧W.view.2.length≤1300∧∀ n ∈ W.view.2,n.2.length≤100:=by
 rw [S.eq];refine ⟨by simpa using h.hr,?_,fun n hn=>?_⟩
 ·dsimp only;rw [List.length_map];have hsub:∀ x ∈ W.met,x ∈ W.all:=fun x hx=>Wd.i7.2 (S.lv x hx);have h1:=mi (f:=fun _=>1) (fun _=>by decide) S.nd hsub;have e:∀ l:List Int,(l.map fun _=>(1:Int)).sum=l.length:=fun l=>by
   induction l with
   | nil=>rfl
   | cons a l ih=>simp only [List.map_cons,List.sum_cons,ih,List.length_cons];omega
  rw [e,e] at h1;have:=Wd.rB h;omega
 ·obtain ⟨x,hx,rfl⟩:=List.mem_map.1 hn;have hl:=S.lv x hx;have h1:=(bK (h.tk x hl)).2.2.2;have h2:=h.hq;have h3:(dS W.wait x).length≤W.wait.length:=by unfold dS;rw [List.length_map];exact List.length_filter_le _ _
  unfold pI Wd.gr;simp only [List.length_map,List.length_append];split
  ·rw [List.length_map];omega
  ·simp;omega
end
end
section
open Go.RowKit
theorem vn {m k:Nat} {x y:Value} (hx:x=.int .i64 ((k+1:Nat):Int)) (hy:y=.int .i64 (k:Int)) (h:k<m):m-(intOf x).toNat<m-(intOf y).toNat:=by
 subst hx;subst hy;simp [intOf];omega
section
variable {w0 w w':World} {p:Nat} {h:WH} {O O':Wo}
end
end
end Go.Proofs.YtjifdalflepcoacGreat
