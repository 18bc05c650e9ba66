/-
  Parts of the proof, merged: what the functions do, and plain laws.
-/
import Derived.Deep.CutBlock
import Derived.Laws.Tables
import Derived.Maps.Own
import Derived.Maps.OwnSet
import Derived.Test.YtjifdalflepcoadGreatTRPP0
set_option maxHeartbeats 16000000
set_option maxRecDepth 100000
set_option linter.unusedVariables false
set_option linter.unusedSimpArgs false
namespace Go.Proofs.YtjifdalflepcoadGreat
section
abbrev Vl:=Int × Int
abbrev Nd:=Int × List Vl
abbrev Gr:=Int->Nd
abbrev VS:=List Int × List Nd
def ij (n:Nat):Vl:=(3,(n:Int))
def fldM (f:Vl->VS->Vl × VS):List Vl->VS->List Vl × VS
 | [],s=>([],s)
 | v :: l,s=>((f v s).1 :: (fldM f l (f v s).2).1,(fldM f l (f v s).2).2)
def valM (G:Gr):Nat->Vl->VS->Vl × VS
 | 0,v,s=>if v.1=3 then (ij (s.1.idxOf v.2),s) else (v,s)
 | n+1,v,s=>
  if v.1=3 then
   if v.2 ∈ s.1 then (ij (s.1.idxOf v.2),s)
   else
    let r:=fldM (valM G n) (G v.2).2 (s.1 ++ [v.2],s.2 ++ [((G v.2).1,[])])
    (ij s.1.length,(r.2.1,r.2.2.set s.1.length ((G v.2).1,r.1)))
  else (v,s)
theorem dK (G:Gr) (n:Nat) {v:Vl} (s:VS) (h:v.1≠3):valM G n v s=(v,s):=by
 cases n <;> simp [valM,h]
theorem fV (G:Gr) (n:Nat) {v:Vl} {s:VS} (h:v.1=3) (hm:v.2 ∈ s.1):valM G n v s=(ij (s.1.idxOf v.2),s):=by
 cases n <;> simp [valM,h,hm]
theorem eQ (G:Gr) (n:Nat) {v:Vl} {s:VS} (h:v.1=3) (hm:¬ v.2 ∈ s.1):valM G (n+1) v s =
  (ij s.1.length,((fldM (valM G n) (G v.2).2 (s.1 ++ [v.2],s.2 ++ [((G v.2).1,[])])).2.1,
   (fldM (valM G n) (G v.2).2 (s.1 ++ [v.2],s.2 ++ [((G v.2).1,[])])).2.2.set s.1.length ((G v.2).1,(fldM (valM G n) (G v.2).2 (s.1 ++ [v.2],s.2 ++ [((G v.2).1,[])])).1))):=by
 simp [valM,h,hm]
theorem mU (f:Vl->VS->Vl × VS):∀ (a b:List Vl) (s:VS),fldM f (a ++ b) s=((fldM f a s).1 ++ (fldM f b (fldM f a s).2).1,(fldM f b (fldM f a s).2).2)
 | [],b,s=>rfl
 | v :: a,b,s=>by simp [fldM,mU f a b]
theorem mV (f:Vl->VS->Vl × VS):∀ (a:List Vl) (s:VS),(fldM f a s).1.length=a.length
 | [],_=>rfl
 | v :: a,s=>by simp [fldM,mV f a]
def deep:Nat:=5000
def gB (G:Gr) (roots:List Vl):List Vl × List Nd:=((fldM (valM G deep) roots ([],[])).1,(fldM (valM G deep) roots ([],[])).2.2)
def eX (φ:Int->Int) (v:Vl):Vl:=if v.1=3 then (3,φ v.2) else v
theorem p9 (φ:Int->Int) (v:Vl):(eX φ v).1=v.1:=by unfold eX;split <;> simp_all
structure xZ (G H:Gr) (P:Int->Prop) (φ:Int->Int):Prop where
 inj:∀ i j,P i->P j->φ i=φ j->i=j
 same:∀ i,P i->H (φ i)=((G i).1,(G i).2.map (eX φ))
 shut:∀ i,P i->∀ v ∈ (G i).2,v.1=3->P v.2
theorem oC {φ:Int->Int} {P:Int->Prop} (inj:∀ i j,P i->P j->φ i=φ j->i=j) {x:Int} (hx:P x):∀ (l:List Int),(∀ i ∈ l,P i)->(l.map φ).idxOf (φ x)=l.idxOf x/\(φ x ∈ l.map φ↔x ∈ l)
 | [],_=>by simp
 | a :: l,h=>by
  obtain ⟨h1,h2⟩:=oC inj hx l (λi hi=>h i (by simp [hi]));have ha:=h a (by simp);by_cases e:a=x
  ·subst e;simp
  ·have e':φ a≠φ x:=λe'=>e (inj _ _ ha hx e');refine ⟨?_,?_⟩
   ·have b1:(φ a == φ x)=false:=by simpa using e'
    have b2:(a == x)=false:=by simpa using e
    rw [Zs,List.idxOf_cons,List.idxOf_cons,h1,b1,b2]
   ·rw [Zs,List.mem_cons,List.mem_cons,h2];simp [Ne.symm e,Ne.symm e']
theorem zo {G H:Gr} {P:Int->Prop} {φ:Int->Int} (I:xZ G H P φ):∀ (n:Nat) (v:Vl) (s:VS),(v.1=3->P v.2)->(∀ i ∈ s.1,P i) ->
  valM H n (eX φ v) (s.1.map φ,s.2)=((valM G n v s).1,((valM G n v s).2.1.map φ,(valM G n v s).2.2))/\∀ i ∈ (valM G n v s).2.1,P i:=by
 intro n
 induction n with
 | zero=>
  intro v s hv hs;by_cases h3:v.1=3
  ·have:=oC I.inj (hv h3) s.1 hs;simp only [valM,h3,eX,if_true,this.1];exact ⟨trivial,hs⟩
  ·have e:eX φ v=v:=by unfold eX;rw [if_neg h3]
   rw [dK G _ _ h3,e,dK H _ _ h3];exact ⟨rfl,hs⟩
 | succ n ih=>
  intro v s hv hs;by_cases h3:v.1=3
  ·have hx:=hv h3;have hi:=oC I.inj hx s.1 hs;by_cases hm:v.2 ∈ s.1
   ·rw [fV G _ h3 hm,fV H _ (by rw [p9];exact h3) (by simp only [eX,h3,if_true];exact hi.2.2 hm)];simp only [eX,h3,if_true,hi.1];exact ⟨trivial,hs⟩
   ·have fl:∀ (l:List Vl) (s:VS),(∀ u ∈ l,u.1=3->P u.2)->(∀ i ∈ s.1,P i) ->
      fldM (valM H n) (l.map (eX φ)) (s.1.map φ,s.2)=((fldM (valM G n) l s).1,((fldM (valM G n) l s).2.1.map φ,(fldM (valM G n) l s).2.2))/\∀ i ∈ (fldM (valM G n) l s).2.1,P i:=by
     intro l
     induction l with
     | nil=>intro s _ hs;exact ⟨rfl,hs⟩
     | cons u l ihl=>
      intro s hl hs;obtain ⟨h1,h2⟩:=ih u s (hl u (by simp)) hs;obtain ⟨h4,h5⟩:=ihl (valM G n u s).2 (λu hu=>hl u (by simp [hu])) h2;simp only [Zs,fldM,h1];rw [h4];exact ⟨rfl,h5⟩
    have hs':∀ i ∈ s.1 ++ [v.2],P i:=by
     intro i hi';rcases Zk.1 hi' with h | h
     ·exact hs i h
     ·rw [List.mem_singleton.1 h];exact hx
    obtain ⟨h1,h2⟩:=fl (G v.2).2 (s.1 ++ [v.2],s.2 ++ [((G v.2).1,[])]) (λu hu=>I.shut _ hx u hu) hs';have hmr:¬ (eX φ v).2 ∈ s.1.map φ:=by simp only [eX,h3,if_true];exact λh=>hm (hi.2.1 h)
    have hr2:(eX φ v).2=φ v.2:=by simp [eX,h3]
    rw [eQ G n h3 hm,eQ H n (s:=(s.1.map φ,s.2)) (by rw [p9];exact h3) hmr,hr2,I.same _ hx];simp only [List.map_append,Zs,List.map_nil] at h1;dsimp only;rw [h1];simp only [Zp];exact ⟨trivial,h2⟩
  ·rw [dK G _ _ h3,dK H _ _ (by rw [p9];exact h3)];have:eX φ v=v:=by unfold eX;rw [if_neg h3]
   rw [this];exact ⟨rfl,hs⟩
theorem tT {G H:Gr} {P:Int->Prop} {φ:Int->Int} (I:xZ G H P φ) (n:Nat):∀ (l:List Vl) (s:VS),(∀ u ∈ l,u.1=3->P u.2)->(∀ i ∈ s.1,P i) ->
  fldM (valM H n) (l.map (eX φ)) (s.1.map φ,s.2)=((fldM (valM G n) l s).1,((fldM (valM G n) l s).2.1.map φ,(fldM (valM G n) l s).2.2))/\∀ i ∈ (fldM (valM G n) l s).2.1,P i
 | [],s,_,hs=>⟨rfl,hs⟩
 | u :: l,s,hl,hs=>by
  obtain ⟨h1,h2⟩:=zo I n u s (hl u (by simp)) hs;obtain ⟨h4,h5⟩:=tT I n l (valM G n u s).2 (λu hu=>hl u (by simp [hu])) h2;simp only [Zs,fldM,h1];rw [h4];exact ⟨rfl,h5⟩
theorem sF {G H:Gr} {P:Int->Prop} {φ:Int->Int} (I:xZ G H P φ) {roots:List Vl} (hr:∀ u ∈ roots,u.1=3->P u.2):gB H (roots.map (eX φ))=gB G roots:=by
 have:=(tT I deep roots ([],[]) hr (by simp)).1;unfold gB;simp only [List.map_nil] at this;rw [this]
theorem pI {G H:Gr} {P:Int->Prop} (same:∀ i,P i->H i=G i) (shut:∀ i,P i->∀ v ∈ (G i).2,v.1=3->P v.2) {roots:List Vl} (hr:∀ u ∈ roots,u.1=3->P u.2):gB H roots=gB G roots:=by
 have hid:∀ l:List Vl,l.map (eX id)=l:=by
  intro l;have:eX id=id:=by funext v;unfold eX;split <;> simp_all [Prod.ext_iff]
  rw [this];simp
 have I:xZ G H P id:=⟨λ_ _ _ _ h=>h,λi hi=>by simp only [id];rw [same i hi,hid],shut⟩;have:=sF I hr;rw [hid] at this;exact this
def dI (U met:List Int):Nat:=(U.filter λx=>!met.contains x).length
end
section
theorem lB {p q:Int->Bool} (h:∀ x,p x=true->q x=true):∀ U:List Int,(U.filter p).length<=(U.filter q).length
 | []=>Zb _
 | a :: U=>by
  have ih:=lB h U;simp only [List.filter_cons];split
  ·rename_i h1;rw [if_pos (h a h1)];simpa using ih
  ·split
   ·simp;omega
   ·exact ih
theorem oD {p q:Int->Bool} {x:Int} (h:∀ x,p x=true->q x=true) (h1:p x=false) (h2:q x=true):∀ U:List Int,x ∈ U->(U.filter p).length<(U.filter q).length
 | [],hx=>by cases hx
 | a :: U,hx=>by
  have hle:=lB h U;simp only [List.filter_cons];rcases Zm.1 hx with rfl | hx
  ·rw [if_neg (by rw [h1];decide),if_pos h2];simp;omega
  ·have ih:=oD h h1 h2 U hx;split
   ·rename_i h3;rw [if_pos (h a h3)];simpa using ih
   ·split
    ·simp;omega
    ·exact ih
theorem rS (U a b:List Int):dI U (a ++ b)<=dI U a:=
 lB (λx hx=>by simp at hx ⊢;exact hx.1) U
theorem lC {U met:List Int} {x:Int} (hx:x ∈ U) (hm:¬ x ∈ met):dI U (met ++ [x])<dI U met:=
 oD (λy hy=>by simp at hy ⊢;exact hy.1) (x:=x) (by simp) (by simpa using hm) U hx
theorem qc {U met:List Int} (h:dI U met=0) {x:Int} (hx:x ∈ U):x ∈ met:=by
 by_cases hm:x ∈ met
 ·exact hm
 ·have:=lC hx hm;omega
theorem rT (U:List Int):dI U []<=U.length:=List.length_filter_le _ _
theorem lD {f:Vl->VS->Vl × VS} (hf:∀ v s, ∃ m,(f v s).2.1=s.1 ++ m):∀ (l:List Vl) (s:VS), ∃ m,(fldM f l s).2.1=s.1 ++ m
 | [],s=>⟨[],by simp [fldM]⟩
 | v :: l,s=>by
  obtain ⟨m,h⟩:=hf v s;obtain ⟨m',h'⟩:=lD hf l (f v s).2;exact ⟨m ++ m',by simp only [fldM];rw [h',h];simp⟩
theorem lE (G:Gr):∀ (n:Nat) (v:Vl) (s:VS), ∃ m,(valM G n v s).2.1=s.1 ++ m:=by
 intro n
 induction n with
 | zero=>intro v s;refine ⟨[],?_⟩;simp only [valM];split <;> simp
 | succ n ih=>
  intro v s;by_cases h3:v.1=3
  ·by_cases hm:v.2 ∈ s.1
   ·exact ⟨[],by rw [fV G _ h3 hm];simp⟩
   ·obtain ⟨m,h⟩:=lD ih (G v.2).2 (s.1 ++ [v.2],s.2 ++ [((G v.2).1,[])]);exact ⟨[v.2] ++ m,by rw [eQ G n h3 hm];dsimp only;rw [h];simp⟩
  ·exact ⟨[],by rw [dK G _ _ h3];simp⟩
structure vX (G:Gr) (U:List Int):Prop where
 shut:∀ i ∈ U, ∀ v ∈ (G i).2,v.1=3->v.2 ∈ U
theorem qR {f:Vl->VS->Vl × VS} (hf:∀ v s,s.2.length=s.1.length->(f v s).2.2.length=(f v s).2.1.length):∀ (l:List Vl) (s:VS),s.2.length=s.1.length->(fldM f l s).2.2.length=(fldM f l s).2.1.length
 | [],s,h=>h
 | v :: l,s,h=>qR hf l _ (hf v s h)
theorem qS (G:Gr):∀ (n:Nat) (v:Vl) (s:VS),s.2.length=s.1.length->(valM G n v s).2.2.length=(valM G n v s).2.1.length:=by
 intro n
 induction n with
 | zero=>intro v s h;simp only [valM];split <;> exact h
 | succ n ih=>
  intro v s h;by_cases h3:v.1=3
  ·by_cases hm:v.2 ∈ s.1
   ·rw [fV G _ h3 hm];exact h
   ·rw [eQ G n h3 hm];simp only [List.length_set];exact qR ih _ _ (by simp [h])
  ·rw [dK G _ _ h3];exact h
theorem iG {f:Vl->VS->Vl × VS} {U:List Int} (hf:∀ v s,(v.1=3->v.2 ∈ U)->(f v s).2.1.length+dI U (f v s).2.1<=s.1.length+dI U s.1) :
  ∀ (l:List Vl) (s:VS),(∀ v ∈ l,v.1=3->v.2 ∈ U)->(fldM f l s).2.1.length+dI U (fldM f l s).2.1<=s.1.length+dI U s.1
 | [],s,_=>Zb _
 | v :: l,s,hl=>Za (iG hf l _ (λu hu=>hl u (by simp [hu]))) (hf v s (hl v (by simp)))
theorem kM {G:Gr} {U:List Int} (I:vX G U):∀ (n:Nat) (v:Vl) (s:VS),(v.1=3->v.2 ∈ U)->(valM G n v s).2.1.length+dI U (valM G n v s).2.1<=s.1.length+dI U s.1:=by
 intro n
 induction n with
 | zero=>intro v s _;simp only [valM];split <;> exact Zb _
 | succ n ih=>
  intro v s hv;by_cases h3:v.1=3
  ·by_cases hm:v.2 ∈ s.1
   ·rw [fV G _ h3 hm];exact Zb _
   ·rw [eQ G n h3 hm];have:=iG (f:=valM G n) ih (G v.2).2 (s.1 ++ [v.2],s.2 ++ [((G v.2).1,[])]) (I.shut _ (hv h3));have hp:=lC (hv h3) hm;simp only [Zq,List.length_cons,List.length_nil] at this;dsimp only;omega
  ·rw [dK G _ _ h3];exact Zb _
theorem mW {f:Vl->VS->Vl × VS} (hl:∀ v s,s.2.length=s.1.length->(f v s).2.2.length=(f v s).2.1.length) (hp:∀ v s, ∃ m,(f v s).2.1=s.1 ++ m)
  (hf:∀ v s,s.2.length=s.1.length->∀ i,i<s.1.length->(f v s).2.2[i]? = s.2[i]?):∀ (l:List Vl) (s:VS),s.2.length=s.1.length->∀ i,i<s.1.length->(fldM f l s).2.2[i]? = s.2[i]?
 | [],s,_,i,_=>rfl
 | v :: l,s,h,i,hi=>by
  obtain ⟨m,hm⟩:=hp v s;have:=mW hl hp hf l (f v s).2 (hl v s h) i (by rw [hm];simp;omega);simp only [fldM];rw [this,hf v s h i hi]
theorem wY (G:Gr):∀ (n:Nat) (v:Vl) (s:VS),s.2.length=s.1.length->∀ i,i<s.1.length->(valM G n v s).2.2[i]? = s.2[i]? := by
 intro n
 induction n with
 | zero=>intro v s _ i _;simp only [valM];split <;> rfl
 | succ n ih=>
  intro v s h i hi;by_cases h3:v.1=3
  ·by_cases hm:v.2 ∈ s.1
   ·rw [fV G _ h3 hm]
   ·rw [eQ G n h3 hm];dsimp only;rw [List.getElem?_set_ne (by omega)];have:=mW (qS G n) (lE G n) ih (G v.2).2 (s.1 ++ [v.2],s.2 ++ [((G v.2).1,[])]) (by simp [h]) i (by simp;omega);rw [this];dsimp only;rw [List.getElem?_append_left (by omega)]
  ·rw [dK G _ _ h3]
end
section
structure Wo where
 ar:Ar
 cd:List Bool
 rt:List Int
 rg:List (Int × Int)
 wt:List (Int × Int)
def rU (e:Int × Int):Prop:=bm e.1/\bm e.2
structure Wo.ok (O:Wo):Prop where
 ha:O.ar.ok
 h12:O.rt.length=12
 hR:∀ x ∈ O.rt,bm x
 hg:∀ e ∈ O.rg,rU e
 hw:∀ e ∈ O.wt,rU e
 hq:O.rg.length+O.wt.length<=24
 hc:O.cd.length<=1000
def Wo.new (n o:Int):Wo:=⟨Ar.new n o,List.replicate (gL o) false,List.replicate 12 2,[],[]⟩
def Ar.aW (A:Ar) (x:Int):Int × Int × Int × Int:=if x%4=1/\(A.ah (x/4)).2.2=0 then (x/4,(A.ah (x/4)).1,(A.ah (x/4)).2.1,0) else (0,0,0,2)
def Ar.get (A:Ar) (x i:Int):Int × Int:=
 if (A.aW x).2.2.2≠0\/(A.aW x).2.1=5 then (0,2) else if i<0\/(A.aW x).2.2.1<=i then (0,1) else (A.load (x/4+1+i),0)
def Wo.set (O:Wo) (x i y:Int):Int × Wo:=
 if (O.ar.get x i).2≠0 then ((O.ar.get x i).2,O)
 else (0, { O with ar:=O.ar.store (x/4+1+i) y,cd:=if y%4=1/\(O.ar.store (x/4+1+i) y).aA (y/4)=true/\(O.ar.store (x/4+1+i) y).aK (x/4)=true then g7 O.ar.nur O.cd (x/4) else O.cd })
theorem Wo.A8 {O:Wo} {x i y:Int} (hc:¬ (O.ar.get x i).2=0):O.set x i y=((O.ar.get x i).2,O):=if_pos hc
theorem Wo.zp {O:Wo} {x i y:Int} (hc:(O.ar.get x i).2=0):O.set x i y=(0, { O with ar:=O.ar.store (x/4+1+i) y,cd:=if y%4=1/\(O.ar.store (x/4+1+i) y).aA (y/4)=true/\(O.ar.store (x/4+1+i) y).aK (x/4)=true then g7 O.ar.nur O.cd (x/4) else O.cd }):=
 if_neg (λh=>h hc)
def dA (x:Int):Vl:=if x%4=1 then (3,x/4) else ((fC x).1,(fC x).2.1)
def fG (wt:List (Int × Int)) (g:Int):List Int:=(wt.filter λe=>e.1 == g).map (·.2)
def Ar.fields (A:Ar) (at_:Int):List Int:=(List.range (A.ah at_).2.1.toNat).map λ(j:Nat)=>A.load (at_+1+(j:Int))
def Wo.gr (O:Wo):Gr:=λi=>((O.ar.ah i).1,(O.ar.fields i).map dA ++ if (O.ar.ah i).1=5 then (fG O.wt (4*i+1)).map dA else [])
def Wo.view (O:Wo):List Vl × List Nd:=gB O.gr (O.rt.map dA)
def Wo.univ (O:Wo):List Int:=((0 :: O.ar.ws) ++ O.rt ++ O.wt.map (·.2)).map (· / 4)
theorem Ar.zq {A:Ar} (h:A.ok) (i:Int):A.load i=0\/A.load i ∈ A.ws:=by
 unfold Ar.load;split
 ·rename_i hu;have:=h.ju hu;right;rw [Ld,Le (by omega)];exact Ze _
 ·exact .inl rfl
theorem Wo.sG {O:Wo} (h:O.ok) (i:Int):O.ar.load i/4 ∈ O.univ:=by
 unfold Wo.univ;rcases Ar.zq h.ha i with e | e
 ·rw [e];exact Zi.2 ⟨0,by simp,rfl⟩
 ·exact Zi.2 ⟨_,by simp [e],rfl⟩
theorem Wo.sH {O:Wo} {x:Int} (h:x ∈ O.rt):x/4 ∈ O.univ:=Zi.2 ⟨x,by simp [h],rfl⟩
theorem Wo.sI {O:Wo} {x g:Int} (h:x ∈ fG O.wt g):x/4 ∈ O.univ:=by
 unfold fG at h;obtain ⟨e,he,rfl⟩:=Zi.1 h;exact Zi.2 ⟨e.2,by simp only [List.mem_append,List.mem_map];exact .inr ⟨e,(Zo.1 he).1,rfl⟩,rfl⟩
theorem mX {x:Int} (h:(dA x).1=3):x%4=1/\(dA x).2=x/4:=by
 unfold dA at *;by_cases h1:x%4=1
 ·rw [if_pos h1];exact ⟨h1,rfl⟩
 ·rw [if_neg h1] at h;dsimp only at h;unfold fC at h;exfalso
  repeat' split at h
  all_goals (dsimp only at h;omega)
theorem Wo.sJ {O:Wo} (h:O.ok):vX O.gr O.univ:=by
 refine ⟨λi _ v hv h3=>?_⟩;unfold Wo.gr at hv;dsimp only at hv;rcases Zk.1 hv with h1 | h1
 ·obtain ⟨x,hx,rfl⟩:=Zi.1 h1;rw [(mX h3).2];unfold Ar.fields at hx;obtain ⟨j,_,rfl⟩:=Zi.1 hx;exact Wo.sG h _
 ·split at h1
  ·obtain ⟨x,hx,rfl⟩:=Zi.1 h1;rw [(mX h3).2];exact Wo.sI hx
  ·cases h1
theorem Wo.A9 {O:Wo} (h:O.ok):O.univ.length<=1400:=by
 have h1:=h.ha.h4;have h2:=h.h12;have h3:=h.hq;unfold Wo.univ;simp;omega
theorem Ar.lX (A:Ar) (i x:Int):(A.store i x).ws.length=A.ws.length:=by unfold Ar.store;split <;> simp
theorem Ar.cZ (A:Ar) (i x:Int):(A.store i x).nur=A.nur:=by unfold Ar.store;split <;> rfl
theorem Ar.fH (A:Ar) (i x:Int):(A.store i x).yng=A.yng:=by unfold Ar.store;split <;> rfl
theorem Ar.dO (A:Ar) (i x:Int):(A.store i x).grn=A.grn:=by unfold Ar.store;split <;> rfl
end
section
open Go.RowKit
structure WH where
 p:Nat
 pa:Nat
 g:Nat
 pc:Nat
 cb:Nat
 ps:Nat
 rv:Value
 wv:Value
 ro:Value
def WH.Own (h:WH) (k:Nat):Prop:=k=h.p\/(k=h.pa\/k=h.g)\/(k=h.pc\/k=h.cb)\/aG h.ps h.rv h.wv k\/aq h.ro k
structure bh (w:World) (h:WH) (O:Wo):Prop where
 hp:ak w h.p [.pointer (some ⟨h.pa,0,none⟩), .pointer (some ⟨h.pc,0,none⟩), .pointer (some ⟨h.ps,0,none⟩),h.ro] 75
 ha:bH w h.pa h.g O.ar
 hc:cU w h.pc h.cb O.ar.nur O.cd
 hs:a7 w h.ps h.rv h.wv O.rg O.wt
 hr:Sl w 2 1 h.ro O.rt.length (O.rt.map (Value.int .i64))
 ap:¬ aq h.ro h.g
 ok:O.ok
section
variable {w w':World} {h:WH} {O:Wo}
theorem bh.aZ (H:bh w h O) {k:Nat} (hk:h.Own k):k<w.heap.size:=by
 rcases hk with rfl | (rfl | rfl) | (rfl | rfl) | hk | hk
 ·exact H.hp.lt
 ·exact H.ha.hp.lt
 ·exact H.ha.hg.lt
 ·exact H.hc.hp.lt
 ·exact H.hc.hq.lt
 ·exact H.hs.jX hk
 ·exact (H.hr.own hk).1
theorem bh.ab {S:Nat->Prop} (H:bh w h O) (k:aa S w w') (hn:∀ b,h.Own b->¬ S b):bh w' h O:=
 ⟨k.au H.hp (hn _ (.inl rfl)),H.ha.ab k (hn _ (.inr (.inl (.inl rfl)))) (hn _ (.inr (.inl (.inr rfl)))),H.hc.ab k (hn _ (.inr (.inr (.inl (.inl rfl))))) (hn _ (.inr (.inr (.inl (.inr rfl))))),
  H.hs.ab k (λb hb=>hn b (.inr (.inr (.inr (.inl hb))))),H.hr.ab k (λb hb=>hn b (.inr (.inr (.inr (.inr hb))))),H.ap,H.ok⟩
theorem a7.cM {w:World} {p b:Nat} {rv wv:Value} {ai wait:List (Int × Int)} (h:a7 w p rv wv ai wait) (hb:aG p rv wv b):∃ c T,ak w b c T/\(T=84\/T=119):=by
 rcases hb with rfl | hb | hb
 ·exact ⟨_,_,h.hp, .inl rfl⟩
 ·obtain ⟨_,c,hc⟩:=h.hr.own hb;exact ⟨_,_,hc, .inr rfl⟩
 ·obtain ⟨_,c,hc⟩:=h.hw.own hb;exact ⟨_,_,hc, .inr rfl⟩
theorem bh.vY (H:bh w h O) {b:Nat} {c:List Value} {T:TypeId} (hb:ak w b c T) (h1:T≠84) (h2:T≠119):¬ aG h.ps h.rv h.wv b:=λhf=>by
 obtain ⟨c',T',hc,hT⟩:=H.hs.cM hf;rcases hT with rfl | rfl
 ·exact hb.ne hc h1 rfl
 ·exact hb.ne hc h2 rfl
theorem bh.kN (H:bh w h O) {b:Nat} {c:List Value} {T:TypeId} (hb:ak w b c T) (h1:T≠2):¬ aq h.ro b:=λhf=>by
 obtain ⟨_,c',hc⟩:=H.hr.own hf;exact hb.ne hc h1 rfl
theorem bh.bZ (H:bh w h O) {A:Ar} (t:aU w h.pa h.g w' A) (hn:A.nur=O.ar.nur):bh w' h { O with ar:=A }:=by
 have k:=t.k;have n1:∀ {b:Nat} {c:List Value} {T:TypeId},ak w b c T->T≠162->T≠2->¬ (b=h.pa\/b=h.g):=λhb h1 h2 e=>by
  rcases e with e | e
  ·exact hb.ne H.ha.hp h1 e
  ·exact hb.ne H.ha.hg h2 e
 refine ⟨k.au H.hp (n1 H.hp (by decide) (by decide)),t.at_,?_,H.hs.ab k (λb hb=>?_),H.hr.ab k (λb hb=>?_),H.ap, { H.ok with ha:=t.at_.ok }⟩
 ·show cU w' h.pc h.cb A.nur O.cd
  rw [hn];exact H.hc.ab k (n1 H.hc.hp (by decide) (by decide)) (n1 H.hc.hq (by decide) (by decide))
 ·obtain ⟨c,T,hc,hT⟩:=H.hs.cM hb;rcases hT with rfl | rfl
  ·exact n1 hc (by decide) (by decide)
  ·exact n1 hc (by decide) (by decide)
 ·rintro (rfl | rfl)
  ·exact H.kN H.ha.hp (by decide) hb
  ·exact H.ap hb
theorem bh.cards (H:bh w h O) {l:List Bool} (t:cU w' h.pc h.cb O.ar.nur l) (hl:l.length<=1000) (k:aa (·=h.cb) w w'):bh w' h { O with cd:=l }:=by
 have n1:∀ {b:Nat} {c:List Value} {T:TypeId},ak w b c T->T≠4->¬ (b=h.cb):=λhb h1 e=>hb.ne H.hc.hq h1 e;refine ⟨k.au H.hp (n1 H.hp (by decide)),H.ha.ab k (n1 H.ha.hp (by decide)) (n1 H.ha.hg (by decide)),t,H.hs.ab k (λb hb=>?_),H.hr.ab k (λb hb=>?_),H.ap, { H.ok with hc:=hl }⟩
 ·obtain ⟨c,T,hc,hT⟩:=H.hs.cM hb;rcases hT with rfl | rfl
  ·exact n1 hc (by decide)
  ·exact n1 hc (by decide)
 ·rintro rfl;exact H.kN H.hc.hq (by decide) hb
theorem bh.eJ (H:bh w h O):w.cell? ⟨h.p,0,none⟩=some (.pointer (some ⟨h.pa,0,none⟩))/\w.cell? ⟨h.p,1,none⟩=some (.pointer (some ⟨h.pc,0,none⟩))/\w.cell? ⟨h.p,2,none⟩=some (.pointer (some ⟨h.ps,0,none⟩))/\w.cell? ⟨h.p,3,none⟩=some h.ro:=
 ⟨H.hp.cell 0,H.hp.cell 1,H.hp.cell 2,H.hp.cell 3⟩
def gd (w:World) (h:WH) (w':World) (O:Wo):Prop:=
 ∃ h',bh w' h' O/\h'.p=h.p/\aa h.Own w w'/\∀ k,h'.Own k->h.Own k\/w.heap.size<=k
theorem bh.ji (H:bh w h O) {A:Ar} (t:aU w h.pa h.g w' A) (hn:A.nur=O.ar.nur):gd w h w' { O with ar:=A }:=
 ⟨h,H.bZ t hn,rfl,t.k.mono (λk _ hk=>.inr (.inl hk)),λk hk=>.inl hk⟩
theorem gd.same (H:bh w h O) (k:aa (λ_=>False) w w'):gd w h w' O:=
 ⟨h,H.ab k (λ_ _ h=>h),rfl,k.mono (λ_ _ h=>h.elim),λk hk=>.inl hk⟩
theorem mY {A:Ar} {x:Int} (h:¬ (x%4=1/\(A.ah (x/4)).2.2=0)):A.aW x=(0,0,0,2):=if_neg h
theorem mr {A:Ar} {x:Int} (h:x%4=1/\(A.ah (x/4)).2.2=0):A.aW x=(x/4,(A.ah (x/4)).1,(A.ah (x/4)).2.1,0):=if_pos h
theorem lF {fn:Func} {t u v x:Tmp} (h:fn.results=#[.tmp t, .tmp u, .tmp v, .tmp x]) (tmps:Array Value) (P:Program) (w:World) :
  (results fn tmps).run P w=.ok (.tuple #[tmps.getD t undef,tmps.getD u undef,tmps.getD v undef,tmps.getD x undef]) w:=by
 simp [results,h]
theorem qd {a b c d:Int} {y:Int × Int × Int × Int} (h:y=(a,b,c,d)) :
  Ending.returned (.tuple #[.int .i64 a, .int .i64 b, .int .i64 c, .int .i64 d])=Ending.returned (.tuple #[.int .i64 y.1, .int .i64 y.2.1, .int .i64 y.2.2.1, .int .i64 y.2.2.2]):=by subst h;rfl
theorem vZ (x:Int) (H:bh w h O) :
  Calls Tryz.prog 64 #[.pointer (some ⟨h.p,0,none⟩), .int .i64 x] w λe w'=>
   e=.returned (.tuple #[.int .i64 (O.ar.aW x).1, .int .i64 (O.ar.aW x).2.1, .int .i64 (O.ar.aW x).2.2.1, .int .i64 (O.ar.aW x).2.2.2])/\w=w':=by
 have HH:=Hz H;obtain ⟨c0,-,-,-⟩:=H.eJ;have pl:=H.hp.lt;have HA:=Hz H.ha;clear H;by_cases hx:x%4=1
 ·by_cases hc:(O.ar.ah (x/4)).2.2=0
  ·have HE:=Hz (mr ⟨hx,hc⟩);obtain ⟨⟨k,n,c⟩,hT⟩:∃ t,O.ar.ah (x/4)=t:=⟨_,rfl⟩;rw [hT] at hc HE;dsimp only at hc HE;subst hc;have HT:=Hz hT;have HX:=Hz hx;clear hT hx;go_enter Tryz.func64,Tryz.ntmps64;go_wp2_with fail;refine (dH x _ HX.o).mono ?_;rintro e w1 ⟨rfl,rfl⟩;go_wp2_with fail;refine (gS (x/4) _ HA.o).mono ?_;rintro e w1 ⟨rfl,rfl⟩;rw [HT.o];dsimp only;go_wp2_with fail
   ((try simp only [Exit.inBlock,Exit.then]);refine bodyPost_ret (lF rfl _ _ _) rfl ?_)
   exact ⟨qd HE.o,rfl⟩
  ·have HE:=Hz (mY (A:=O.ar) (x:=x) (λh=>hc h.2));obtain ⟨⟨k,n,c⟩,hT⟩:∃ t,O.ar.ah (x/4)=t:=⟨_,rfl⟩;rw [hT] at hc;dsimp only at hc;have hcb:(c != 0)=true:=by simpa using hc
   have HT:=Hz hT;have HX:=Hz hx;clear hT hx hc;go_enter Tryz.func64,Tryz.ntmps64;go_wp2_with fail;refine (dH x _ HX.o).mono ?_;rintro e w1 ⟨rfl,rfl⟩;go_wp2_with fail;refine (gS (x/4) _ HA.o).mono ?_;rintro e w1 ⟨rfl,rfl⟩;rw [HT.o];dsimp only;go_wp2_with fail
   ((try simp only [Exit.inBlock,Exit.then]);refine bodyPost_ret (lF rfl _ _ _) rfl ?_)
   exact ⟨qd HE.o,rfl⟩
 ·have HE:=Hz (mY (A:=O.ar) (x:=x) (λh=>hx h.1));have HX:=Hz hx;clear hx;go_enter Tryz.func64,Tryz.ntmps64;go_wp2_with fail;refine (lV x _ HX.o).mono ?_;rintro e w1 ⟨rfl,rfl⟩;go_wp2_with fail
  ((try simp only [Exit.inBlock,Exit.then]);refine bodyPost_ret (lF rfl _ _ _) rfl ?_)
  exact ⟨qd HE.o,rfl⟩
theorem tU (x:Int) (H:bh w h O) :
  Calls Tryz.prog 60 #[.pointer (some ⟨h.p,0,none⟩), .int .i64 x] w λe w'=>
   e=.returned (.tuple #[.int .i64 (O.ar.aW x).2.1, .int .i64 (O.ar.aW x).2.2.1, .int .i64 (O.ar.aW x).2.2.2])/\w=w':=by
 go_enter Tryz.func60,Tryz.ntmps60;go_wp2_with fail;refine (vZ x H).mono ?_;rintro e w1 ⟨rfl,rfl⟩;go_wp2_with fail
 go_ret3
 exact ⟨rfl,rfl⟩
theorem zr {A:Ar} {x i:Int} (h:(A.aW x).2.2.2≠0\/(A.aW x).2.1=5):A.get x i=(0,2):=if_pos h
theorem x4 {A:Ar} {x i:Int} (h:¬ ((A.aW x).2.2.2≠0\/(A.aW x).2.1=5)) (h2:i<0\/(A.aW x).2.2.1<=i):A.get x i=(0,1):=by unfold Ar.get;rw [if_neg h,if_pos h2]
theorem Cw {A:Ar} {x i:Int} (h:¬ ((A.aW x).2.2.2≠0\/(A.aW x).2.1=5)) (h2:¬ (i<0\/(A.aW x).2.2.1<=i)):A.get x i=(A.load (x/4+1+i),0):=by unfold Ar.get;rw [if_neg h,if_neg h2]
theorem rV (A:Ar) (x:Int):0<=(A.aW x).2.2.1/\(A.aW x).2.2.1<=12:=by
 unfold Ar.aW;split
 ·exact A.aQ _
 ·decide
theorem n9 {A:Ar} (hk:A.ok) {x:Int} (h:(A.aW x).2.2.2=0):x%4=1/\(A.ah (x/4)).2.2=0/\0<=x/4/\x/4<A.ws.length/\(A.aW x).1=x/4:=by
 by_cases hc:x%4=1/\(A.ah (x/4)).2.2=0
 ·have:=hk.ju (A.oA hc.2);refine ⟨hc.1,hc.2,this.1,this.2,?_⟩;rw [mr hc]
 ·rw [mY hc] at h;simp at h
theorem qT (x i:Int) (H:bh w h O) :
  Calls Tryz.prog 33 #[.pointer (some ⟨h.p,0,none⟩), .int .i64 x, .int .i64 i] w λe w'=>
   e=.returned (.tuple #[.int .i64 (O.ar.get x i).1, .int .i64 (O.ar.get x i).2])/\w=w':=by
 have HH:=Hz H;obtain ⟨c0,-,-,-⟩:=H.eJ;have pl:=H.hp.lt;have HA:=Hz H.ha;have hb:=rV O.ar x;have hpl:=λe=>n9 H.ok.ha (x:=x) e;have h4:=H.ok.ha.h4;have gk:=λe=>zr (A:=O.ar) (x:=x) (i:=i) e;have gr:=λe1 e2=>x4 (A:=O.ar) (x:=x) (i:=i) e1 e2;have go:=λe1 e2=>Cw (A:=O.ar) (x:=x) (i:=i) e1 e2;have HTc:=Hz (vZ x H);obtain ⟨⟨p,k,n,c⟩,hT⟩:∃ t,O.ar.aW x=t:=⟨_,rfl⟩;rw [hT] at hb hpl gk gr go HTc;dsimp only at hb hpl gk gr go HTc;clear H hT;by_cases hc:c=0
 ·obtain ⟨-,-,p0,p1,rfl⟩:=hpl hc;subst hc;by_cases hk:k=5
  ·have HG:=Hz (gk (.inr hk));subst hk;clear gk gr go hpl;go_enter Tryz.func33,Tryz.ntmps33;go_wp2_with fail;refine HTc.o.mono ?_;rintro e w1 ⟨rfl,rfl⟩;go_wp2_with fail;go_ret2;exact ⟨by rw [HG.o];rfl,rfl⟩
  ·have h1:¬ ((0:Int)≠0\/k=5):=λh=>by rcases h with h | h;exact h rfl;exact hk h
   have hkb:(k == 5)=false:=by simpa using hk
   by_cases hi:i<0\/n<=i
   ·have HG:=Hz (gr h1 hi);clear gk gr go hpl h1 hk;by_cases hi0:i<0
    ·have hd:decide (i<0)=true:=by simpa using hi0
     clear hi;go_enter Tryz.func33,Tryz.ntmps33;go_wp2_with fail;refine HTc.o.mono ?_;rintro e w1 ⟨rfl,rfl⟩;go_wp2_with fail;go_ret2;exact ⟨by rw [HG.o];rfl,rfl⟩
    ·have hd:decide (i<0)=false:=by simpa using hi0
     have hd2:decide (n<=i)=true:=by simp;omega
     clear hi;go_enter Tryz.func33,Tryz.ntmps33;go_wp2_with fail;refine HTc.o.mono ?_;rintro e w1 ⟨rfl,rfl⟩;go_wp2_with fail;go_ret2;exact ⟨by rw [HG.o];rfl,rfl⟩
   ·have HG:=Hz (go h1 hi);have hd:decide (i<0)=false:=by simp;omega
    have hd2:decide (n<=i)=false:=by simp;omega
    have hi0:0<=i:=by omega
    have hi1:i<n:=by omega
    clear gk gr go hpl h1 hk hi;go_enter Tryz.func33,Tryz.ntmps33;go_wp2_with fail;refine HTc.o.mono ?_;rintro e w1 ⟨rfl,rfl⟩;go_wp2_with fail;refine (eW (x/4+1+i) _ HA.o).mono ?_;rintro e w1 ⟨rfl,rfl⟩;go_wp2_with fail;go_ret2;exact ⟨by rw [HG.o];rfl,rfl⟩
 ·have HG:=Hz (gk (.inl hc));have hcb:(c != 0)=true:=by simpa using hc
  clear gk gr go hpl hc;go_enter Tryz.func33,Tryz.ntmps33;go_wp2_with fail;refine HTc.o.mono ?_;rintro e w1 ⟨rfl,rfl⟩;go_wp2_with fail;go_ret2;exact ⟨by rw [HG.o];rfl,rfl⟩
end
end
section
open Go.RowKit
section
variable {w w':World} {h:WH} {O:Wo}
theorem Wo.x5 {x i y:Int} (hc:(O.ar.get x i).2≠0):O.set x i y=((O.ar.get x i).2,O):=if_pos hc
theorem Wo.v7 {x i y:Int} (hc:(O.ar.get x i).2=0):O.set x i y=(0, { O with ar:=O.ar.store (x/4+1+i) y,cd:=if y%4=1/\(O.ar.store (x/4+1+i) y).aA (y/4)=true/\(O.ar.store (x/4+1+i) y).aK (x/4)=true then g7 O.ar.nur O.cd (x/4) else O.cd }):=
 if_neg (λh=>h hc)
theorem sK {A:Ar} (hk:A.ok) {x i:Int} (h:(A.get x i).2=0):x%4=1/\(A.ah (x/4)).2.2=0/\0<=x/4/\x/4<A.ws.length/\0<=i/\i<(A.ah (x/4)).2.1/\(A.ah (x/4)).1≠5:=by
 unfold Ar.get at h;split at h
 ·simp at h
 ·rename_i h1;split at h
  ·simp at h
  ·rename_i h2;have hc:(A.aW x).2.2.2=0:=Zn.1 λe=>h1 (.inl e);obtain ⟨p1,p2,p3,p4,p5⟩:=n9 hk hc;rw [mr ⟨p1,p2⟩] at h1 h2;exact ⟨p1,p2,p3,p4,by omega,by dsimp only at h2;omega,λe=>h1 (.inr e)⟩
theorem Ey (x i y:Int) (H:bh w h O) (hy:bm y) :
  Calls Tryz.prog 34 #[.pointer (some ⟨h.p,0,none⟩), .int .i64 x, .int .i64 i, .int .i64 y] w λe w'=>
   e=.returned (.int .i64 (O.set x i y).1)/\gd w h w' (O.set x i y).2:=by
 have HH:=Hz H;have HY:=Hz hy;have pl:=H.hp.lt;have h4:=H.ok.ha.h4;have HN:=Hz (show 0<=(O.ar.nur:Int)/\(O.ar.nur:Int)<=1000000 by have:=H.ok.ha.h1;have:=H.ok.ha.h2;have:=H.ok.ha.h3;omega);by_cases hc:(O.ar.get x i).2=0
 ·have HE:=Hz (Wo.v7 (y:=y) hc);obtain ⟨p1,-,p2,p3,p4,p5,-⟩:=sK H.ok.ha hc;have p6:=(O.ar.aQ (x/4)).2;have p7:i<12:=by omega
  have P1:=Hz p1;have HC:=Hz hc;clear H hy hc p1 p5 p6;go_enter Tryz.func34,Tryz.ntmps34;go_wp2_with fail;refine (qT x i HH.o).mono ?_;rintro e w1 ⟨rfl,rfl⟩;rw [HC.o];go_wp2_with fail;refine (dH x _ P1.o).mono ?_;rintro e w1 ⟨rfl,rfl⟩;obtain ⟨c0,-,-,-⟩:=HH.o.eJ;go_wp2_with fail;refine (gR (x/4+1+i) y _ HH.o.ha HY.o).mono ?_;rintro e w1 ⟨rfl,ht⟩;have HT:=Hz ht.k;have HW:=Hz (HH.o.bZ ht (O.ar.cZ _ _));have HTO:=Hz (HH.o.ji ht (O.ar.cZ _ _));clear c0 pl ht;generalize hA:O.ar.store (x/4+1+i) y=A at *;have HA:=Hz hA;clear hA;obtain ⟨c0,c1,-,-⟩:=HW.o.eJ;have pl:=HW.o.hp.lt;by_cases hy4:y%4=1
  ·have HY4:=Hz hy4;cases hyo:A.aA (y/4)
   ·have HF:=Hz (show ¬ (y%4=1/\A.aA (y/4)=true/\A.aK (x/4)=true) by rw [hyo];exact λh=>by cases h.2.1);clear hy4;go_wp2_with fail;refine (dH y _ HY4.o).mono ?_;rintro e w2 ⟨rfl,rfl⟩;go_wp2_with fail;refine (cT (y/4) _ HW.o.ha).mono ?_;rintro e w2 ⟨rfl,rfl⟩;rw [hyo];go_wp2_with fail;go_ret;refine ⟨by rw [HE.o];rfl,?_⟩;rw [HE.o,if_neg HF.o];exact HTO.o
   ·cases hol:A.aK (x/4)
    ·have HF:=Hz (show ¬ (y%4=1/\A.aA (y/4)=true/\A.aK (x/4)=true) by rw [hol];exact λh=>by cases h.2.2);clear hy4;go_wp2_with fail;refine (dH y _ HY4.o).mono ?_;rintro e w2 ⟨rfl,rfl⟩;go_wp2_with fail;refine (cT (y/4) _ HW.o.ha).mono ?_;rintro e w2 ⟨rfl,rfl⟩;rw [hyo];go_wp2_with fail;refine (iR (x/4) _ HW.o.ha).mono ?_;rintro e w2 ⟨rfl,rfl⟩;rw [hol];go_wp2_with fail;go_ret;refine ⟨by rw [HE.o];rfl,?_⟩;rw [HE.o,if_neg HF.o];exact HTO.o
    ·have HF:=Hz (show (y%4=1/\A.aA (y/4)=true/\A.aK (x/4)=true) from ⟨hy4,hyo,hol⟩);clear hy4;go_wp2_with fail;refine (dH y _ HY4.o).mono ?_;rintro e w2 ⟨rfl,rfl⟩;go_wp2_with fail;refine (cT (y/4) _ HW.o.ha).mono ?_;rintro e w2 ⟨rfl,rfl⟩;rw [hyo];go_wp2_with fail;refine (iR (x/4) _ HW.o.ha).mono ?_;rintro e w2 ⟨rfl,rfl⟩;rw [hol];go_wp2_with fail;have hcc:=HW.o.hc;have hcl:=HW.o.ok.hc;have hnn:A.nur=O.ar.nur:=by rw [<-HA.o];exact O.ar.cZ _ _
     refine (xW h.pc h.cb A.nur (x/4) O.cd _ hcc (by rw [hnn];exact HN.o.1) (by rw [hnn];exact HN.o.2) (by omega) (by omega) (by simpa using Za hcl (by decide))).mono ?_;rintro e w2 ⟨rfl,hc2,hk2⟩;have HTO2:=Hz (show gd w h w2 { O with ar:=A,cd:=g7 O.ar.nur O.cd (x/4) } by
      have:=HW.o.cards hc2 (by rw [ig];exact hcl) hk2;refine ⟨h,?_,rfl,(HT.o.mono (λk _ hk=>.inr (.inl hk))).then hk2 (λk hk=>.inl (by subst hk;exact .inr (.inr (.inl (.inr rfl))))),λk hk=>.inl hk⟩;rw [hnn] at this
      exact this)
     clear hcc hcl hnn hc2 hk2;go_wp2_with fail;go_ret;refine ⟨by rw [HE.o];rfl,?_⟩;rw [HE.o,if_pos HF.o];exact HTO2.o
  ·have HY4:=Hz hy4;have HF:=Hz (show ¬ (y%4=1/\A.aA (y/4)=true/\A.aK (x/4)=true) from λh=>hy4 h.1);clear hy4;go_wp2_with fail;refine (lV y _ HY4.o).mono ?_;rintro e w2 ⟨rfl,rfl⟩;go_wp2_with fail;go_ret;refine ⟨by rw [HE.o];rfl,?_⟩;rw [HE.o,if_neg HF.o];exact HTO.o
 ·have HE:=Hz (Wo.x5 (y:=y) hc);have HTC:=Hz (qT x i H);obtain ⟨⟨a,c⟩,hT⟩:∃ t,O.ar.get x i=t:=⟨_,rfl⟩;rw [hT] at hc HE HTC;dsimp only at hc HE HTC;have hcb:(c != 0)=true:=by simpa using hc
  clear H hc hT;go_enter Tryz.func34,Tryz.ntmps34;go_wp2_with fail;refine HTC.o.mono ?_;rintro e w1 ⟨rfl,rfl⟩;go_wp2_with fail;go_ret;refine ⟨by rw [HE.o];rfl,?_⟩;rw [HE.o];exact gd.same HH.o (aa.refl _ _)
end
def Ba (w:World) (n o:Int) (e:Ending) (w':World):Prop:=
 ∃ h,e=.returned (.tuple #[.pointer (some ⟨h.p,0,none⟩), .agg #[.int .i64 0, .int .i64 0]])/\bh w' h (Wo.new n o)/\aa (λ_=>False) w w'/\∀ k,h.Own k->w.heap.size<=k
theorem Wo.ki {n o:Int} (h:Ar.fits n o=true):(Wo.new n o).ok:=by
 have h':=h;simp [Ar.fits] at h';refine ⟨Ar.ki h,by simp [Wo.new],λx hx=>?_,λe he=>by simp [Wo.new] at he,λe he=>by simp [Wo.new] at he,by simp [Wo.new],?_⟩
 ·simp [Wo.new] at hx;subst hx;unfold bm;omega
 ·simp [Wo.new,gL];omega
structure mZ (w:World) (h:WH) (n o:Int) (wr:World) (k:Nat) (v:Value):Prop where
 hp:ak wr h.p [.pointer (some ⟨h.pa,0,none⟩), .pointer (some ⟨h.pc,0,none⟩), .pointer (some ⟨h.ps,0,none⟩),v] 75
 ha:bH wr h.pa h.g (Ar.new n o)
 hc:cU wr h.pc h.cb n (List.replicate (gL o) false)
 hs:a7 wr h.ps (.slice none 0 0) (.slice none 0 0) [] []
 hr:Sl wr 2 1 v k (List.replicate k (.int .i64 2))
 hk:aa (λ_=>False) w wr
 o1:w.heap.size<=h.p
 o2:w.heap.size<=h.pa
 o3:w.heap.size<=h.g
 o4:w.heap.size<=h.pc
 o5:w.heap.size<=h.cb
 o6:w.heap.size<=h.ps
 o7:∀ b,aq v b->w.heap.size<=b
 ap:¬ aq v h.g
 hz:ak wr w.heap.size [.int .i64 0, .int .i64 0] 33
theorem mZ.app {w wr wa w2:World} {h:WH} {n o:Int} {k:Nat} {v v2:Value} (H:mZ w h n o wr k v) (ka:aa (λ_=>False) wr wa) (hs2:Sl w2 2 1 v2 (k+1) (List.replicate k (.int .i64 2) ++ [.int .i64 2])) (hk2:aa (aq v) wa w2) (ho2:∀ b,aq v2 b->aq v b\/wa.heap.size<=b) :
  mZ w h n o (w2.setCell ⟨h.p,3,none⟩ v2) (k+1) v2:=by
 have own:=λb (hb:aq v b)=>(H.hr.ab ka (λ_ _ h=>h)).own hb;have ne1:∀ {b:Nat} {c:List Value} {T:TypeId},ak wr b c T->T≠2->¬ aq v b:=λhb hT hv=>by
  obtain ⟨_,c',hc⟩:=own _ hv;exact (ka.au hb (λh=>h)).ne hc hT rfl
 have lt1:∀ {b:Nat} {c:List Value} {T:TypeId},ak wr b c T->b<wa.heap.size:=λhb=>(ka.au hb (λh=>h)).lt;have k2:=(ka.mono (T:=aq v) (λ_ _ h=>h.elim)).trans hk2;have hsz:=H.hk.size;have hpl:=H.hp.lt;have kc:=λ{S:Nat->Prop} (k:aa S wr w2)=>k;have hp2:=k2.au H.hp (ne1 H.hp (by decide));have set:=(aa.refl (·=h.p) w2).setCell (p:=⟨h.p,3,none⟩) (.inl rfl) v2;have nep:∀ {b:Nat} {c:List Value} {T:TypeId},ak w2 b c T->T≠75->¬ b=h.p:=λhb hT=>hb.ne hp2 hT;have ha2:=H.ha.ab k2 (ne1 H.ha.hp (by decide)) H.ap;have hc2:=H.hc.ab k2 (ne1 H.hc.hp (by decide)) (ne1 H.hc.hq (by decide));have fsd:∀ b,aG h.ps (.slice none 0 0) (.slice none 0 0) b->b=h.ps:=λb hb=>by
  rcases hb with h | h | h
  ·exact h
  ·exact (b9 h).elim
  ·exact (b9 h).elim
 have hs3:=H.hs.ab k2 (λb hb=>by rw [fsd b hb];exact ne1 H.hs.hp (by decide));refine ⟨by simpa using hp2.aE 3 v2,ha2.ab set (nep ha2.hp (by decide)) (nep ha2.hg (by decide)),hc2.ab set (nep hc2.hp (by decide)) (nep hc2.hq (by decide)),hs3.ab set (λb hb=>by rw [fsd b hb];exact nep hs3.hp (by decide)),?_,?_,H.o1,H.o2,H.o3,H.o4,H.o5,H.o6,?_,?_,?_⟩
 ·rw [<-List.replicate_succ'] at hs2;exact hs2.ab set (λb hb e=>by
   obtain ⟨_,c',hc⟩:=hs2.own hb
   exact nep hc (by decide) e)
 ·exact (H.hk.then k2 (λb hb=>.inr (H.o7 b hb))).setCell (.inr H.o1) _
 ·intro b hb;rcases ho2 b hb with h1 | h1
  ·exact H.o7 b h1
  ·have:=ka.size;omega
 ·intro hb;rcases ho2 _ hb with h1 | h1
  ·exact H.ap h1
  ·have:=lt1 H.ha.hg;omega
 ·have hz2:=k2.au H.hz (ne1 H.hz (by decide));exact set.au hz2 (nep hz2 (by decide))
theorem mZ.done {w wr:World} {h:WH} {n o:Int} {v:Value} (H:mZ w h n o wr 12 v) (hf:Ar.fits n o=true):bh wr { h with ro:=v,rv:=.slice none 0 0,wv:=.slice none 0 0 } (Wo.new n o) /\
  ∀ k,({ h with ro:=v,rv:=.slice none 0 0,wv:=.slice none 0 0 }:WH).Own k->w.heap.size<=k:=by
 have hn:((Ar.new n o).nur:Int)=n:=by simp [Ar.fits] at hf;simp [Ar.new];omega
 refine ⟨⟨H.hp,H.ha,?_,H.hs,?_,H.ap,Wo.ki hf⟩,?_⟩
 ·show cU wr h.pc h.cb ((Ar.new n o).nur:Int) _
  rw [hn];exact H.hc
 ·have e:(Wo.new n o).rt=List.replicate 12 2:=rfl;rw [e];simpa using H.hr
 ·rintro k (rfl | (rfl | rfl) | (rfl | rfl) | (rfl | h1 | h1) | h1)
  ·exact H.o1
  ·exact H.o2
  ·exact H.o3
  ·exact H.o4
  ·exact H.o5
  ·exact H.o6
  ·exact (b9 h1).elim
  ·exact (b9 h1).elim
  ·exact H.o7 k h1
theorem Bb (n o:Int) (w:World) (h:Ar.fits n o=false) :
  Calls Tryz.prog 24 #[.int .i64 n, .int .i64 o] w λe w'=>e=.returned (.tuple #[.pointer none, .agg #[.int .i64 1, .int .i64 (-1)]])/\aa (λ_=>False) w w':=by
 go_enter Tryz.func24,Tryz.ntmps24;go_wp2_with fail;refine (A5 n o _ h).mono ?_;rintro e w1 ⟨rfl,hk⟩;have HK:=Hz (((Kz w).alloc (.cells #[.int .i64 0, .int .i64 0] 33)).trans hk);go_wp2_with fail;have HB:=Hz (ak.newAt (w:=w1) (b:=w1.heap.size) (T:=33) #[.int .i64 1, .int .i64 (-1)] rfl rfl);have h0:=HB.o.cell 0;have h1:=HB.o.cell 1;have hl:=HB.o.lt;have k0:ak (w.alloc (.cells #[.int .i64 0, .int .i64 0] 33)) w.heap.size [.int .i64 0, .int .i64 0] 33:=ak.newAt _ rfl rfl;have k1:=(hk.au k0 (λh=>h)).alloc (.cells #[.int .i64 1, .int .i64 (-1)] 33);have l0:=k1.cell 0;have l1:=k1.cell 1;have ll:=k1.lt;have f0:=k1.free 0;have f1:=k1.free 1;simp only [Lz,aB] at h0 h1 l0 l1;have HKA:=Hz (HK.o.alloc (.cells #[.int .i64 1, .int .i64 (-1)] 33));clear hk k0 k1;generalize w1.alloc (.cells #[.int .i64 1, .int .i64 (-1)] 33)=wa at *;refine a6 (.free 1 (.pure 0 (.run 2 (.swi [] (.fin))))) [2] (Fz h0 (Fa h1)) ?_
 iterate 2 refine Wz ?_
 refine aD rfl rfl rfl (λK hK=>?_);unfold ax;go_simp;refine hK _ _ ?_;clear hK K;refine aC (λ_=>True) trivial (av ?_);go_wp2_with fail;refine bodyPost_ret (v:=.tuple #[.pointer none, .agg #[.int .i64 1, .int .i64 (-1)]]) (by simp [results,Tryz.results24,go_sem,l0,l1]) rfl ⟨rfl,(HKA.o.drew.setCell (p:=⟨w.heap.size,0,none⟩) (.inr (Zb _)) _).setCell (p:=⟨w.heap.size,1,none⟩) (.inr (Zb _)) _⟩
theorem zt (n o:Int) (w:World) (h:Ar.fits n o=true) :
  Calls Tryz.prog 24 #[.int .i64 n, .int .i64 o] w λe w'=>Ba w n o e w':=by
 have HF:=Hz h;have ho:o<=1000000/\-9223372036854775808<=o:=by simp [Ar.fits] at h;omega
 obtain ⟨i0,hi,hz0,hz1,hz2⟩:=info_parts pX;have Hi:=Hz hi;have Hz0:=Hz hz0;have Hz1:=Hz hz1;have Hz2:=Hz hz2;clear hi hz0 hz1 hz2;clear h;go_enter Tryz.func24,Tryz.ntmps24;go_wp2_with fail;refine (zi n o _ HF.o).mono ?_;rintro e w1 ⟨pa,g,rfl,hA,hk,hpa,hg⟩;have HA:=Hz hA;have HK:=Hz (((Kz w).alloc (.cells #[.int .i64 0, .int .i64 0] 33)).trans hk);have HZ:=Hz (hk.au (show ak (w.alloc (.cells #[.int .i64 0, .int .i64 0] 33)) w.heap.size [.int .i64 0, .int .i64 0] 33 from ak.newAt _ rfl rfl) (λh=>h));have hsz:=hk.size;simp at hsz hpa hg;have HPA:=Hz hpa;have HG:=Hz hg;clear hA hk hpa hg;go_wp2_with fail;refine (DH n o _ ho.1 ho.2).mono ?_;rintro e w2 ⟨rfl,hC,hz,hk⟩;have hka:=(Kz w1).alloc (.cells #[.int .i64 0, .int .i64 0] 33);have HC:=Hz hC;have HK2:=Hz (HK.o.trans (hka.trans hk));have HA2:=Hz (HA.o.ab (hka.trans hk) (λh=>h) (λh=>h));have HZ2:=Hz ((hka.trans hk).au HZ.o (λh=>h));have hsz2:=hk.size;simp at hsz2;clear hC hk hz hka;go_wp2_with fail;have HN:=Hz (show mZ w ⟨w2.heap.size+1,pa,g,w1.heap.size+1+1,w1.heap.size+1,w2.heap.size, .slice none 0 0, .slice none 0 0, .slice none 0 0⟩ n o ((w2.alloc (.cells #[.slice none 0 0, .slice none 0 0] 84)).alloc (.cells #[.pointer (some ⟨pa,0,none⟩), .pointer (some ⟨w1.heap.size+1+1,0,none⟩), .pointer (some ⟨w2.heap.size,0,none⟩), .slice none 0 0] 75)) 0 (.slice none 0 0) by
  have k1:=(Kz w2).alloc (.cells #[.slice none 0 0, .slice none 0 0] 84);have k2:=(Kz (w2.alloc (.cells #[.slice none 0 0, .slice none 0 0] 84))).alloc (.cells #[.pointer (some ⟨pa,0,none⟩), .pointer (some ⟨w1.heap.size+1+1,0,none⟩), .pointer (some ⟨w2.heap.size,0,none⟩), .slice none 0 0] 75);have k12:=k1.trans k2;have hc:=HC.o;simp only [World.size_alloc] at hc;have s0:w.heap.size<=w1.heap.size:=by omega
  refine ⟨ak.newAt _ (by simp) rfl,HA2.o.ab k12 (λh=>h) (λh=>h),hc.ab k12 (λh=>h) (λh=>h),?_,Sl.nil _ _ _,HK2.o.trans k12,?_,?_,?_,?_,?_,?_,λb hb=>(b9 hb).elim,λhb=>b9 hb,k12.au HZ2.o (λh=>h)⟩
  ·refine ⟨(ak.newAt _ rfl rfl).alloc _,Sl.nil _ _ _,Sl.nil _ _ _,λk hk=>b9 hk.1⟩
  all_goals (have h1:=HPA.o;have h2:=HG.o;dsimp only;omega))
 clear HC HK2 HA2;generalize (w2.alloc (.cells #[.slice none 0 0, .slice none 0 0] 84)).alloc (.cells #[.pointer (some ⟨pa,0,none⟩), .pointer (some ⟨w1.heap.size+1+1,0,none⟩), .pointer (some ⟨w2.heap.size,0,none⟩), .slice none 0 0] 75)=wb at *;go_loopw [27] (λi wr=>∃ (k:Nat) (v:Value),k<=12/\i=.int .i64 k/\mZ w ⟨w2.heap.size+1,pa,g,w1.heap.size+1+1,w1.heap.size+1,w2.heap.size, .slice none 0 0, .slice none 0 0, .slice none 0 0⟩ n o wr k v) (λi _=>12-(intOf i).toNat)
 case atStart=>exact ⟨0,_,Zc _,rfl,HN.o⟩
 case round=>
  clear HN;obtain ⟨k,v,hk,rfl,hI⟩:=hrel;have HI:=Hz hI;clear hI;by_cases hlt:k<12
  ·have c3:=HI.o.hp.cell 3;have pl:=HI.o.hp.lt;have f3:=HI.o.hp.free 3;simp only [Lz,aB] at c3;obtain ⟨ao,cap,rfl,-,-,-⟩:=HI.o.hr.rd;go_wp2_with fail;refine a6 (ftq [0,1,2,3] (.pure 4 (.run 5 (.run 6 (.run 7 (.swi [10] (.free 8 (.free 9 (.run 10 (.swi [] (.fin))))))))))) [7,8,9,10] (Fa c3) ?_
   iterate 5 refine Wz ?_
   refine aN rfl rfl (λK hK=>?_);unfold ax;go_simp;refine (wV _).mono ?_;rintro e w3 ⟨rfl,rfl⟩;refine hK _ _ (λh=>h) ?_;clear hK K;refine aN rfl rfl (λK hK=>?_);unfold ax;go_simp;have hkb:aa (λ_=>False) wr ((wr.drew).alloc (.cells #[.int .i64 2] 2)):=(Kz wr).drew.alloc (.cells #[.int .i64 2] 2);refine hK _ _ (λ_=>(hkb.au HI.o.hp (λh=>h)).cell 3) ?_;clear hK K;refine aD rfl rfl rfl (λK hK=>?_);refine dN (.tmp 33) (.tmp 35) 73 rfl 2 i0 (.int .i64 0) 1 8 Tryz.underlying73 Hi.o Hz0.o Hz1.o Hz2.o rfl (by decide) _ k (List.replicate k (.int .i64 2)) rfl (HI.o.hr.ab hkb (λ_ _ h=>h)) ⟨wr.heap.size,0,none⟩ 1 1 [.int .i64 2] rfl rfl (bV wr.drew 2 #[.int .i64 2]) (by intro u hu;simp at hu;subst hu;rfl) (by unfold maxLen;omega) (by omega) ?_;intro v3 w3 hs3 hk3 ho3;have HI3:=Hz (HI.o.app hkb hs3 hk3 ho3);have hp3:=hk3.au (hkb.au HI.o.hp (λh=>h)) (λhv=>by obtain ⟨_,c',hc⟩:=(HI.o.hr.ab hkb (λ_ _ h=>h)).own hv;exact (hkb.au HI.o.hp (λh=>h)).ne hc (by decide) rfl);have x0:=hp3.cell 3;have xf:=hp3.free 3;have xl:=hp3.lt;simp only [Lz,aB] at x0;refine hK _ _ ?_;clear hK K hkb hs3 hk3 ho3 hp3 c3 pl f3;refine aC (λ_=>True) trivial ?_;obtain ⟨vo3,vc3,rfl,-,-,-⟩:=HI3.o.hr.rd
   iterate 2 refine Wz ?_
   refine aD rfl rfl rfl (λK hK=>?_);unfold ax;go_simp;refine hK _ _ ?_;clear hK K;refine aC (λ_=>True) trivial (av ?_);clear x0 xf xl;go_wp2_with fail;go_roundw
   case rel=>exact ⟨k+1,_,by omega,by go_num,HI3.o⟩
   case measure=>simp [intOf];omega
  ·obtain rfl:k=12:=by omega
   have z0:=HI.o.hz.cell 0;have z1:=HI.o.hz.cell 1;have zl:=HI.o.hz.lt;have zf:=HI.o.hz.free 0;have zg:=HI.o.hz.free 1;simp only [Lz,aB] at z0 z1;have HD:=Hz (HI.o.done HF.o);have HKI:=Hz HI.o.hk;go_wp2_with fail;refine bodyPost_ret (v:=.tuple #[.pointer (some ⟨w2.heap.size+1,0,none⟩), .agg #[.int .i64 0, .int .i64 0]]) (by simp [results,Tryz.results24,go_sem,z0,z1]) rfl ⟨_,rfl,?_,(HKI.o.setCell (p:=⟨w.heap.size,0,none⟩) (.inr (Zb _)) _).setCell (p:=⟨w.heap.size,1,none⟩) (.inr (Zb _)) _,HD.o.2⟩;have hD:=HD.o.1;have ke:=((aa.refl (·=w.heap.size) wr).setCell (p:=⟨w.heap.size,0,none⟩) (.inl rfl) (.int .i64 0)).setCell (p:=⟨w.heap.size,1,none⟩) (.inl rfl) (.int .i64 0);exact hD.ab ke (λb hb e=>by
    subst e;have hzz:=HI.o.hz;rcases hb with e | (e | e) | (e | e) | e | e
    ·exact hzz.ne hD.hp (by decide) e
    ·exact hzz.ne hD.ha.hp (by decide) e
    ·exact hzz.ne hD.ha.hg (by decide) e
    ·exact hzz.ne hD.hc.hp (by decide) e
    ·exact hzz.ne hD.hc.hq (by decide) e
    ·exact hD.vY hzz (by decide) (by decide) e
    ·exact hD.kN hzz (by decide) e)
end
section
open Go.RowKit
def cC {α:Type} (c:Nat) (R:α->List Value->Prop):List α->List Value->Prop
 | [],cs=>cs=[]
 | a :: l,cs=>∃ r rest,cs=r ++ rest/\r.length=c/\R a r/\cC c R l rest
section
variable {α:Type} {c:Nat} {R Q:α->List Value->Prop}
theorem cC.length:∀ {l:List α} {cs:List Value},cC c R l cs->cs.length=l.length*c
 | [],cs,h=>by cases h;simp
 | a :: l,cs,h=>by
  obtain ⟨r,rest,rfl,h1,_,h2⟩:=h;rw [Zq,h1,cC.length h2,List.length_cons,Nat.succ_mul];omega
theorem cC.mono {l:List α} (hq:∀ a ∈ l, ∀ r,R a r->Q a r):∀ {cs:List Value},cC c R l cs->cC c Q l cs:=by
 induction l with
 | nil=>intro cs h;exact h
 | cons a l ih=>
  intro cs h;obtain ⟨r,rest,rfl,h1,h2,h3⟩:=h;exact ⟨r,rest,rfl,h1,hq a (by simp) r h2,ih (λb hb=>hq b (by simp [hb])) h3⟩
theorem cC.app:∀ {l:List α} {cs:List Value} {a:α} {r:List Value},cC c R l cs->r.length=c->R a r->cC c R (l ++ [a]) (cs ++ r)
 | [],cs,a,r,h,h1,h2=>by cases h;exact ⟨r,[],by simp,h1,h2,rfl⟩
 | b :: l,cs,a,r,h,h1,h2=>by
  obtain ⟨r',rest,rfl,h3,h4,h5⟩:=h;exact ⟨r',rest ++ r,by simp,h3,h4,cC.app h5 h1 h2⟩
theorem cC.get:∀ {l:List α} {cs:List Value} {i:Nat} (h:i<l.length),cC c R l cs->∃ r,(cs.drop (i*c)).take c=r/\r.length=c/\R l[i] r
 | a :: l,cs,0,_,h=>by
  obtain ⟨r,rest,rfl,h1,h2,_⟩:=h;exact ⟨r,by simp [<-h1],h1,h2⟩
 | a :: l,cs,i+1,hi,h=>by
  obtain ⟨r,rest,rfl,h1,_,h2⟩:=h;obtain ⟨r',e,h3,h4⟩:=cC.get (i:=i) (by simpa using hi) h2;refine ⟨r',?_,h3,h4⟩;rw [<-e,Nat.succ_mul,Nat.add_comm,<-h1,<-List.drop_drop,List.drop_left]
theorem cC.cell {l:List α} {cs:List Value} {i:Nat} (h:i<l.length) (hr:cC c R l cs):∃ r,r.length=c/\R l[i] r/\∀ j,j<c->cs[i*c+j]? = r[j]? := by
 obtain ⟨r,e,h1,h2⟩:=cC.get h hr;refine ⟨r,h1,h2,λj hj=>?_⟩;rw [<-e,List.getElem?_take,if_pos hj,List.getElem?_drop]
theorem cC.set:∀ {l:List α} {cs:List Value} {i:Nat} {a:α} {r:List Value} (_:i<l.length),cC c R l cs->r.length=c->R a r ->
  cC c R (l.set i a) (cs.take (i*c) ++ r ++ cs.drop (i*c+c))
 | b :: l,cs,0,a,r,_,h,h1,h2=>by
  obtain ⟨r',rest,rfl,h3,_,h5⟩:=h;refine ⟨r,rest,?_,h1,h2,h5⟩;simp [<-h3]
 | b :: l,cs,i+1,a,r,hi,h,h1,h2=>by
  obtain ⟨r',rest,rfl,h3,h4,h5⟩:=h;refine ⟨r',_,?_,h3,h4,cC.set (i:=i) (by simpa using hi) h5 h1 h2⟩;have e:(i+1)*c=r'.length+i*c:=by rw [Nat.succ_mul,h3];omega
  rw [e,List.take_append,List.take_of_length_le (by omega),show r'.length+i*c-r'.length=i*c by omega,show r'.length+i*c+c=r'.length+(i*c+c) by omega,<-List.drop_drop,List.drop_left];simp
theorem cC.setCell {l:List α} {cs:List Value} {i j:Nat} {a:α} {u:Value} (h:i<l.length) (hj:j<c) (hr:cC c R l cs) (hR:∀ r,r.length=c->R l[i] r->R a (r.set j u)) :
  cC c R (l.set i a) (cs.set (i*c+j) u):=by
 obtain ⟨r,e,h1,h2⟩:=cC.get h hr;have hlen:=cC.length hr;have hm:i*c+c<=l.length*c:=by rw [<-Nat.succ_mul];exact Nat.mul_le_mul_right _ h
 have:=cC.set (a:=a) (r:=r.set j u) h hr (by simpa using h1) (hR r h1 h2);have e2:cs.set (i*c+j) u=cs.take (i*c) ++ r.set j u ++ cs.drop (i*c+c):=by
  apply List.ext_getElem?;intro k;rw [List.getElem?_set];by_cases k1:k<i*c
  ·rw [if_neg (by omega),List.append_assoc,List.getElem?_append_left (by simp;omega),List.getElem?_take,if_pos k1]
  ·by_cases k2:k<i*c+c
   ·rw [List.append_assoc,List.getElem?_append_right (by simp;omega),Zx,List.getElem?_append_left (by simp;omega),List.getElem?_set,Nat.min_eq_left (by omega)];by_cases e3:i*c+j=k
    ·rw [if_pos e3,if_pos (by omega),if_pos (by omega),if_pos (by omega)]
    ·rw [if_neg e3,if_neg (by omega),<-e,List.getElem?_take,if_pos (by omega),List.getElem?_drop];congr 1;omega
   ·rw [if_neg (by omega),List.getElem?_append_right (by simp;omega),List.getElem?_drop];congr 1;simp;omega
 rw [e2];exact this
end
end
section
open Go.RowKit Go.Maps
theorem Rd.int64 {w:World} {ao:Option Addr} {l:List Int} (h:Rd w ao (l.map (Value.int .i64))) (i:Nat) (hi:i<l.length) :
  ∃ g o,ao=some ⟨g,o,none⟩/\g<w.heap.size/\w.cell? ⟨g,o+i,none⟩=some (.int .i64 (l.getD i 0)):=by
 obtain ⟨g,o,rfl,hg,hc⟩:=h (by intro e;simp at e;subst e;simp at hi);refine ⟨g,o,rfl,hg,?_⟩;rw [hc i (by simpa using hi)];simp [List.getD,hi]
theorem Sl.set {w:World} {e size:Nat} {g o n cap j:Nat} {xs:List Value} {u:Value} (h:Sl w e size (.slice (some ⟨g,o,none⟩) n cap) n xs) (hj:j<n*size) :
  Sl (w.setCell ⟨g,o+j,none⟩ u) e size (.slice (some ⟨g,o,none⟩) n cap) n (xs.set j u):=by
 obtain ⟨hl,⟨h1,_⟩ | ⟨g',o',cap',cur,e1,hb,h1,h2,h3,h4⟩⟩:=h
 ·cases h1
 ·cases e1;refine ⟨by simpa using hl, .inr ⟨g,o,cap,_,rfl,hb.aE _ _,h1,h2,by simpa using h3,?_⟩⟩;rw [<-h4];apply List.ext_getElem?;intro k;simp only [List.getElem?_take,List.getElem?_drop,List.getElem?_set,Zx,List.length_drop];by_cases hk:k<n*size
  ·rw [if_pos hk,if_pos hk];by_cases e:j=k
   ·subst e;have:n*size<=cap*size:=Nat.mul_le_mul_right _ h1;rw [if_pos rfl,if_pos rfl,if_pos (by omega),if_pos (by omega)]
   ·rw [if_neg (by omega),if_neg e]
  ·rw [if_neg hk,if_neg (by omega)];rw [if_neg hk]
def gh (w:World) (F:Nat->Prop) (nd:Nd) (r:List Value):Prop:=
 ∃ ao cap,r=[.int .i64 nd.1, .slice ao nd.2.length cap]/\Rd w ao (aH nd.2)/\(∀ a,ao=some a->F a.block)/\nd.2.length<=maxLen
theorem gh.ab {w w':World} {F S:Nat->Prop} {nd:Nd} {r:List Value} (h:gh w F nd r) (k:aa S w w') (hn:∀ b,F b->b<w.heap.size->¬ S b):gh w' F nd r:=by
 obtain ⟨ao,cap,e,hr,hf,hc⟩:=h;exact ⟨ao,cap,e,hr.ab k (λa ha hb=>hn _ (hf a ha) hb),hf,hc⟩
theorem gh.more {w:World} {F F':Nat->Prop} {nd:Nd} {r:List Value} (h:gh w F nd r) (hF:∀ b,F b->F' b):gh w F' nd r:=by
 obtain ⟨ao,cap,e,hr,hf,hc⟩:=h;exact ⟨ao,cap,e,hr,λa ha=>hF _ (hf a ha),hc⟩
def dP (w:World) (nv:Value) (F:Nat->Prop) (l:List Nd):Prop:=∃ cs,Sl w 60 2 nv l.length cs/\cC 2 (gh w F) l cs
theorem dP.ab {w w':World} {F S:Nat->Prop} {nv:Value} {l:List Nd} (h:dP w nv F l) (k:aa S w w') (hn:∀ b,F b->b<w.heap.size->¬ S b) (hv:∀ b,aq nv b->¬ S b):dP w' nv F l:=by
 obtain ⟨cs,h1,h2⟩:=h;exact ⟨cs,h1.ab k hv,h2.mono (λa _ r hr=>hr.ab k hn)⟩
theorem dP.nil (w:World) (F:Nat->Prop):dP w (.slice none 0 0) F []:=⟨[],Sl.nil _ _ _,rfl⟩
def eY (w:World) (b:Nat) (met:List Int):Prop:=
 ∃ n D,w.ownsMap (H:=Unit) Tryz.prog 3 (plainElem Tryz.prog 3) b n D/\n<=met.length /\
  ∀ x:Int,-9223372036854775808<=x->x<=9223372036854775807->Maps.has D (.int .i64 x)=decide (x ∈ met)/\(x ∈ met->D.atKey (.int .i64 x) (.lit (.int .i64 0))=.lit (.int .i64 (met.idxOf x:Nat)))
theorem eY.lt {w:World} {b:Nat} {met:List Int} (h:eY w b met):b<w.heap.size:=by
 obtain ⟨n,D,h,_⟩:=h;exact h.lt
theorem eY.ne {w:World} {b:Nat} {met:List Int} (h:eY w b met) {k:Nat} {c:List Value} {T:TypeId} (hk:ak w k c T):k≠b:=by
 rintro rfl;obtain ⟨n,D,⟨es,clock,hb,_⟩,_⟩:=h;unfold ak at hk;rw [hb] at hk;cases hk
theorem eY.ab {w w':World} {b:Nat} {met:List Int} {S:Nat->Prop} (h:eY w b met) (k:aa S w w') (hn:¬ S b):eY w' b met:=by
 obtain ⟨n,D,⟨es,clock,hb,hr⟩,h2⟩:=h;exact ⟨n,D,⟨es,clock,(k.block b (Array.getElem?_eq_some_iff.1 hb).1 hn).trans hb,hr⟩,h2⟩
theorem eY.made (w:World):eY (w.alloc (.map #[] 0)) w.heap.size []:=
 ⟨0, .map [],World.ownsMap_made _ _ _ _,Zb _,λx _ _=>⟨rfl,λh=>by cases h⟩⟩
theorem vq {w w':World} {b:Nat} (h:w.grownBy w' (some b)):aa (·=b) w w':=
 ⟨h.os,h.tape,h.output,h.size,λk hk hn=>h.block k hk (λe=>hn (by cases e;rfl))⟩
theorem eY.push {w w':World} {b n:Nat} {met:List Int} {x:Int} {D:DataW Unit} (hown:w.ownsMap (H:=Unit) Tryz.prog 3 (plainElem Tryz.prog 3) b n D) (hn:n<=met.length)
  (hD:∀ x:Int,-9223372036854775808<=x->x<=9223372036854775807->Maps.has D (.int .i64 x)=decide (x ∈ met)/\(x ∈ met->D.atKey (.int .i64 x) (.lit (.int .i64 0))=.lit (.int .i64 (met.idxOf x:Nat))))
  (hm:¬ x ∈ met) (h1:w'.ownsMap Tryz.prog 3 (plainElem Tryz.prog 3) b (n+1) (D.put (.int .i64 x) (.lit (.int .i64 (met.length:Nat))))):eY w' b (met ++ [x]):=by
 refine ⟨n+1,_,h1,by simp;omega,λy y1 y2=>?_⟩;have hM:=hown.isMap;by_cases e:y=x
 ·subst e;refine ⟨by rw [has_put_same hM (show WideAt.IsKeyLit (.int .i64 y) from trivial)];simp,λ_=>?_⟩;rw [atKey_put_same hM (show WideAt.IsKeyLit (.int .i64 y) from trivial),List.idxOf_append,if_neg hm];simp
 ·have hne:(Lit.int .i64 y)≠(Lit.int .i64 x):=λh=>e (by cases h;rfl);have:=hD y y1 y2;refine ⟨by rw [has_put_other hne,this.1];simp [e],λhy=>?_⟩;have hy':y ∈ met:=by simpa [e] using hy
  rw [atKey_put_other hne,this.2 hy',List.idxOf_append,if_pos hy']
end
section
open Go.RowKit Go.Maps
theorem rW:Keyed Tryz.prog 3:=int_keyed Tryz.underlying3
theorem tV (w:World):(zeroValue 3).run Tryz.prog w=.ok (.int .i64 0) w:=by kernel_rfl
section
variable {w w':World} {h:WH} {O:Wo}
theorem bh.bE (H:bh w h O) {k:Nat} (hk:h.Own k):∃ c T,ak w k c T/\(T=75\/T=162\/T=2\/T=171\/T=4\/T=84\/T=119):=by
 rcases hk with rfl | (rfl | rfl) | (rfl | rfl) | hk | hk
 ·exact ⟨_,_,H.hp, .inl rfl⟩
 ·exact ⟨_,_,H.ha.hp, .inr (.inl rfl)⟩
 ·exact ⟨_,_,H.ha.hg, .inr (.inr (.inl rfl))⟩
 ·exact ⟨_,_,H.hc.hp, .inr (.inr (.inr (.inl rfl)))⟩
 ·exact ⟨_,_,H.hc.hq, .inr (.inr (.inr (.inr (.inl rfl))))⟩
 ·obtain ⟨c,T,hc,hT⟩:=H.hs.cM hk;rcases hT with rfl | rfl
  ·exact ⟨_,_,hc, .inr (.inr (.inr (.inr (.inr (.inl rfl)))))⟩
  ·exact ⟨_,_,hc, .inr (.inr (.inr (.inr (.inr (.inr rfl)))))⟩
 ·obtain ⟨_,c,hc⟩:=H.hr.own hk;exact ⟨_,_,hc, .inr (.inr (.inl rfl))⟩
structure fx (w:World) (q:Nat) (h:WH) (O:Wo) (b:Nat) (rv nv:Value) (F:Nat->Prop) (s:VS):Prop where
 hq:ak w q [.pointer (some ⟨h.p,0,none⟩), .map (some b),rv,nv] 69
 hw:bh w h O
 hm:eY w b s.1
 hn:dP w nv F s.2
 hl:s.2.length=s.1.length
 hF:∀ k,F k->k<w.heap.size/\¬ (k=q\/k=b\/aq nv k)
def mw (q b:Nat) (nv:Value) (k:Nat):Prop:=k=q\/k=b\/aq nv k
theorem dP.own {F:Nat->Prop} {nv:Value} {l:List Nd} (h:dP w nv F l) {k:Nat} (hk:aq nv k):k<w.heap.size/\∃ c,ak w k c 60:=by
 obtain ⟨cs,hs,_⟩:=h;exact hs.own hk
variable {q b:Nat} {rv nv:Value} {F:Nat->Prop} {s:VS}
theorem fx.e6 (V:fx w q h O b rv nv F s) {k:Nat} (hk:h.Own k):¬ mw q b nv k:=by
 obtain ⟨c,T,hc,hT⟩:=V.hw.bE hk;have hne:T≠69/\T≠60:=by rcases hT with rfl | rfl | rfl | rfl | rfl | rfl | rfl <;> exact ⟨by decide,by decide⟩
 rintro (rfl | rfl | hk2)
 ·exact hc.ne V.hq hne.1 rfl
 ·exact V.hm.ne hc rfl
 ·obtain ⟨_,c',hc'⟩:=V.hn.own hk2;exact hc.ne hc' hne.2 rfl
theorem fx.lt (V:fx w q h O b rv nv F s) {k:Nat} (hk:mw q b nv k):k<w.heap.size:=by
 rcases hk with rfl | rfl | hk
 ·exact V.hq.lt
 ·exact V.hm.lt
 ·exact (V.hn.own hk).1
theorem fx.kO (V:fx w q h O b rv nv F s) {k:Nat} {c:List Value} {T:TypeId} (hc:ak w k c T) (h1:T≠69) (h2:T≠60):¬ mw q b nv k:=by
 rintro (rfl | rfl | hk2)
 ·exact hc.ne V.hq h1 rfl
 ·exact V.hm.ne hc rfl
 ·obtain ⟨_,c',hc'⟩:=V.hn.own hk2;exact hc.ne hc' h2 rfl
theorem fx.ab {S:Nat->Prop} (V:fx w q h O b rv nv F s) (k:aa S w w') (h1:∀ j,mw q b nv j->¬ S j) (h2:∀ j,h.Own j->¬ S j) (h3:∀ j,F j->¬ S j):fx w' q h O b rv nv F s:=
 ⟨k.au V.hq (h1 _ (.inl rfl)),V.hw.ab k h2,V.hm.ab k (h1 _ (.inr (.inl rfl))),V.hn.ab k (λj hj _=>h3 j hj) (λj hj=>h1 j (.inr (.inr hj))),V.hl,λj hj=>⟨Zd (V.hF j hj).1 k.size,(V.hF j hj).2⟩⟩
theorem fx.same (V:fx w q h O b rv nv F s) (k:aa (λ_=>False) w w'):fx w' q h O b rv nv F s:=V.ab k (λ_ _ h=>h) (λ_ _ h=>h) (λ_ _ h=>h)
def mx (w:World) (q:Nat) (h:WH) (O:Wo) (b:Nat) (rv nv:Value) (F:Nat->Prop) (s':VS) (w':World):Prop:=
 ∃ nv' F',fx w' q h O b rv nv' F' s'/\aa (mw q b nv) w w'/\(∀ k,aq nv' k->aq nv k\/w.heap.size<=k)/\∀ k,F' k->F k\/w.heap.size<=k
theorem mx.refl (V:fx w q h O b rv nv F s) (k:aa (λ_=>False) w w'):mx w q h O b rv nv F s w':=
 ⟨nv,F,V.same k,k.mono (λ_ _ h=>h.elim),λ_ h=>.inl h,λ_ h=>.inl h⟩
def tW (w:World) (q:Nat) (h:WH) (O:Wo) (b:Nat) (rv nv:Value) (F:Nat->Prop) (r:Vl × VS) (e:Ending) (w':World):Prop:=
 e=.returned (.agg #[.int .i64 r.1.1, .int .i64 r.1.2])/\mx w q h O b rv nv F r.2 w'
def Bc (w:World) (q:Nat) (h:WH) (O:Wo) (b:Nat) (rv nv:Value) (F:Nat->Prop) (n:Nat) (s':VS) (e:Ending) (w':World):Prop:=
 e=.returned (.int .i64 n)/\mx w q h O b rv nv F s' w'
theorem qU {x:Int} (h:x%4≠1):dA x=((fC x).1,(fC x).2.1):=if_neg h
theorem qe {x:Int} (h:x%4=1):dA x=(3,x/4):=if_pos h
theorem x6 {x:Int} (h:x%4≠1):(dA x).1≠3:=by
 rw [qU h];dsimp only;unfold fC
 repeat' split
 all_goals (dsimp only;omega)
theorem sL (x:Int) (n:Nat) (V:fx w q h O b rv nv F s) (hx:bm x) (hm:x%4=1->x/4 ∈ s.1) (hl:s.1.length<=1000000) :
  Calls Tryz.prog 23 #[.pointer (some ⟨q,0,none⟩), .int .i64 x] w λe w'=>tW w q h O b rv nv F (valM O.gr n (dA x) s) e w':=by
 have HV:=Hz V;by_cases h1:x%4=1
 ·have HE:=Hz (show valM O.gr n (dA x) s=(ij (s.1.idxOf (x/4)),s) by rw [qe h1];exact fV O.gr n rfl (hm h1));have H1:=Hz h1;have HM:=Hz (hm h1);have r1:-9223372036854775808<=x/4:=by have:=hx.1;omega
  have r2:x/4<=9223372036854775807:=by have:=hx.2;omega
  clear V h1 hm;go_enter Tryz.func23,Tryz.ntmps23;go_wp2_with fail;refine (dH x _ H1.o).mono ?_;rintro e w1 ⟨rfl,rfl⟩;have V1:=Hz (HV.o.same ((Kz w).alloc (.cells #[.int .i64 0, .int .i64 0] 77)));have c1:=V1.o.hq.cell 1;have cl:=V1.o.hq.lt;simp only [Lz,aB] at c1;obtain ⟨n0,D,hown,hn0,hD⟩:=V1.o.hm;have HD:=Hz (hD (x/4) r1 r2);clear hD;go_wp2_with (at_lookup;refine wpList_lookup_own_ok_int _ rfl _ _ 67 rfl 3 3 .i64 rW Tryz.underlying67 Tryz.underlying3 (tV _) b n0 D rfl hown _ _ rfl (keyOf_int_mk Tryz.underlying3 (WalkArith.wf_i64 (by constructor <;> omega))) ?_);intro c hat hwc;have hat2:=HD.o.2 HM.o;rw [hat] at hat2;obtain rfl:c=(s.1.idxOf (x/4):Nat):=by simpa using hat2
  rw [HD.o.1,decide_eq_true HM.o];clear hat hat2 hwc hown hn0;go_wp2_with fail;refine bodyPost_ret (v:=.agg #[.int .i64 3, .int .i64 (s.1.idxOf (x/4):Nat)]) (by simp [results,Tryz.results23,go_sem]) rfl ?_;refine ⟨by rw [HE.o];rfl,?_⟩;rw [HE.o];exact mx.refl HV.o ((Kz w).alloc _)
 ·have HE:=Hz (show valM O.gr n (dA x) s=(((fC x).1,(fC x).2.1),s) by rw [dK O.gr n s (x6 h1),qU h1]);have H1:=Hz h1;have HX:=Hz hx;clear V h1 hm hx;go_enter Tryz.func23,Tryz.ntmps23;go_wp2_with fail;refine (lV x _ H1.o).mono ?_;rintro e w1 ⟨rfl,rfl⟩;go_wp2_with fail;refine (zd x _ HX.o.1 HX.o.2).mono ?_;rintro e w1 ⟨rfl,hk⟩;have hka:=(Kz w).alloc (.cells #[.int .i64 0, .int .i64 0] 77);have HKA:=Hz (hka.trans hk);have l0:=(hk.au (show ak (w.alloc (.cells #[.int .i64 0, .int .i64 0] 77)) w.heap.size [.int .i64 0, .int .i64 0] 77 from ak.newAt _ rfl rfl) (λh=>h));have L0:=Hz l0;clear hka hk l0;obtain ⟨⟨dk,dn,dc⟩,hd⟩:∃ t,fC x=t:=⟨_,rfl⟩;rw [hd] at HE ⊢;clear hd;dsimp only at HE ⊢;have l0:=L0.o.cell 0;have l1:=L0.o.cell 1;have ll:=L0.o.lt;have f0:=L0.o.free 0;have f1:=L0.o.free 1;simp only [Lz,aB] at l0 l1;go_wp2_with fail;have bG:=((L0.o.aE 0 (.int .i64 dk)).aE 1 (.int .i64 dn)).alloc (.cells #[.int .i64 dk, .int .i64 dn] 77);have x0:=bG.cell 0;have x1:=bG.cell 1;simp only [Zu,Zv,Lz,aB] at x0 x1;refine bodyPost_ret (v:=.agg #[.int .i64 dk, .int .i64 dn]) (by simp [results,Tryz.results23,go_sem,x0,x1]) rfl ?_;refine ⟨by rw [HE.o],?_⟩;rw [HE.o];exact mx.refl HV.o (((HKA.o.setCell (p:=⟨w.heap.size,0,none⟩) (.inr (Zb _)) _).setCell (p:=⟨w.heap.size,1,none⟩) (.inr (Zb _)) _).alloc _)
structure dX (w:World) (q:Nat) (h:WH) (O:Wo) (b:Nat) (rv nv:Value) (F:Nat->Prop) (s:VS) (lv:Value) (l:List Vl) (wr:World) (nv':Value) (F':Nat->Prop):Prop where
 V:fx wr q h O b rv nv' F' s
 K:aa (mw q b nv) w wr
 o1:∀ k,aq nv' k->aq nv k\/w.heap.size<=k
 o2:∀ k,F' k->F k\/w.heap.size<=k
 L:Sl wr 77 2 lv l.length (aH l)
 o3:∀ k,aq lv k->w.heap.size<=k/\¬ F' k
theorem dX.kP {lv:Value} {l:List Vl} {wr:World} {nv':Value} {F':Nat->Prop} (I:dX w q h O b rv nv F s lv l wr nv' F') {k:Nat} (hk:aq lv k):¬ mw q b nv' k/\¬ h.Own k:=by
 obtain ⟨_,c,hc⟩:=I.L.own hk;constructor
 ·rintro (rfl | rfl | h1)
  ·exact hc.ne I.V.hq (by decide) rfl
  ·exact I.V.hm.ne hc rfl
  ·obtain ⟨_,c',hc'⟩:=I.V.hn.own h1;exact hc.ne hc' (by decide) rfl
 ·intro h1;obtain ⟨c',T,hc',hT⟩:=I.V.hw.bE h1;rcases hT with rfl | rfl | rfl | rfl | rfl | rfl | rfl <;> exact hc.ne hc' (by decide) rfl
theorem dX.told {lv:Value} {l:List Vl} {wr w2:World} {nv':Value} {F':Nat->Prop} {s2:VS} (I:dX w q h O b rv nv F s lv l wr nv' F') (t:mx wr q h O b rv nv' F' s2 w2):∃ nv2 F2,dX w q h O b rv nv F s2 lv l w2 nv2 F2:=by
 obtain ⟨nv2,F2,V2,k2,p1,p2⟩:=t;refine ⟨nv2,F2,V2,I.K.then k2 (λj hj=>?_),λj hj=>?_,λj hj=>?_,I.L.ab k2 (λj hj=>(I.kP hj).1),λj hj=>⟨(I.o3 j hj).1,λhf=>?_⟩⟩
 ·rcases hj with rfl | rfl | hj
  ·exact .inl (.inl rfl)
  ·exact .inl (.inr (.inl rfl))
  ·rcases I.o1 j hj with h | h
   ·exact .inl (.inr (.inr h))
   ·exact .inr h
 ·rcases p1 j hj with h | h
  ·exact I.o1 j h
  ·exact .inr (Za I.K.size h)
 ·rcases p2 j hj with h | h
  ·exact I.o2 j h
  ·exact .inr (Za I.K.size h)
 ·rcases p2 j hf with h | h
  ·exact (I.o3 j hj).2 h
  ·have:=(I.L.own hj).1;omega
theorem dX.app {lv:Value} {l:List Vl} {wr wa w2:World} {nv' lv2:Value} {F':Nat->Prop} {v:Vl} (I:dX w q h O b rv nv F s lv l wr nv' F') (ka:aa (λ_=>False) wr wa)
  (hs:Sl w2 77 2 lv2 (l.length+1) (aH l ++ [.int .i64 v.1, .int .i64 v.2])) (hk:aa (aq lv) wa w2) (ho:∀ k,aq lv2 k->aq lv k\/wa.heap.size<=k):dX w q h O b rv nv F s lv2 (l ++ [v]) w2 nv' F':=by
 have k2:=(ka.mono (T:=aq lv) (λ_ _ h=>h.elim)).trans hk;refine ⟨I.V.ab k2 (λj hj hl=>(I.kP hl).1 hj) (λj hj hl=>(I.kP hl).2 hj) (λj hj hl=>(I.o3 j hl).2 hj),I.K.then k2 (λj hj=>.inr (I.o3 j hj).1),I.o1,I.o2,?_,λj hj=>?_⟩
 ·have e:aH (l ++ [v])=aH l ++ [.int .i64 v.1, .int .i64 v.2]:=by simp [aH]
  rw [e,Zq];exact hs
 ·rcases ho j hj with h1 | h1
  ·exact I.o3 j h1
  ·have:=ka.size;have:=I.K.size;exact ⟨by omega,λhf=>by have:=(I.V.hF j hf).1;omega⟩
theorem dX.same {lv:Value} {l:List Vl} {wr w2:World} {nv':Value} {F':Nat->Prop} (I:dX w q h O b rv nv F s lv l wr nv' F') (k:aa (λ_=>False) wr w2):dX w q h O b rv nv F s lv l w2 nv' F':=
 ⟨I.V.same k,I.K.trans (k.mono (λ_ _ h=>h.elim)),I.o1,I.o2,I.L.ab k (λ_ _ h=>h),I.o3⟩
theorem fx.push {x:Int} {kd:Int} {wm wa w2:World} {nv2:Value} (V:fx w q h O b rv nv F s) (hm:eY wm b (s.1 ++ [x])) (km:aa (·=b) w wm) (ka:aa (λ_=>False) wm wa)
  (cs:List Value) (hcs:cC 2 (gh w F) s.2 cs)
  (hs:Sl w2 60 2 nv2 (s.2.length+1) (cs ++ [.int .i64 kd, .slice none 0 0])) (hk:aa (aq nv) wa w2) (ho:∀ k,aq nv2 k->aq nv k\/wa.heap.size<=k) :
  mx w q h O b rv nv F (s.1 ++ [x],s.2 ++ [(kd,[])]) (w2.setCell ⟨q,3,none⟩ nv2):=by
 have K1:aa (mw q b nv) w w2:=((km.mono (λj _ hj=>.inr (.inl hj))).trans (ka.mono (λ_ _ h=>h.elim))).trans (hk.mono (λj _ hj=>.inr (.inr hj)));have K2:=K1.setCell (p:=⟨q,3,none⟩) (.inl (.inl rfl)) nv2;have hsz:=km.size;have hsz2:=ka.size;have hsz3:=hk.size;have nq:¬ aq nv q:=λhq=>by obtain ⟨_,c,hc⟩:=V.hn.own hq;exact V.hq.ne hc (by decide) rfl
 have nb:¬ aq nv b:=λhq=>by obtain ⟨_,c,hc⟩:=V.hn.own hq;exact V.hm.ne hc rfl
 have qb:q≠b:=V.hm.ne V.hq;have hq2:=hk.au (ka.au (km.au V.hq qb) (λh=>h)) nq;have ne2:∀ k,aq nv2 k->k≠q:=λk hk2 e=>by
  obtain ⟨_,c,hc⟩:=hs.own hk2;exact hc.ne hq2 (by decide) e
 have setk:=(aa.refl (·=q) w2).setCell (p:=⟨q,3,none⟩) (.inl rfl) nv2;refine ⟨nv2,F,⟨by simpa using hq2.aE 3 nv2,V.hw.ab K2 (λj hj=>V.e6 hj),?_,⟨_,by rw [Zq];exact hs.ab setk ne2,?_⟩,by simp [V.hl],λj hj=>⟨?_,?_⟩⟩,K2,λj hj=>?_,λj hj=>.inl hj⟩
 ·exact (hm.ab (ka.mono (T:=aq nv) (λ_ _ h=>h.elim) |>.trans hk) nb).ab setk (Ne.symm qb)
 ·refine cC.app (hcs.mono (λa _ r hr=>hr.ab K2 (λj hj _=>(V.hF j hj).2))) rfl ?_;exact ⟨none,0,rfl,Rd.nil _ _,(λa ha=>by cases ha),Zc _⟩
 ·have:=(V.hF j hj).1;have:=K2.size;omega
 ·rintro (e | e | e)
  ·exact (V.hF j hj).2 (.inl e)
  ·exact (V.hF j hj).2 (.inr (.inl e))
  ·rcases ho j e with h1 | h1
   ·exact (V.hF j hj).2 (.inr (.inr h1))
   ·have:=(V.hF j hj).1;omega
 ·rcases ho j hj with h1 | h1
  ·exact .inl h1
  ·exact .inr (by omega)
theorem dX.done {lv:Value} {l:List Vl} {wr:World} {nv':Value} {F':Nat->Prop} {kd:Int} {n:Nat} {g o cap:Nat} {ao:Option Addr} {lc:Nat} (hlv:lv=.slice ao l.length lc) (I:dX w q h O b rv nv F s lv l wr nv' F')
  (hnv:nv'=.slice (some ⟨g,o,none⟩) s.2.length cap) (hn:s.2[n]? = some (kd,[])):mx w q h O b rv nv F (s.1,s.2.set n (kd,l)) (wr.setCell ⟨g,o+n*2+1,none⟩ lv):=by
 subst hnv hlv;have hlt:n<s.2.length:=(Zj.1 hn).1;have hgo:aq (.slice (some ⟨g,o,none⟩) s.2.length cap) g:=rfl;have hne:=λk hk=>I.kP (k:=k) hk;have setk:=(aa.refl (·=g) wr).setCell (p:=⟨g,o+n*2+1,none⟩) (.inl rfl) (.slice ao l.length lc);have K2:aa (mw q b nv) w (wr.setCell ⟨g,o+n*2+1,none⟩ (.slice ao l.length lc)):=I.K.setCell (p:=⟨g,o+n*2+1,none⟩) (by
  rcases I.o1 g hgo with h1 | h1
  ·exact .inl (.inr (.inr h1))
  ·exact .inr h1) _
 obtain ⟨cs,hs,hr⟩:=I.V.hn;have hgq:¬ q=g:=λe=>by
  obtain ⟨_,c,hc⟩:=hs.own hgo;exact I.V.hq.ne hc (by decide) e
 have hgb:¬ b=g:=λe=>by
  obtain ⟨_,c,hc⟩:=hs.own hgo;exact I.V.hm.ne hc e.symm
 obtain ⟨ao',cap',e1,hrd,hcm,hnc⟩:=I.L.rd;cases e1;have hlF:∀ k,aq (.slice ao l.length lc) k->¬ k=g:=λk hk e=>by
  subst e;exact (hne _ hk).1 (.inr (.inr hgo))
 refine ⟨.slice (some ⟨g,o,none⟩) s.2.length cap,λk=>F' k\/aq (.slice ao l.length lc) k,⟨setk.au I.V.hq hgq,I.V.hw.ab setk (λj hj e=>?_),I.V.hm.ab setk hgb,?_,by simp [I.V.hl],λj hj=>?_⟩,K2,I.o1,λj hj=>?_⟩
 ·subst e;exact I.V.e6 hj (.inr (.inr hgo))
 ·have hsl:(s.2.set n (kd,l)).length=s.2.length:=by simp
  refine ⟨cs.set (n*2+1) (.slice ao l.length lc),?_,?_⟩
  ·rw [hsl];exact hs.set (j:=n*2+1) (by omega)
  ·have hr':cC 2 (gh (wr.setCell ⟨g,o+n*2+1,none⟩ (.slice ao l.length lc)) (λk=>F' k\/aq (.slice ao l.length lc) k)) s.2 cs:=
    hr.mono (λa _ r h1=>(h1.ab setk (λj hj _ e=>by subst e;exact (I.V.hF j hj).2 (.inr (.inr hgo)))).more (λj hj=>.inl hj))
   refine cC.setCell hlt (by decide) hr' (λr h2 h3=>?_);have e2:s.2[n]=(kd,[]):=by rw [Le hlt] at hn;exact Option.some.inj hn
   rw [e2] at h3;obtain ⟨_,_,rfl,-⟩:=h3;refine ⟨ao,lc,rfl,hrd.ab setk (λa ha _ e=>?_),λa ha=>.inr ?_,hcm⟩
   ·subst ha;exact hlF a.block rfl e
   ·subst ha;rfl
 ·rcases hj with hj | hj
  ·exact ⟨Zd (I.V.hF j hj).1 setk.size,(I.V.hF j hj).2⟩
  ·exact ⟨Zd (I.L.own hj).1 setk.size,(hne j hj).1⟩
 ·rcases hj with hj | hj
  ·exact I.o2 j hj
  ·exact .inr (I.o3 j hj).1
end
end
section
open Go.RowKit Go.Maps
theorem dJ {T:TypeId} {z:Option Value} {s b:Nat} (h:(Tryz.prog.info? T).map (λi=>(i.zero,i.size,i.bytes))=some (z,s,b)):∃ i,Tryz.prog.info? T=some i/\i.zero=z/\i.size=s/\i.bytes=b:=by
 cases hx:Tryz.prog.info? T with
 | none=>rw [hx] at h;cases h
 | some i=>rw [hx] at h;simp at h;exact ⟨i,rfl,h.1,h.2.1,h.2.2⟩
theorem sM:(Tryz.prog.info? 60).map (λi=>(i.zero,i.size,i.bytes))=some (some (.agg #[.int .i64 0, .slice none 0 0]),2,32):=by kernel_rfl
theorem jJ:(Tryz.prog.info? 77).map (λi=>(i.zero,i.size,i.bytes))=some (some (.agg #[.int .i64 0, .int .i64 0]),2,16):=by kernel_rfl
section
variable {h:WH} {O:Wo} {q b:Nat} {rv:Value}
def wZ (h:WH) (O:Wo) (q b:Nat) (rv:Value) (n:Nat):Prop:=∀ (x:Int) (nv:Value) (F:Nat->Prop) (s:VS) (w:World),fx w q h O b rv nv F s->bm x->(x%4=1->x/4 ∈ O.univ)->dI O.univ s.1<=n->s.1.length+dI O.univ s.1<=5000 ->
 Calls Tryz.prog 23 #[.pointer (some ⟨q,0,none⟩), .int .i64 x] w λe w'=>tW w q h O b rv nv F (valM O.gr n (dA x) s) e w'
def NS (G:Gr) (n:Nat) (x:Int) (s:VS) (j:Nat):List Vl × VS:=fldM (valM G n) ((G x).2.take j) (s.1 ++ [x],s.2 ++ [((G x).1,[])])
theorem wg (G:Gr) (n:Nat) (x:Int) (s:VS):NS G n x s 0=([],(s.1 ++ [x],s.2 ++ [((G x).1,[])])):=rfl
theorem pz (G:Gr) (n:Nat) (x:Int) (s:VS) {j:Nat} {v:Vl} (h:(G x).2[j]? = some v):NS G n x s (j+1)=((NS G n x s j).1 ++ [(valM G n v (NS G n x s j).2).1],(valM G n v (NS G n x s j).2).2):=by
 unfold NS;rw [List.take_add_one,h,Option.toList_some,mU]
 rfl
theorem qV (G:Gr) (n:Nat) (x:Int) (s:VS) {j:Nat} (h:j<=(G x).2.length):(NS G n x s j).1.length=j:=by
 unfold NS;rw [mV,Zx];omega
theorem DI {O:Wo} (hO:O.ok) {n:Nat} {x:Int} {s:VS} (hx:x ∈ O.univ) (j:Nat) (h:dI O.univ (s.1 ++ [x])<=n) (hc:(s.1 ++ [x]).length+dI O.univ (s.1 ++ [x])<=5000) :
  dI O.univ (NS O.gr n x s j).2.1<=n/\(NS O.gr n x s j).2.1.length+dI O.univ (NS O.gr n x s j).2.1<=5000:=by
 have I:=Wo.sJ hO;unfold NS;obtain ⟨m,hm⟩:=lD (lE O.gr n) ((O.gr x).2.take j) (s.1 ++ [x],s.2 ++ [((O.gr x).1,[])]);have h1:=rS O.univ (s.1 ++ [x]) m;have h2:=iG (f:=valM O.gr n) (U:=O.univ) (kM I n) ((O.gr x).2.take j) (s.1 ++ [x],s.2 ++ [((O.gr x).1,[])]) (λv hv=>I.shut x hx v (List.mem_of_mem_take hv));rw [hm] at h2 ⊢;dsimp only at h2 ⊢;exact ⟨by omega,by omega⟩
theorem zu {O:Wo} {x:Int} {j:Nat} (h:j<(O.ar.ah x).2.1.toNat):(O.gr x).2[j]? = some (dA (O.ar.load (x+1+j))):=by
 unfold Wo.gr;dsimp only;rw [List.getElem?_append_left (by simp [Ar.fields];omega),Zw];unfold Ar.fields;rw [Zw,List.getElem?_range h]
 rfl
theorem Bd {O:Wo} {x:Int} {j:Nat} (hk:(O.ar.ah x).1=5) (h:j<(fG O.wt (4*x+1)).length):(O.gr x).2[(O.ar.ah x).2.1.toNat+j]? = some (dA ((fG O.wt (4*x+1)).getD j 0)):=by
 have e:((O.ar.fields x).map dA).length=(O.ar.ah x).2.1.toNat:=by simp [Ar.fields]
 unfold Wo.gr;dsimp only;rw [if_pos hk,List.getElem?_append_right (by rw [e];omega),e,show (O.ar.ah x).2.1.toNat+j-(O.ar.ah x).2.1.toNat=j by omega,Zw,Le h];simp [List.getD,h]
theorem Cx {O:Wo} {x:Int}:(O.gr x).2.length=(O.ar.ah x).2.1.toNat+if (O.ar.ah x).1=5 then (fG O.wt (4*x+1)).length else 0:=by
 unfold Wo.gr;simp only [Zq,Zp,Ar.fields,List.length_range];split <;> simp
theorem wh (G:Gr) (n:Nat) (x:Int) (s:VS) (j:Nat) (hl:s.2.length=s.1.length):(NS G n x s j).2.2[s.1.length]? = some ((G x).1,[]):=by
 unfold NS;rw [mW (qS G n) (lE G n) (wY G n) _ _ (by simp [hl]) s.1.length (by simp)];simp [<-hl]
theorem vr {A:Ar} {x:Int} (h:(A.ah x).1=5):(A.ah x).2.1=0/\(A.ah x).2.2=0:=by
 unfold Ar.ah fD at *;split at h
 ·rename_i hf;rw [if_pos hf];dsimp only at h ⊢;rw [h] at hf;simp [bj] at hf;exact ⟨hf,rfl⟩
 ·cases h
theorem Cy (n:Nat) (ih:wZ h O q b rv n) (x:Int) (nv:Value) (F:Nat->Prop) (s:VS) (w:World) (V:fx w q h O b rv nv F s) (x0:-2305843009213693952<=x) (x1:x<=2305843009213693951) (hx:x ∈ O.univ) (hm:¬ x ∈ s.1)
  (hu:dI O.univ s.1<=n+1) (hc:s.1.length+dI O.univ s.1<=5000) :
  Calls Tryz.prog 51 #[.pointer (some ⟨q,0,none⟩), .int .i64 x] w λe w'=>Bc w q h O b rv nv F s.1.length (valM O.gr (n+1) (3,x) s).2 e w':=by
 have HV:=Hz V;have HNEW:=Hz (eQ O.gr n (v:=(3,x)) rfl hm);have HM:=Hz hm;have HX:=Hz hx;have hp:=lC hx hm;have HU:=Hz (show dI O.univ (s.1 ++ [x])<=n by omega);have HC:=Hz (show (s.1 ++ [x]).length+dI O.univ (s.1 ++ [x])<=5000 by rw [Zq];simp;omega);have hl5:s.1.length<=5000:=by omega
 obtain ⟨ni,hi,hz0,hz1,hz2⟩:=dJ sM;have Ni:=Hz hi;have Nz0:=Hz hz0;have Nz1:=Hz hz1;have Nz2:=Hz hz2;clear hi hz0 hz1 hz2;obtain ⟨vi,hi,hz0,hz1,hz2⟩:=dJ jJ;have Vi:=Hz hi;have Vz0:=Hz hz0;have Vz1:=Hz hz1;have Vz2:=Hz hz2;clear hi hz0 hz1 hz2;obtain ⟨cs,hsl,hcs⟩:=V.hn;obtain ⟨no,nc,rfl,-,hnm,-⟩:=hsl.rd;have HSL:=Hz hsl;have HCS:=Hz hcs;have HLL:=Hz V.hl;have hs5:s.2.length<=5000:=by rw [V.hl];exact hl5
 obtain ⟨n0,D,hown,hn0,hD⟩:=V.hm;have c3:=V.hq.cell 3;have cl:=V.hq.lt;have c1:=V.hq.cell 1;have c0:=V.hq.cell 0;simp only [Lz,aB] at c3 c1 c0;have HD:=Hz hD;clear V hm hp hu hc hsl hcs hD hnm;go_enter Tryz.func51,Tryz.ntmps51;go_wp2_with (at_mapUpdate;refine wpList_mapUpdate_own _ rfl _ _ _ 67 rfl 3 3 rW Tryz.underlying67 _ b n0 D rfl hown (by unfold maxLen;omega) _ _ _ rfl rfl (keyOf_int_mk Tryz.underlying3 (WalkArith.wf_i64 (by constructor <;> omega))) _ [] (plainElem_int Tryz.underlying3 (WalkArith.wf_i64 (by constructor <;> omega))) ?_);intro wm hown1 hgrow;have hsee:=eY.push (w:=w) (w':=wm) hown hn0 HD.o HM.o (by rw [<-HLL.o];exact hown1);have KM:=Hz (vq hgrow);have HSEE:=Hz hsee;have Wm:=HV.o.hw.ab KM.o (λj hj e=>HV.o.e6 hj (.inr (.inl e)));have HWM:=Hz Wm;have hqm:=KM.o.au HV.o.hq (HV.o.hm.ne HV.o.hq);have HQM:=Hz hqm;have c3:=hqm.cell 3;have cl:=hqm.lt;have c0:=hqm.cell 0;simp only [Lz,aB] at c3 c0;obtain ⟨d0,-,d2,-⟩:=Wm.eJ;have dl:=Wm.hp.lt;clear hown hown1 hgrow hn0 hsee Wm hqm c1;go_wp2_with fail;refine (gS x _ HWM.o.ha).mono ?_;rintro e w2 ⟨rfl,rfl⟩;obtain ⟨⟨kd,nf,kc⟩,hT⟩:∃ t,O.ar.ah x=t:=⟨_,rfl⟩;have HT:=Hz hT;have hnf:=O.ar.aQ x;rw [hT] at hnf ⊢;dsimp only at hnf ⊢;clear hT;go_wp2_with (at_builtin;refine cE rfl (.tmp 43) (.tmp 46) 29 rfl 60 ni (.agg #[.int .i64 0, .slice none 0 0]) 2 32 Tryz.underlying29 Ni.o Nz0.o Nz1.o Nz2.o rfl (by decide) _ s.2.length cs rfl ((HSL.o.ab KM.o (λj hj e=>by subst e;obtain ⟨_,c,hc⟩:=HSL.o.own hj;exact HV.o.hm.ne hc rfl)).ab ((Kz wm).alloc _) (λ_ _ h=>h)) ⟨wm.heap.size,0,none⟩ 1 1 [.int .i64 kd, .slice none 0 0] rfl rfl (bV wm 60 #[.int .i64 kd, .slice none 0 0]) (by intro u hu;simp at hu;rcases hu with rfl | rfl <;> rfl) (by unfold maxLen;omega) (by omega) ?_);intro v2 w2 hs2 hk2 ho2;have hka:=(Kz wm).alloc (.cells #[.int .i64 kd, .slice none 0 0] 60);have HT2:=Hz (HV.o.push (x:=x) (kd:=kd) HSEE.o KM.o hka cs HCS.o hs2 hk2 (by simpa using ho2));have nq:¬ aq (.slice no s.2.length nc) q:=λhq=>by obtain ⟨_,c,hc⟩:=HSL.o.own hq;exact HV.o.hq.ne hc (by decide) rfl
 have hq2:=hk2.au (hka.au HQM.o (λh=>h)) nq;have x3:=hq2.cell 3;have xl:=hq2.lt;have xf:=hq2.free 3;simp only [Lz,aB] at x3;obtain ⟨vo2,vc2,rfl,-,-,-⟩:=hs2.rd;clear hs2 hk2 ho2 hka nq hq2 c3 c0 cl d0 d2 dl;go_wp2_with fail;have HI:=Hz (show ∃ nv1 F1,dX w q h O b rv (.slice no s.2.length nc) F (s.1 ++ [x],s.2 ++ [(kd,[])]) (.slice none 0 0) [] (w2.setCell ⟨q,3,none⟩ (.slice vo2 (s.2.length+1) vc2)) nv1 F1 by
  obtain ⟨nv1,F1,V1,k1,p1,p2⟩:=HT2.o
  exact ⟨nv1,F1,V1,k1,p1,p2,Sl.nil _ _ _,λk hk=>(b9 hk).elim⟩)
 clear HT2 x3 xl xf;generalize w2.setCell ⟨q,3,none⟩ (.slice vo2 (s.2.length+1) vc2)=w3 at *;have hkd:(O.gr x).1=kd:=by show (O.ar.ah x).1=kd;rw [HT.o]
 have HNF:=Hz (show ∀ j:Nat,(j:Int)<nf->(O.gr x).2[j]? = some (dA (O.ar.load (x+1+j))) from λj hj=>zu (by rw [HT.o];dsimp only;omega));have HLEN:=Hz (show (O.gr x).2.length=nf.toNat+if kd=5 then (fG O.wt (4*x+1)).length else 0 by rw [Cx,HT.o]);have HKP:=Hz (λj=>wh O.gr n x s j HLL.o);have HUN:=Hz (λj=>DI HV.o.hw.ok HX.o j HU.o HC.o);obtain ⟨f,rfl⟩:∃ f:Nat,nf=f:=⟨nf.toNat,by omega⟩;have HI0:=Hz (show ∃ nv1 F1,dX w q h O b rv (.slice no s.2.length nc) F (NS O.gr n x s 0).2 (.slice none 0 0) (NS O.gr n x s 0).1 w3 nv1 F1 by rw [wg,hkd];exact HI.o);have HKD:=Hz hkd;clear HI hkd;have ih':=Hz ih;go_loopw [9,52] (λlv i wr=>∃ (j:Nat) (nv1:Value) (F1:Nat->Prop),j<=f/\i=.int .i64 j/\dX w q h O b rv (.slice no s.2.length nc) F (NS O.gr n x s j).2 lv (NS O.gr n x s j).1 wr nv1 F1) (λ_ i _=>f-(intOf i).toNat)
 case atStart=>
  obtain ⟨nv1,F1,hI⟩:=HI0.o;exact ⟨0,nv1,F1,Zc _,rfl,hI⟩
 case round=>
  clear HI0;obtain ⟨j,nv1,F1,hj,rfl,hI⟩:=hrel;have HI:=Hz hI;by_cases hlt:j<f
  ·have HST:=Hz (pz O.gr n x s (HNF.o j (by omega)));have hjl:=qV O.gr n x s (j:=j) (by rw [HLEN.o];omega);have HJL:=Hz hjl;have c0:=hI.V.hq.cell 0;have cl:=hI.V.hq.lt;obtain ⟨d0,-,-,-⟩:=hI.V.hw.eJ;have dl:=hI.V.hw.hp.lt;simp only [Lz,aB] at c0;obtain ⟨lo,lc,rfl,-,-,-⟩:=hI.L.rd;rw [hjl] at HI ⊢;clear hI hjl;go_wp2_with fail;refine (eW (x+1+j) _ HI.o.V.hw.ha).mono ?_;rintro e w4 ⟨rfl,rfl⟩;have HLR:=Hz (HV.o.hw.ok.ha.load (x+1+j));have HLU:=Hz (Wo.sG HV.o.hw.ok (x+1+j));generalize O.ar.load (x+1+j)=y at *;go_wp2_with fail;refine (ih'.o y nv1 F1 _ _ HI.o.V HLR.o (λ_=>HLU.o) (HUN.o j).1 (HUN.o j).2).mono ?_;rintro e w4 ⟨rfl,ht⟩;obtain ⟨nv2,F2,hI2⟩:=HI.o.told ht;obtain ⟨⟨⟨r1,r2⟩,sr⟩,hr⟩:∃ t,valM O.gr n (dA y) (NS O.gr n x s j).2=t:=⟨_,rfl⟩;rw [hr] at hI2 HST ⊢;dsimp only at hI2 HST ⊢;have HI2:=Hz hI2;have HL2:=Hz (show Sl w4 77 2 (.slice lo j lc) j (aH (NS O.gr n x s j).1) by have:=hI2.L;rw [HJL.o] at this;exact this);clear hI2 ht c0 cl d0 dl hr;go_wp2_with (at_builtin;refine cE rfl (.tmp 55) (.tmp 70) 28 rfl 77 vi (.agg #[.int .i64 0, .int .i64 0]) 2 16 Tryz.underlying28 Vi.o Vz0.o Vz1.o Vz2.o rfl (by decide) _ j (aH (NS O.gr n x s j).1) rfl (HL2.o.ab ((Kz w4).alloc _) (λ_ _ h=>h)) ⟨w4.heap.size,0,none⟩ 1 1 [.int .i64 r1, .int .i64 r2] rfl rfl (bV w4 77 #[.int .i64 r1, .int .i64 r2]) (by intro u hu;simp at hu;rcases hu with rfl | rfl <;> rfl) (by unfold maxLen;omega) (by omega) ?_);intro v5 w5 hs5 hk5 ho5;have HI5:=Hz (HI2.o.app (v:=(r1,r2)) ((Kz w4).alloc _) (by rw [HJL.o];exact hs5) hk5 (by simpa using ho5));clear hs5 hk5 ho5;go_wp2_with fail;go_roundw
   case rel=>exact ⟨j+1,nv2,F2,by omega,by go_num,by rw [HST.o];exact HI5.o⟩
   case measure=>simp [intOf];omega
  ·obtain rfl:j=f:=by omega
   clear hlt hj;by_cases hk5:kd=5
   ·subst hk5;have hg:=vr (A:=O.ar) (x:=x) (by rw [HT.o]);rw [HT.o] at hg;dsimp only at hg;obtain rfl:j=0:=by omega
    obtain rfl:kc=0:=hg.2;have hux:=HV.o.hw.ok.ha.ju (O.ar.oA (i:=x) (by rw [HT.o]));have h4:=HV.o.hw.ok.ha.h4;rw [if_pos rfl] at HLEN;have HGW:=Hz (λ(j:Nat) (hj:j<(fG O.wt (4*x+1)).length)=>by have:=Bd (O:=O) (x:=x) (by rw [HT.o]) hj;rw [HT.o] at this;exact this);have hwl:(fG O.wt (4*x+1)).length<=24:=by have h1:=qQ (4*x+1) O.wt;have h2:=HV.o.hw.ok.hq;unfold fG;unfold gM at h1;omega
    have hgl:O.rg.length<=1000000:=by have h2:=HV.o.hw.ok.hq;omega
    have hwl2:O.wt.length<=1000000:=by have h2:=HV.o.hw.ok.hq;omega
    have c0:=hI.V.hq.cell 0;have cl:=hI.V.hq.lt;obtain ⟨-,-,d2,-⟩:=hI.V.hw.eJ;have dl:=hI.V.hw.hp.lt;simp only [Lz,aB] at c0;clear hg hI;go_wp2_with fail;refine a6 (ftq [0,1,2,7,11] (.pure 3 (.free 4 (.free 5 (.pure 6 (.run 8 (.run 9 (.swi [] (.free 10 (.fin)))))))))) [9,10] (Fz c0 (Fa d2)) ?_
    iterate 9 refine Wz ?_
    refine aN rfl rfl (λK hK=>?_);unfold ax;go_simp;refine (Au x _ (by omega) (by omega)).mono ?_;rintro e w4 ⟨rfl,rfl⟩;refine hK _ _ (λh=>h) ?_;clear hK K;refine aD rfl rfl rfl (λK hK=>?_);unfold ax;go_simp;refine (Eg h.ps _ _ _ _ (4*x+1) _ (HI.o.same (Kz wr).drew).V.hw.hs hwl2).mono ?_;rintro e w4 ⟨ao,ac,rfl,hs4,hk4,ho4⟩;have hI4:=HI.o.same ((Kz wr).drew.trans hk4);have HI4:=Hz hI4;have HS4:=Hz hs4;have HO4:Hd (∀ k,aq (.slice ao (gM (4*x+1) O.wt).length ac) k->wr.heap.size<=k):=λk hk=>ho4 k hk;refine hK _ _ ?_;clear hK K hs4 hk4 ho4 hI4 c0 cl d2 dl;refine aC (λ_=>True) trivial ?_;refine Wz ?_;refine av ?_;have hLW:gM (4*x+1) O.wt=fG O.wt (4*x+1):=rfl;rw [hLW] at HS4 HO4 ⊢;have HRW:=Hz (show ∀ y ∈ fG O.wt (4*x+1),bm y from λy hy=>by
     unfold fG at hy;obtain ⟨e,he,rfl⟩:=Zi.1 hy
     exact (HV.o.hw.ok.hw e (Zo.1 he).1).2)
    have HRU:=Hz (show ∀ y ∈ fG O.wt (4*x+1),y/4 ∈ O.univ from λy hy=>Wo.sI hy);clear hLW;generalize fG O.wt (4*x+1)=L at *;simp only [Zt,Nat.zero_add] at HLEN HGW;go_wp2_with fail;go_loopw [9,86] (λlv i wx=>∃ (j:Nat) (nv1:Value) (F1:Nat->Prop),j<=L.length/\i=.int .i64 j/\dX w q h O b rv (.slice no s.2.length nc) F (NS O.gr n x s j).2 lv (NS O.gr n x s j).1 wx nv1 F1/\Sl wx 2 1 (.slice ao L.length ac) L.length (L.map (Value.int .i64))) (λ_ i _=>L.length-(intOf i).toNat)
    case atStart=>
     exact ⟨0,nv1,F1,Zc _,rfl,HI4.o,HS4.o⟩
    case round=>
     clear HI HI4 HS4 HO4;rename_i nv0 F0 _ _ _;obtain ⟨j,nv1,F1,hj,rfl,hI,hsr⟩:=hrel;have HI:=Hz hI;have HSR:=Hz hsr;obtain ⟨_,_,e',hrd,-,-⟩:=hsr.rd;cases e';clear hsr;by_cases hlt:j<L.length
     ·have HST:=Hz (pz O.gr n x s (HGW.o j hlt));have hjl:=qV O.gr n x s (j:=j) (by rw [HLEN.o];omega);have HJL:=Hz hjl;obtain ⟨lo,lc,rfl,-,-,-⟩:=hI.L.rd;rw [hjl] at HI ⊢;obtain ⟨gg,go,rfl,ggl,g0⟩:=hrd.int64 j hlt;have HLR:=Hz (HRW.o (L.getD j 0) (by rw [Ld,Le hlt];exact Ze hlt));have HLU:=Hz (HRU.o (L.getD j 0) (by rw [Ld,Le hlt];exact Ze hlt));clear hI hjl hrd;generalize L.getD j 0=y at *;go_wp2_with fail;refine (ih'.o y nv1 F1 _ _ HI.o.V HLR.o (λ_=>HLU.o) (HUN.o j).1 (HUN.o j).2).mono ?_;rintro e w5 ⟨rfl,ht⟩;have HSR5:=Hz (HSR.o.ab ht.choose_spec.choose_spec.2.1 (λk hk=>by obtain ⟨_,c,hc⟩:=HSR.o.own hk;exact HI.o.V.kO hc (by decide) (by decide)));obtain ⟨nv2,F2,hI2⟩:=HI.o.told ht;obtain ⟨⟨⟨r1,r2⟩,sr⟩,hr⟩:∃ t,valM O.gr n (dA y) (NS O.gr n x s j).2=t:=⟨_,rfl⟩;rw [hr] at hI2 HST ⊢;dsimp only at hI2 HST ⊢;have HI2:=Hz hI2;have HL2:=Hz (show Sl w5 77 2 (.slice lo j lc) j (aH (NS O.gr n x s j).1) by have:=hI2.L;rw [HJL.o] at this;exact this);clear hI2 ht g0 ggl hr;go_wp2_with (at_builtin;refine cE rfl (.tmp 90) (.tmp 94) 28 rfl 77 vi (.agg #[.int .i64 0, .int .i64 0]) 2 16 Tryz.underlying28 Vi.o Vz0.o Vz1.o Vz2.o rfl (by decide) _ j (aH (NS O.gr n x s j).1) rfl (HL2.o.ab ((Kz w5).alloc _) (λ_ _ h=>h)) ⟨w5.heap.size,0,none⟩ 1 1 [.int .i64 r1, .int .i64 r2] rfl rfl (bV w5 77 #[.int .i64 r1, .int .i64 r2]) (by intro u hu;simp at hu;rcases hu with rfl | rfl <;> rfl) (by unfold maxLen;omega) (by omega) ?_);intro v6 w6 hs6 hk6 ho6;have HI6:=Hz (HI2.o.app (v:=(r1,r2)) ((Kz w5).alloc _) (by rw [HJL.o];exact hs6) hk6 (by simpa using ho6));have hka6:=(Kz w5).alloc (.cells #[.int .i64 r1, .int .i64 r2] 77);have HSR6:=Hz ((HSR5.o.ab hka6 (λ_ _ h=>h)).ab hk6 (λk hk hk2=>by
       obtain ⟨_,c,hc⟩:=(HSR5.o.ab hka6 (λ_ _ h=>h)).own hk;obtain ⟨_,c',hc'⟩:=(HL2.o.ab hka6 (λ_ _ h=>h)).own hk2
       exact hc.ne hc' (by decide) rfl))
      clear hs6 hk6 ho6 hka6;go_wp2_with fail;go_roundw
      case rel=>exact ⟨j+1,nv2,F2,by omega,by go_num,by rw [HST.o];exact HI6.o,HSR6.o⟩
      case measure=>simp [intOf];omega
     ·obtain rfl:j=L.length:=by omega
      clear hlt hj;have HI9:=Hz hI;obtain ⟨cs9,hs9,hr9⟩:=hI.V.hn;have hlt9:s.1.length<(NS O.gr n x s L.length).2.2.length:=(Zj.1 (HKP.o L.length)).1;obtain ⟨g,o,cap9,cur,rfl,hb9,h91,h92,h93,h94⟩:=hs9.laid (by omega);have c3:=hI.V.hq.cell 3;have cl:=hI.V.hq.lt;have g1:=hb9.cell (o+s.2.length*2+1);have gl:=hb9.lt;have gf:=hb9.free (o+s.2.length*2+1);have hs9l:s.2.length<(NS O.gr n x s L.length).2.2.length:=by rw [HLL.o];exact hlt9
      obtain ⟨u9,hu9⟩:∃ u,cur[o+s.2.length*2+1]? = some u:=⟨_,Le (by omega)⟩;simp only [Lz,aB] at c3;rw [hu9] at g1;obtain ⟨lo9,lc9,rfl,-,-,-⟩:=hI.L.rd;have hs9m:(NS O.gr n x s L.length).2.2.length<=cap9:=h91;clear hI hr9 hs9 hb9 h92 h93 h94 hlt9 h91 hu9;go_wp2_with fail;go_ret;have hd:=dX.done (kd:=5) (n:=s.1.length) rfl HI9.o rfl (by have hkp:=HKP.o L.length;rw [HKD.o] at hkp;exact hkp);refine ⟨cS (by rw [HLL.o]),?_⟩;rw [HNEW.o];have hfull:NS O.gr n x s L.length=fldM (valM O.gr n) (O.gr x).2 (s.1 ++ [x],s.2 ++ [((O.gr x).1,[])]):=by
       unfold NS;rw [List.take_of_length_le (by rw [HLEN.o];simp)]
      rw [<-hfull,HKD.o];rw [<-HLL.o] at hd ⊢;exact hd
   ·have hkb:(kd == 5)=false:=by simpa using hk5
    rw [if_neg hk5] at HLEN;clear hk5;have HI9:=Hz hI;obtain ⟨cs9,hs9,hr9⟩:=hI.V.hn;have hlt9:s.1.length<(NS O.gr n x s j).2.2.length:=(Zj.1 (HKP.o j)).1;obtain ⟨g,o,cap9,cur,rfl,hb9,h91,h92,h93,h94⟩:=hs9.laid (by omega);have c3:=hI.V.hq.cell 3;have cl:=hI.V.hq.lt;have g1:=hb9.cell (o+s.2.length*2+1);have gl:=hb9.lt;have gf:=hb9.free (o+s.2.length*2+1);have hs9l:s.2.length<(NS O.gr n x s j).2.2.length:=by rw [HLL.o];exact hlt9
    obtain ⟨u9,hu9⟩:∃ u,cur[o+s.2.length*2+1]? = some u:=⟨_,Le (by omega)⟩;rw [hu9] at g1;simp only [Lz,aB] at c3;obtain ⟨lo9,lc9,rfl,-,-,-⟩:=hI.L.rd;have hs9m:(NS O.gr n x s j).2.2.length<=cap9:=h91;clear hI hr9 hs9 hb9 h92 h93 h94 hlt9 h91 hu9;go_wp2_with fail;go_ret;have hd:=dX.done (kd:=kd) (n:=s.1.length) rfl HI9.o rfl (by have hkp:=HKP.o j;rw [HKD.o] at hkp;exact hkp);refine ⟨cS (by rw [HLL.o]),?_⟩;rw [HNEW.o];have hfull:NS O.gr n x s j=fldM (valM O.gr n) (O.gr x).2 (s.1 ++ [x],s.2 ++ [((O.gr x).1,[])]):=by
     unfold NS;rw [List.take_of_length_le (by rw [HLEN.o];simp)]
    rw [<-hfull,HKD.o];rw [<-HLL.o] at hd ⊢;exact hd
end
end
section
open Go.RowKit Go.Maps
section
variable {h:WH} {O:Wo} {q b:Nat} {rv:Value}
theorem x7 (n:Nat) (ih:wZ h O q b rv n) (x:Int) (nv:Value) (F:Nat->Prop) (s:VS) (w:World) (V:fx w q h O b rv nv F s) (hx:bm x) (h1:x%4=1) (hxu:x/4 ∈ O.univ) (hm:¬ x/4 ∈ s.1)
  (hu:dI O.univ s.1<=n+1) (hc:s.1.length+dI O.univ s.1<=5000) :
  Calls Tryz.prog 23 #[.pointer (some ⟨q,0,none⟩), .int .i64 x] w λe w'=>tW w q h O b rv nv F (valM O.gr (n+1) (dA x) s) e w':=by
 have HV:=Hz V;have HE:=Hz (show (valM O.gr (n+1) (dA x) s).1=ij s.1.length by rw [qe h1,eQ O.gr n rfl hm]);have HVO:=Hz (qe h1);have H1:=Hz h1;have HM:=Hz hm;have HU:=Hz hu;have HC:=Hz hc;have HXU:=Hz hxu;have HIH:=Hz ih;have r0:-2305843009213693952<=x/4:=by have:=hx.1;omega
 have r2:x/4<=2305843009213693951:=by have:=hx.2;omega
 clear V h1 hm hu hc hxu ih;go_enter Tryz.func23,Tryz.ntmps23;go_wp2_with fail;refine (dH x _ H1.o).mono ?_;rintro e w1 ⟨rfl,rfl⟩;have hka:=(Kz w).alloc (.cells #[.int .i64 0, .int .i64 0] 77);have V1:=Hz (HV.o.same hka);have hal:ak (w.alloc (.cells #[.int .i64 0, .int .i64 0] 77)) w.heap.size [.int .i64 0, .int .i64 0] 77:=ak.newAt _ rfl rfl;have HAL:=Hz hal;have HKA:=Hz hka;have c1:=V1.o.hq.cell 1;have cl:=V1.o.hq.lt;simp only [Lz,aB] at c1;obtain ⟨n0,D,hown,hn0,hD⟩:=V1.o.hm;have HD:=Hz (hD (x/4) (by omega) (by omega));clear hD hka hal;go_wp2_with (at_lookup;refine wpList_lookup_own_ok_int _ rfl _ _ 67 rfl 3 3 .i64 rW Tryz.underlying67 Tryz.underlying3 (tV _) b n0 D rfl hown _ _ rfl (keyOf_int_mk Tryz.underlying3 (WalkArith.wf_i64 (by constructor <;> omega))) ?_);intro c hat hwc;rw [HD.o.1,decide_eq_false HM.o];clear hat hwc hown hn0 c1 cl;go_wp2_with fail;refine (Cy n HIH.o (x/4) nv F s _ V1.o r0 r2 HXU.o HM.o HU.o HC.o).mono ?_;rintro e w2 ⟨rfl,ht⟩;have bG:=ht.choose_spec.choose_spec.2.1.au HAL.o (by
  intro hf;have:=HV.o.lt hf
  omega)
 have l0:=bG.cell 0;have l1:=bG.cell 1;have ll:=bG.lt;have f0:=bG.free 0;have f1:=bG.free 1;simp only [Lz,aB] at l0 l1;have HB2:=Hz bG;have HT:=Hz ht;clear bG ht;go_wp2_with fail;have ew:=(HB2.o.aE 0 (.int .i64 3)).aE 1 (.int .i64 s.1.length);have x0':=ew.cell 0;have x1':=ew.cell 1;simp only [Zu,Zv,Lz,aB] at x0' x1';refine bodyPost_ret (v:=.agg #[.int .i64 3, .int .i64 s.1.length]) (by simp [results,Tryz.results23,go_sem,x0',x1']) rfl ?_;refine ⟨by rw [HE.o];rfl,?_⟩;rw [HVO.o];have hsz:=HKA.o.size;have hsz1:(w.alloc (.cells #[.int .i64 0, .int .i64 0] 77)).heap.size=w.heap.size+1:=by simp
 obtain ⟨nv1,F1,V2,k2,p1,p2⟩:=HT.o;have ke:=((aa.refl (·=w.heap.size) w2).setCell (p:=⟨w.heap.size,0,none⟩) (.inl rfl) (.int .i64 3)).setCell (p:=⟨w.heap.size,1,none⟩) (.inl rfl) (.int .i64 s.1.length);refine ⟨nv1,F1,V2.ab ke (λj hj e=>?_) (λj hj e=>?_) (λj hj e=>?_),(((HKA.o.mono (λ_ _ h=>h.elim)).trans k2).setCell (p:=⟨w.heap.size,0,none⟩) (.inr (Zb _)) _).setCell (p:=⟨w.heap.size,1,none⟩) (.inr (Zb _)) _,λj hj=>?_,λj hj=>?_⟩
 ·subst e;exact V2.kO HB2.o (by decide) (by decide) hj
 ·subst e;obtain ⟨c',T,hc',hT⟩:=V2.hw.bE hj;rcases hT with rfl | rfl | rfl | rfl | rfl | rfl | rfl <;> exact HB2.o.ne hc' (by decide) rfl
 ·subst e;rcases p2 _ hj with h1 | h1
  ·have:=(HV.o.hF _ h1).1;omega
  ·omega
 ·rcases p1 j hj with h1 | h1
  ·exact .inl h1
  ·exact .inr (by omega)
 ·rcases p2 j hj with h1 | h1
  ·exact .inl h1
  ·exact .inr (by omega)
theorem Be:∀ n:Nat,n<=5000->wZ h O q b rv n:=by
 intro n
 induction n with
 | zero=>
  intro _ x nv F s w V hx hxu hu hc;exact sL x 0 V hx (λh1=>qc (Nat.le_zero.1 hu) (hxu h1)) (by omega)
 | succ n ih=>
  intro hn x nv F s w V hx hxu hu hc;by_cases hm:x%4=1->x/4 ∈ s.1
  ·exact sL x (n+1) V hx hm (by omega)
  ·obtain ⟨h1,h2⟩:=Classical.not_imp.1 hm;exact x7 n (ih (by omega)) x nv F s w V hx h1 (hxu h1) h2 hu hc
def jZ (w:World) (lo:Nat) (v:Value) (V:List Vl × List Nd):Prop:=
 ∃ ro rc no nc F,v=.agg #[.slice ro V.1.length rc, .slice no V.2.length nc]/\Sl w 77 2 (.slice ro V.1.length rc) V.1.length (aH V.1)/\dP w (.slice no V.2.length nc) F V.2 /\
  ∀ k,(F k\/aq (.slice ro V.1.length rc) k\/aq (.slice no V.2.length nc) k)->lo<=k/\k<w.heap.size
theorem jZ.ab {w w':World} {S:Nat->Prop} {lo:Nat} {v:Value} {V:List Vl × List Nd} (H:jZ w lo v V) (k:aa S w w') (hn:∀ j,lo<=j->j<w.heap.size->¬ S j):jZ w' lo v V:=by
 obtain ⟨ro,rc,no,nc,F,e,h1,h2,h3⟩:=H;refine ⟨ro,rc,no,nc,F,e,h1.ab k (λj hj=>?_),h2.ab k (λj hj _=>?_) (λj hj=>?_),λj hj=>⟨(h3 j hj).1,Zd (h3 j hj).2 k.size⟩⟩
 ·have:=h3 j (.inr (.inl hj));exact hn j this.1 this.2
 ·have:=h3 j (.inl hj);exact hn j this.1 this.2
 ·have:=h3 j (.inr (.inr hj));exact hn j this.1 this.2
structure iH (w:World) (q:Nat) (h:WH) (O:Wo) (b:Nat) (wr:World) (rv nv:Value) (F:Nat->Prop) (s:VS) (l:List Vl):Prop where
 V:fx wr q h O b rv nv F s
 K:aa (λ_=>False) w wr
 o1:∀ k,aq nv k->w.heap.size<=k
 o2:∀ k,F k->w.heap.size<k
 L:Sl wr 77 2 rv l.length (aH l)
 o3:∀ k,aq rv k->w.heap.size<=k/\¬ F k
 oq:w.heap.size<=q
 ob:w.heap.size<=b
 B:ak wr w.heap.size [.slice none 0 0, .slice none 0 0] 31
theorem iH.ng {w wr:World} {rv nv:Value} {F:Nat->Prop} {s:VS} {l:List Vl} (I:iH w q h O b wr rv nv F s l) {k:Nat} (hk:aq rv k):¬ mw q b nv k/\¬ h.Own k:=by
 obtain ⟨_,c,hc⟩:=I.L.own hk;refine ⟨I.V.kO hc (by decide) (by decide),λh1=>?_⟩;obtain ⟨c',T,hc',hT⟩:=I.V.hw.bE h1;rcases hT with rfl | rfl | rfl | rfl | rfl | rfl | rfl <;> exact hc.ne hc' (by decide) rfl
theorem iH.told {w wr w2:World} {rv nv:Value} {F:Nat->Prop} {s s2:VS} {l:List Vl} (I:iH w q h O b wr rv nv F s l) (t:mx wr q h O b rv nv F s2 w2):∃ nv2 F2,iH w q h O b w2 rv nv2 F2 s2 l:=by
 obtain ⟨nv2,F2,V2,k2,p1,p2⟩:=t;have hz:=I.K.size;refine ⟨nv2,F2,V2,I.K.then k2 (λj hj=>?_),λj hj=>?_,λj hj=>?_,I.L.ab k2 (λj hj=>(I.ng hj).1),λj hj=>⟨(I.o3 j hj).1,λhf=>?_⟩,I.oq,I.ob,k2.au I.B (I.V.kO I.B (by decide) (by decide))⟩
 ·rcases hj with rfl | rfl | hj
  ·exact .inr I.oq
  ·exact .inr I.ob
  ·exact .inr (I.o1 j hj)
 ·rcases p1 j hj with h | h
  ·exact I.o1 j h
  ·omega
 ·have hbl:=I.B.lt;rcases p2 j hj with h | h
  ·exact I.o2 j h
  ·omega
 ·rcases p2 j hf with h | h
  ·exact (I.o3 j hj).2 h
  ·have:=(I.L.own hj).1;omega
theorem iH.same {w wr w2:World} {rv nv:Value} {F:Nat->Prop} {s:VS} {l:List Vl} (I:iH w q h O b wr rv nv F s l) (k:aa (λ_=>False) wr w2):iH w q h O b w2 rv nv F s l:=
 ⟨I.V.same k,I.K.trans k,I.o1,I.o2,I.L.ab k (λ_ _ h=>h),I.o3,I.oq,I.ob,k.au I.B (λh=>h)⟩
theorem iH.app {w wr wa w2:World} {rv nv v2:Value} {F:Nat->Prop} {s:VS} {l:List Vl} {v:Vl} (I:iH w q h O b wr rv nv F s l) (ka:aa (λ_=>False) wr wa)
  (hs:Sl w2 77 2 v2 (l.length+1) (aH l ++ [.int .i64 v.1, .int .i64 v.2])) (hk:aa (aq rv) wa w2) (ho:∀ k,aq v2 k->aq rv k\/wa.heap.size<=k):iH w q h O b (w2.setCell ⟨q,2,none⟩ v2) v2 nv F s (l ++ [v]):=by
 have k2:=(ka.mono (T:=aq rv) (λ_ _ h=>h.elim)).trans hk;have hz:=ka.size;have hz2:=I.K.size;have nq:∀ {v:Value} {wx:World} {n:Nat} {xs:List Value},Sl wx 77 2 v n xs->ak wx q [.pointer (some ⟨h.p,0,none⟩), .map (some b),rv,nv] 69->¬ aq v q:=λhs hq h=>by
  obtain ⟨_,c,hc⟩:=hs.own h;exact hc.ne hq (by decide) rfl
 have hq2:=k2.au I.V.hq (nq I.L I.V.hq);have set:=(aa.refl (·=q) w2).setCell (p:=⟨q,2,none⟩) (.inl rfl) v2;have V2:=I.V.ab k2 (λj hj hl=>(I.ng hl).1 hj) (λj hj hl=>(I.ng hl).2 hj) (λj hj hl=>(I.o3 j hl).2 hj);have sq:∀ j,aq v2 j->¬ j=q:=λj hj e=>nq hs hq2 (e ▸ hj);have B2:=k2.au I.B (λhl=>by obtain ⟨_,c,hc⟩:=I.L.own hl;exact hc.ne I.B (by decide) rfl);refine ⟨⟨by simpa using hq2.aE 2 v2,V2.hw.ab set (λj hj e=>by subst e;exact V2.e6 hj (.inl rfl)),V2.hm.ab set (λe=>V2.hm.ne V2.hq e.symm),V2.hn.ab set (λj hj _ e=>(V2.hF j hj).2 (.inl e)) (λj hj e=>?_),V2.hl,λj hj=>⟨?_,(V2.hF j hj).2⟩⟩,
  (I.K.then k2 (λj hj=>.inr (I.o3 j hj).1)).setCell (p:=⟨q,2,none⟩) (.inr I.oq) _,I.o1,I.o2,?_,λj hj=>?_,I.oq,I.ob,set.au B2 (B2.ne hq2 (by decide))⟩
 ·obtain ⟨_,c,hc⟩:=V2.hn.own hj;exact hc.ne hq2 (by decide) e
 ·have:=(V2.hF j hj).1;have:=set.size;omega
 ·have e:aH (l ++ [v])=aH l ++ [.int .i64 v.1, .int .i64 v.2]:=by simp [aH]
  rw [e,Zq];exact hs.ab set sq
 ·rcases ho j hj with h1 | h1
  ·exact I.o3 j h1
  ·exact ⟨by omega,λhf=>by have:=(I.V.hF j hf).1;omega⟩
def TS (O:Wo) (k:Nat):List Vl × VS:=fldM (valM O.gr 5000) ((O.rt.map dA).take k) ([],[])
theorem Bf {O:Wo} {k:Nat} (h:k<O.rt.length):TS O (k+1)=((TS O k).1 ++ [(valM O.gr 5000 (dA (O.rt.getD k 0)) (TS O k).2).1],(valM O.gr 5000 (dA (O.rt.getD k 0)) (TS O k).2).2):=by
 unfold TS;have e:(O.rt.map dA)[k]? = some (dA (O.rt.getD k 0)):=by rw [Zw,Le h];simp [List.getD,h]
 rw [List.take_add_one,e,Option.toList_some,mU]
 rfl
theorem Cz {O:Wo} {k:Nat} (h:k<=O.rt.length):(TS O k).1.length=k:=by
 unfold TS;rw [mV,Zx,Zp];omega
theorem Av {O:Wo} (hO:O.ok) (k:Nat):dI O.univ (TS O k).2.1<=5000/\(TS O k).2.1.length+dI O.univ (TS O k).2.1<=5000:=by
 have I:=Wo.sJ hO;unfold TS;have h1:=Wo.A9 hO;have h2:=rT O.univ;have h3:=iG (f:=valM O.gr 5000) (U:=O.univ) (kM I 5000) ((O.rt.map dA).take k) ([],[]) (λv hv h3=>by
  obtain ⟨x,hx,rfl⟩:=Zi.1 (List.mem_of_mem_take hv)
  rw [(mX h3).2];exact Wo.sH hx)
 simp only [List.length_nil] at h3;exact ⟨by omega,by omega⟩
def rX (w:World) (V:List Vl × List Nd) (e:Ending) (w':World):Prop:=∃ v,e=.returned v/\jZ w' w.heap.size v V/\aa (λ_=>False) w w'
theorem x8 (w:World) (H:bh w h O) :
  Calls Tryz.prog 15 #[.pointer (some ⟨h.p,0,none⟩)] w λe w'=>rX w O.view e w':=by
 have HH:=Hz H;obtain ⟨vi,hi,hz0,hz1,hz2⟩:=dJ jJ;have Vi:=Hz hi;have Vz0:=Hz hz0;have Vz1:=Hz hz1;have Vz2:=Hz hz2;clear hi hz0 hz1 hz2;have hmm:=@run_makeMap Tryz.prog;have HMM:=Hz hmm;have h12:=H.ok.h12;obtain ⟨ro,rc,hro,-,-,-⟩:=H.hr.rd;have HRO:=Hz hro;have c3:=H.eJ.2.2.2;have pl:=H.hp.lt;rw [hro,h12] at c3;have HRR:=Hz H.hr;rw [hro,h12] at HRR;clear H h12 hro;go_enter Tryz.func15,Tryz.ntmps15;go_upto_region 2 with fail
 have k1:=(((Kz w).alloc (.cells #[.slice none 0 0, .slice none 0 0] 31)).alloc (.map #[] 0)).alloc (.cells #[.pointer (some ⟨h.p,0,none⟩), .map (some (w.heap.size+1)), .slice none 0 0, .slice none 0 0] 69);have hb:ak (((w.alloc (.cells #[.slice none 0 0, .slice none 0 0] 31)).alloc (.map #[] 0)).alloc (.cells #[.pointer (some ⟨h.p,0,none⟩), .map (some (w.heap.size+1)), .slice none 0 0, .slice none 0 0] 69)) w.heap.size [.slice none 0 0, .slice none 0 0] 31:=((ak.newAt _ rfl rfl).alloc _).alloc _;have hsn:eY (((w.alloc (.cells #[.slice none 0 0, .slice none 0 0] 31)).alloc (.map #[] 0)).alloc (.cells #[.pointer (some ⟨h.p,0,none⟩), .map (some (w.heap.size+1)), .slice none 0 0, .slice none 0 0] 69)) (w.heap.size+1) []:=by
  have:=eY.made (w.alloc (.cells #[.slice none 0 0, .slice none 0 0] 31));simp only [World.size_alloc] at this;exact this.ab ((Kz _).alloc _) (λh=>h)
 have hv:fx (((w.alloc (.cells #[.slice none 0 0, .slice none 0 0] 31)).alloc (.map #[] 0)).alloc (.cells #[.pointer (some ⟨h.p,0,none⟩), .map (some (w.heap.size+1)), .slice none 0 0, .slice none 0 0] 69)) (w.heap.size+1+1) h O (w.heap.size+1) (.slice none 0 0) (.slice none 0 0) (λ_=>False) ([],[]):=
  ⟨ak.newAt _ (by simp) rfl,HH.o.ab k1 (λ_ _ h=>h),hsn,dP.nil _ _,rfl,λ_ h=>h.elim⟩
 have HK1:=Hz k1;have HB:=Hz hb;have HVW:=Hz hv;have HSZ:=Hz (show w.heap.size+3<=(((w.alloc (.cells #[.slice none 0 0, .slice none 0 0] 31)).alloc (.map #[] 0)).alloc (.cells #[.pointer (some ⟨h.p,0,none⟩), .map (some (w.heap.size+1)), .slice none 0 0, .slice none 0 0] 69)).heap.size by simp);have c3:=hv.hw.eJ.2.2.2;have pl:=hv.hw.hp.lt;rw [HRO.o,HH.o.ok.h12] at c3;clear k1 hb hsn hv hmm;generalize ((w.alloc (.cells #[.slice none 0 0, .slice none 0 0] 31)).alloc (.map #[] 0)).alloc (.cells #[.pointer (some ⟨h.p,0,none⟩), .map (some (w.heap.size+1)), .slice none 0 0, .slice none 0 0] 69)=w1 at *;go_wp2_with fail;have HI0:=Hz (show iH w (w.heap.size+1+1) h O (w.heap.size+1) w1 (.slice none 0 0) (.slice none 0 0) (λ_=>False) (TS O 0).2 (TS O 0).1 from
  ⟨HVW.o,HK1.o,λ_ h=>(b9 h).elim,λ_ h=>h.elim,Sl.nil _ _ _,λ_ h=>(b9 h).elim,by omega,by omega,HB.o⟩)
 clear HVW HB HSZ HK1 c3 pl;go_loopw [16] (λi wr=>∃ (k:Nat) (rv nv:Value) (F:Nat->Prop),k<=12/\i=.int .i64 k/\iH w (w.heap.size+1+1) h O (w.heap.size+1) wr rv nv F (TS O k).2 (TS O k).1) (λi _=>12-(intOf i).toNat)
 case atStart=>exact ⟨0,_,_,_,Zc _,rfl,HI0.o⟩
 case round=>
  clear HI0;obtain ⟨k,rv,nv,F,hk,rfl,hI⟩:=hrel;have HI:=Hz hI;have hkl:=Cz (O:=O) (k:=k) (by rw [HH.o.ok.h12];exact hk);have HKL:=Hz hkl;by_cases hlt:k<12
  ·have HST:=Hz (Bf (O:=O) (k:=k) (by rw [HH.o.ok.h12];exact hlt));have hm:O.rt.getD k 0 ∈ O.rt:=by rw [Ld,Le (by rw [HH.o.ok.h12];exact hlt)];exact Ze _
   have HLR:=Hz (HH.o.ok.hR _ hm);have HLU:=Hz (Wo.sH hm);have hrd:=(HRR.ab hI.K (λ_ _ h=>h));obtain ⟨_,_,e',hrr,-,-⟩:=hrd.rd;cases e';obtain ⟨gg,go,rfl,ggl,g0⟩:=hrr.int64 k (by rw [HH.o.ok.h12];exact hlt);clear hI hkl hm hrd hrr;generalize O.rt.getD k 0=y at *;go_wp2_with fail;refine (Be 5000 (Zb _) y nv F _ _ HI.o.V HLR.o (λ_=>HLU.o) (Av HH.o.ok k).1 (Av HH.o.ok k).2).mono ?_;rintro e w2 ⟨rfl,ht⟩;obtain ⟨nv2,F2,hI2⟩:=HI.o.told ht;obtain ⟨⟨⟨r1,r2⟩,sr⟩,hr⟩:∃ t,valM O.gr 5000 (dA y) (TS O k).2=t:=⟨_,rfl⟩;rw [hr] at hI2 HST ⊢;dsimp only at hI2 HST ⊢;clear hr ht g0 ggl;go_upto_region 6 with fail
   have hka:=(Kz w2).alloc (.cells #[.int .i64 r1, .int .i64 r2] 77);have hI3:=hI2.same hka;have hvb:ak (w2.alloc (.cells #[.int .i64 r1, .int .i64 r2] 77)) w2.heap.size [.int .i64 r1, .int .i64 r2] 77:=ak.newAt _ rfl rfl;have HI3:=Hz hI3;obtain ⟨lo,lc,rfl,-,-,-⟩:=hI3.L.rd;rw [HKL.o] at HI3;have c2:=hI3.V.hq.cell 2;have cl:=hI3.V.hq.lt;have v0:=hvb.cell 0;have v1:=hvb.cell 1;have vl:=hvb.lt;simp only [Lz,aB] at c2 v0 v1;rw [HKL.o] at c2;have HL3:=Hz (show Sl (w2.alloc (.cells #[.int .i64 r1, .int .i64 r2] 77)) 77 2 (.slice lo k lc) k (aH (TS O k).1) by have:=HI3.o.L;rw [HKL.o] at this;exact this);clear hka hI3 hI2 hvb HI;generalize w2.alloc (.cells #[.int .i64 r1, .int .i64 r2] 77)=wb at *;generalize w2.heap.size=bv at *;refine a6 (ftq [0,1,2,3,4] (.pure 5 (.pure 6 (.run 7 (.run 8 (.swi [12] (ftq [9,10,11] (.run 12 (.swi [] (.fin)))))))))) [8,9,10,11,12] (Fz c2 (Fz v0 (Fa v1))) ?_
   iterate 7 refine Wz ?_
   refine aN rfl rfl (λK hK=>?_);unfold ax;go_simp;have hkb:aa (λ_=>False) wb ((wb.drew).alloc (.cells #[.int .i64 r1, .int .i64 r2] 77)):=(Kz wb).drew.alloc (.cells #[.int .i64 r1, .int .i64 r2] 77);refine hK _ _ (λhg=>?_) ?_
   ·refine ⟨?_,?_,?_⟩
    ·exact (World.cell?_of_block (w:=wb) (a:=⟨w.heap.size+1+1,2,none⟩) (hkb.block _ cl (λh=>h))).trans c2
    ·exact (World.cell?_of_block (w:=wb) (a:=⟨bv,0,none⟩) (hkb.block _ vl (λh=>h))).trans v0
    ·exact (World.cell?_of_block (w:=wb) (a:=⟨bv,1,none⟩) (hkb.block _ vl (λh=>h))).trans v1
   clear hK K;refine aD rfl rfl rfl (λK hK=>?_);refine dN (.tmp 28) (.tmp 30) 28 rfl 77 vi (.agg #[.int .i64 0, .int .i64 0]) 2 16 Tryz.underlying28 Vi.o Vz0.o Vz1.o Vz2.o rfl (by decide) _ k (aH (TS O k).1) rfl (HL3.o.ab hkb (λ_ _ h=>h)) ⟨wb.heap.size,0,none⟩ 1 1 [.int .i64 r1, .int .i64 r2] rfl rfl (bV wb.drew 77 #[.int .i64 r1, .int .i64 r2]) (by intro u hu;simp at hu;rcases hu with rfl | rfl <;> rfl) (by unfold maxLen;omega) (by omega) ?_;intro v3 w3 hs3 hk3 ho3;have HI4:=Hz (HI3.o.app (v:=(r1,r2)) hkb (by rw [HKL.o];exact hs3) hk3 ho3);have hp3:=hk3.au (hkb.au HI3.o.V.hq (λh=>h)) (λhv=>by obtain ⟨_,c',hc⟩:=(HL3.o.ab hkb (λ_ _ h=>h)).own hv;exact (hkb.au HI3.o.V.hq (λh=>h)).ne hc (by decide) rfl);have x0:=hp3.cell 2;have xf:=hp3.free 2;have xl:=hp3.lt;simp only [Lz,aB] at x0;obtain ⟨lo3,lc3,rfl,-,-,-⟩:=hs3.rd;refine hK _ _ ?_;clear hK K hkb hs3 hk3 ho3 hp3 c2 cl v0 v1 vl;refine aC (λ_=>True) trivial ?_
   iterate 3 refine Wz ?_
   refine aD rfl rfl rfl (λK hK=>?_);unfold ax;go_simp;refine hK _ _ ?_;clear hK K;refine aC (λ_=>True) trivial (av ?_);clear x0 xf xl;go_wp2_with fail;go_roundw
   case rel=>exact ⟨k+1,_,nv2,F2,by omega,by go_num,by rw [HST.o];exact HI4.o⟩
   case measure=>simp [intOf];omega
  ·obtain rfl:k=12:=by omega
   obtain ⟨lo,lc,rfl,hrr,-,-⟩:=hI.L.rd;obtain ⟨cs,hns,hnr⟩:=hI.V.hn;obtain ⟨no,nc,rfl,-,-,-⟩:=hns.rd;have c2:=hI.V.hq.cell 2;have c3:=hI.V.hq.cell 3;have cl:=hI.V.hq.lt;have b0:=hI.B.cell 0;have b1:=hI.B.cell 1;have bl:=hI.B.lt;have f0:=hI.B.free 0;have f1:=hI.B.free 1;simp only [Lz,aB] at c2 c3 b0 b1;have HVE:=Hz (show O.view=((TS O 12).1,(TS O 12).2.2) by
    unfold Wo.view gB TS deep
    rw [List.take_of_length_le (by rw [Zp,HH.o.ok.h12];exact Nat.le_refl _)])
   clear hI hrr hns hnr hlt hk hkl;go_wp2_with (refine ct rfl 31 (.tmp 38) rfl (by kernel_rfl) (w.heap.size+1+1) 2 rfl _ _ c2 c3 ?_);have ew:=(HI.o.B.aE 0 (.slice lo (TS O 12).1.length lc)).aE 1 (.slice no (TS O 12).2.2.length nc);have x0:=ew.cell 0;have x1:=ew.cell 1;simp only [Zu,Zv,Lz,aB] at x0 x1;refine bodyPost_ret (v:=.agg #[.slice lo (TS O 12).1.length lc, .slice no (TS O 12).2.2.length nc]) (by simp [results,Tryz.results15,go_sem,x0,x1]) rfl ?_;refine ⟨_,rfl,?_,(HI.o.K.setCell (p:=⟨w.heap.size,0,none⟩) (.inr (Zb _)) _).setCell (p:=⟨w.heap.size,1,none⟩) (.inr (Zb _)) _⟩;rw [HVE.o];have ke:=((aa.refl (·=w.heap.size) wr).setCell (p:=⟨w.heap.size,0,none⟩) (.inl rfl) (.slice lo (TS O 12).1.length lc)).setCell (p:=⟨w.heap.size,1,none⟩) (.inl rfl) (.slice no (TS O 12).2.2.length nc);have nF:∀ j,F j->¬ j=w.heap.size:=λj hj e=>by
    have:=HI.o.o2 j hj;omega
   refine ⟨lo,lc,no,nc,F,rfl,HI.o.L.ab ke (λj hj e=>?_),HI.o.V.hn.ab ke (λj hj _=>nF j hj) (λj hj e=>?_),λj hj=>?_⟩
   ·subst e;obtain ⟨_,c,hc⟩:=HI.o.L.own hj;exact hc.ne HI.o.B (by decide) rfl
   ·subst e;obtain ⟨_,c,hc⟩:=HI.o.V.hn.own hj;exact hc.ne HI.o.B (by decide) rfl
   ·have hks:=ke.size;rcases hj with hj | hj | hj
    ·exact ⟨Nat.le_of_lt (HI.o.o2 j hj),by have:=(HI.o.V.hF j hj).1;omega⟩
    ·exact ⟨(HI.o.o3 j hj).1,by have:=(HI.o.L.own hj).1;omega⟩
    ·exact ⟨HI.o.o1 j hj,by have:=(HI.o.V.hn.own hj).1;omega⟩
end
end
section
open Go.RowKit
theorem Rd.val {w:World} {ao:Option Addr} {l:List Vl} (h:Rd w ao (aH l)) (i:Nat) (hi:i<l.length) :
  ∃ g o,ao=some ⟨g,o,none⟩/\g<w.heap.size/\w.cell? ⟨g,o+i*2,none⟩=some (.int .i64 (l.getD i (0,0)).1)/\w.cell? ⟨g,o+i*2+1,none⟩=some (.int .i64 (l.getD i (0,0)).2):=by
 have hlen:(aH l).length=l.length*2:=cJ l;obtain ⟨g,o,rfl,hg,hc⟩:=h (by intro e;rw [e] at hlen;simp at hlen;omega);have h1:=pZ l i hi;refine ⟨g,o,rfl,hg,?_,?_⟩
 ·rw [hc (i*2) (by rw [hlen];omega)];exact h1.1
 ·rw [Nat.add_assoc,hc (i*2+1) (by rw [hlen];omega)];exact h1.2
theorem oE (a b:Option Addr) (ca cb:Nat) (l:List Vl) (w:World) (h1:Rd w a (aH l)) (h2:Rd w b (aH l)) (hl:l.length<=1000000) :
  Calls Tryz.prog 17 #[.slice a l.length ca, .slice b l.length cb] w λe w'=>e=.returned (.bool true)/\aa (λ_=>False) w w':=by
 have H1:=Hz h1;have H2:=Hz h2;clear h1 h2;go_enter Tryz.func17,Tryz.ntmps17;go_wp2_with fail;go_loopw [5] (λi wr=>∃ k:Nat,k<=l.length/\i=.int .i64 k/\aa (λ_=>False) w wr) (λi _=>l.length-(intOf i).toNat)
 case atStart=>exact ⟨0,Zc _,rfl,aa.refl _ _⟩
 case round=>
  obtain ⟨k,hk,rfl,hkk⟩:=hrel;have HK:=Hz hkk;clear hkk;by_cases hlt:k<l.length
  ·obtain ⟨g,o,rfl,hgl,d0,d1⟩:=(H1.o.ab HK.o (λ_ _ _ h=>h)).val k hlt;obtain ⟨g',o',rfl,hgl',e0,e1⟩:=(H2.o.ab HK.o (λ_ _ _ h=>h)).val k hlt;generalize l.getD k (0,0)=v at *;go_wp2_with fail;refine a6 (ftq [0,1,2,4,5,6] (.pure 3 (.pure 7 (.free 8 (.fin))))) [] (Fz d0 (Fz d1 (Fz e0 (Fa e1)))) ?_
   iterate 9 refine Wz ?_
   refine av ?_;go_wp2_with fail;go_roundw
   case rel=>exact ⟨k+1,by omega,by go_num,HK.o.drew⟩
   case measure=>simp [intOf];omega
  ·obtain rfl:k=l.length:=by omega
   go_wp2_with fail;go_ret;exact ⟨rfl,HK.o⟩
theorem dP.nth {w:World} {nv:Value} {F:Nat->Prop} {l:List Nd} (h:dP w nv F l):∃ no nc,nv=.slice no l.length nc/\∀ i,i<l.length->∃ g o ao cap,no=some ⟨g,o,none⟩/\g<w.heap.size/\w.cell? ⟨g,o+i*2,none⟩=some (.int .i64 (l.getD i (0,[])).1) /\
  w.cell? ⟨g,o+i*2+1,none⟩=some (.slice ao (l.getD i (0,[])).2.length cap)/\Rd w ao (aH (l.getD i (0,[])).2)/\(l.getD i (0,[])).2.length<=maxLen:=by
 obtain ⟨cs,hs,hr⟩:=h;obtain ⟨no,nc,rfl,hrd,-,-⟩:=hs.rd;refine ⟨no,nc,rfl,λi hi=>?_⟩;obtain ⟨r,h1,⟨ao,cap,rfl,h2,-,h3⟩,h4⟩:=hr.cell hi;have hlen:=hr.length;have hne:cs≠[]:=by intro e;subst e;simp at hlen;omega
 obtain ⟨g,o,rfl,hg,hc⟩:=hrd hne;have e:l.getD i (0,[])=l[i]:=by rw [Ld,Le hi];rfl
 rw [e];refine ⟨g,o,ao,cap,rfl,hg,?_,?_,h2,h3⟩
 ·have:=h4 0 (by decide);rw [hc (i*2) (by rw [hlen];omega)];exact this
 ·have:=h4 1 (by decide);rw [Nat.add_assoc,hc (i*2+1) (by rw [hlen];omega)];exact this
def iS (w:World) (v:Value) (V:List Vl × List Nd):Prop:=
 ∃ ro rc nv F,v=.agg #[.slice ro V.1.length rc,nv]/\Rd w ro (aH V.1)/\dP w nv F V.2/\V.1.length<=1000000/\V.2.length<=1000000/\∀ n ∈ V.2,n.2.length<=1000000
theorem jZ.r {w:World} {lo:Nat} {v:Value} {V:List Vl × List Nd} (H:jZ w lo v V) (h1:V.1.length<=1000000) (h2:V.2.length<=1000000) (h3:∀ n ∈ V.2,n.2.length<=1000000):iS w v V:=by
 obtain ⟨ro,rc,no,nc,F,e,a,b,c⟩:=H;obtain ⟨_,_,e',hr,-,-⟩:=a.rd;cases e';exact ⟨ro,rc,_,F,e,hr,b,h1,h2,h3⟩
theorem oF (x y:Value) (V:List Vl × List Nd) (w:World) (h1:iS w x V) (h2:iS w y V) :
  Calls Tryz.prog 11 #[x,y] w λe w'=>e=.returned (.bool true)/\aa (λ_=>False) w w':=by
 obtain ⟨ro,rc,nv,F,rfl,r1,n1,l1,l2,l3⟩:=h1;obtain ⟨so,sc,mv,E,rfl,r2,n2,-,-,-⟩:=h2;obtain ⟨no,nc,rfl,N1⟩:=n1.nth;obtain ⟨mo,mc,rfl,N2⟩:=n2.nth;have R1:=Hz r1;have R2:=Hz r2;have M1:=Hz n1;have M2:=Hz n2;have L3:=Hz l3;clear r1 r2 n1 n2 N1 N2 l3;go_enter Tryz.func11,Tryz.ntmps11;go_wp2_with fail;have hka:=(Kz w).alloc (.cells #[.slice ro V.1.length rc, .slice no V.2.length nc] 31);have hkb:=hka.alloc (.cells #[.slice so V.1.length sc, .slice mo V.2.length mc] 31);obtain ⟨wa,ea⟩:∃ x,x=w.alloc (.cells #[.slice ro V.1.length rc, .slice no V.2.length nc] 31):=⟨_,rfl⟩;have hba:ak wa w.heap.size [.slice ro V.1.length rc, .slice no V.2.length nc] 31:=by rw [ea];exact ak.newAt _ rfl rfl
 have hsz:wa.heap.size=w.heap.size+1:=by rw [ea];simp
 rw [<-ea] at hka hkb ⊢;have ay:=((Kz wa).alloc (.cells #[.slice so V.1.length sc, .slice mo V.2.length mc] 31)).au hba (λh=>h);have bG:ak (wa.alloc (.cells #[.slice so V.1.length sc, .slice mo V.2.length mc] 31)) wa.heap.size [.slice so V.1.length sc, .slice mo V.2.length mc] 31:=ak.newAt _ rfl rfl;rw [hsz] at bG;generalize wa.alloc (.cells #[.slice so V.1.length sc, .slice mo V.2.length mc] 31)=wb at *;obtain ⟨b,hb⟩:∃ b,w.heap.size=b:=⟨_,rfl⟩;rw [hb] at ay bG hsz ⊢;clear hba ea hka hb;refine (oE ro so rc sc V.1 _ (R1.o.ab hkb (λ_ _ _ h=>h)) (R2.o.ab hkb (λ_ _ _ h=>h)) l1).mono ?_;rintro e w1 ⟨rfl,hk1⟩;have HK1:=Hz (hkb.trans hk1);have HB1:=Hz (hk1.au ay (λh=>h));have HB2:=Hz (hk1.au bG (λh=>h));clear hk1 ay bG hkb;have c0:=HB1.o.cell 0;have c1:=HB1.o.cell 1;have cl:=HB1.o.lt;have d0:=HB2.o.cell 0;have d1:=HB2.o.cell 1;have dl:=HB2.o.lt;simp only [Lz,aB] at c0 c1 d0 d1;go_wp2_with fail;clear c0 c1 cl d0 d1 dl;go_loopw [5] (λi wr=>∃ k:Nat,k<=V.2.length/\i=.int .i64 k/\aa (λ_=>False) w wr/\ak wr b [.slice ro V.1.length rc, .slice no V.2.length nc] 31/\ak wr (b+1) [.slice so V.1.length sc, .slice mo V.2.length mc] 31) (λi _=>V.2.length-(intOf i).toNat)
 case atStart=>exact ⟨0,Zc _,rfl,HK1.o,HB1.o,HB2.o⟩
 case round=>
  obtain ⟨k,hk,rfl,hkk,ay,bG⟩:=hrel;have HK:=Hz hkk;have HX1:=Hz ay;have HX2:=Hz bG;clear HK1 HB1 HB2 hkk ay bG;have c1:=HX1.o.cell 1;have cl:=HX1.o.lt;have d1:=HX2.o.cell 1;have dl:=HX2.o.lt;simp only [Lz,aB] at c1 d1;by_cases hlt:k<V.2.length
  ·obtain ⟨no',nc',e',N1⟩:=(M1.o.ab HK.o (λ_ _ _ h=>h) (λ_ _ h=>h)).nth;cases e';obtain ⟨mo',mc',e',N2⟩:=(M2.o.ab HK.o (λ_ _ _ h=>h) (λ_ _ h=>h)).nth;cases e';obtain ⟨g,o,ao,ac,rfl,hgl,x0,x1,rd1,-⟩:=N1 k hlt;obtain ⟨g',o',ao',ac',rfl,hgl',y0,y1,rd2,-⟩:=N2 k hlt;have hnl:(V.2.getD k (0,[])).2.length<=1000000:=by
    rw [Ld,Le hlt];exact L3.o _ (Ze _)
   generalize V.2.getD k (0,[])=nd at *;have RD1:=Hz rd1;have RD2:=Hz rd2;clear N1 N2 rd1 rd2;go_wp2_with fail;refine a6 (ftq [0,2,6,8] (.pure 1 (.free 3 (.free 4 (.pure 5 (.pure 7 (.free 9 (.free 10 (.pure 11 (ftq [12,13,14,16,20,22] (.pure 15 (.free 17 (.free 18 (.pure 19 (.pure 21 (.free 23 (.free 24 (.pure 25 (.run 26 (.swi [] (.free 27 (.free 28 (.fin))))))))))))))))))))))) [26,27,28] (Fz c1 (Fz d1 (Fz x0 (Fz x1 (Fz y0 (Fa y1)))))) ?_
   iterate 26 refine Wz ?_
   refine aD rfl rfl rfl (λK hK=>?_);unfold ax;go_simp;refine (oE ao ao' ac ac' nd.2 _ (RD1.o.ab ((Kz wr).drew) (λ_ _ _ h=>h)) (RD2.o.ab ((Kz wr).drew) (λ_ _ _ h=>h)) hnl).mono ?_;rintro e w2 ⟨rfl,hk2⟩;refine hK _ _ ?_;clear hK K;have HK2:=Hz (HK.o.drew.trans hk2);have HY1:=Hz (hk2.au HX1.o.drew (λh=>h));have HY2:=Hz (hk2.au HX2.o.drew (λh=>h));refine aC (λ_=>True) trivial ?_
   iterate 2 refine Wz ?_
   refine av ?_;go_wp2_with fail;go_roundw
   case rel=>exact ⟨k+1,by omega,by go_num,HK2.o,HY1.o,HY2.o⟩
   case measure=>simp [intOf];omega
  ·obtain rfl:k=V.2.length:=by omega
   go_wp2_with fail;go_ret;exact ⟨rfl,HK.o⟩
end
section
open Go.RowKit
theorem qW {α:Type} {z:α} {l r:List α} (hl:l.length=r.length) (h:∀ j,j<l.length->l.getD j z=r.getD j z):l=r:=by
 apply List.ext_getElem hl;intro i h1 h2;have:=h i h1;rw [Ld,Ld,Le h1,Le h2] at this;exact this
theorem tX (a b:Option Addr) (ca cb:Nat) (l r:List Vl) (w:World) (h1:Rd w a (aH l)) (h2:Rd w b (aH r)) (hl:l.length<=1000000) (hr:r.length<=1000000) :
  Calls Tryz.prog 109 #[.slice a l.length ca, .slice b r.length cb] w λe w'=>e=.returned (.bool (decide (l=r)))/\aa (λ_=>False) w w':=by
 have H1:=Hz h1;have H2:=Hz h2;clear h1 h2;go_enter Tryz.func109,Tryz.ntmps109;by_cases hlen:l.length=r.length
 case neg=>
  have HE:=Hz (show decide (l=r)=false from decide_eq_false (λe=>hlen (by rw [e])));have hb:((l.length:Int) != (r.length:Int))=true:=by simp;omega
  clear hlen;go_wp2_with fail;go_ret;rw [HE.o];exact ⟨rfl,aa.refl _ _⟩
 have HL:=Hz hlen;rw [<-hlen] at hr ⊢;clear hlen;have hb:((l.length:Int) != (l.length:Int))=false:=by simp
 go_wp2_with fail;go_loopw [13] (λi wr=>∃ k:Nat,k<=l.length/\i=.int .i64 k/\aa (λ_=>False) w wr/\∀ j,j<k->l.getD j (0,0)=r.getD j (0,0)) (λi _=>l.length-(intOf i).toNat)
 case atStart=>exact ⟨0,Zc _,rfl,aa.refl _ _,λj hj=>by omega⟩
 case round=>
  obtain ⟨k,hk,rfl,hkk,hq⟩:=hrel;have HK:=Hz hkk;have HQ:=Hz hq;clear hkk hq hb;by_cases hlt:k<l.length
  ·obtain ⟨g,o,rfl,hgl,d0,d1⟩:=(H1.o.ab HK.o (λ_ _ _ h=>h)).val k hlt;obtain ⟨g',o',rfl,hgl',e0,e1⟩:=(H2.o.ab HK.o (λ_ _ _ h=>h)).val k (by rw [<-HL.o];exact hlt);generalize hv:l.getD k (0,0)=v at *;generalize hu:r.getD k (0,0)=u at *;have HV:=Hz hv;have HU:=Hz hu;clear hv hu;obtain ⟨v1,v2⟩:=v;obtain ⟨u1,u2⟩:=u;dsimp only at d0 d1 e0 e1;by_cases h1:v1=u1
   ·subst h1;by_cases h2:v2=u2
    ·subst h2;have HN:=Hz (show ∀ j,j<k+1->l.getD j (0,0)=r.getD j (0,0) from λj hj=>by
      rcases (show j<k\/j=k by omega) with h | rfl
      ·exact HQ.o j h
      ·rw [HV.o,HU.o])
     go_wp2_with fail;refine a6 (ftq [0,1,2,4,5,6] (.pure 3 (.pure 7 (.free 8 (.fin))))) [] (Fz d0 (Fz d1 (Fz e0 (Fa e1)))) ?_
     iterate 9 refine Wz ?_
     refine av ?_;clear d0 d1 e0 e1 hgl hgl';go_wp2_with fail;go_roundw
     case rel=>exact ⟨k+1,by omega,by go_num,HK.o.drew,HN.o⟩
     case measure=>simp [intOf];omega
    ·have HE:=Hz (show decide (l=r)=false from decide_eq_false (λe=>h2 (by have h:=HV.o;rw [e,HU.o] at h;injection h with _ h;exact h.symm)));go_wp2_with fail;refine a6 (ftq [0,1,2,4,5,6] (.pure 3 (.pure 7 (.free 8 (.fin))))) [] (Fz d0 (Fz d1 (Fz e0 (Fa e1)))) ?_
     iterate 9 refine Wz ?_
     refine av ?_;clear d0 d1 e0 e1 hgl hgl';go_wp2_with fail;go_ret;rw [HE.o];exact ⟨rfl,HK.o.drew⟩
   ·have HE:=Hz (show decide (l=r)=false from decide_eq_false (λe=>h1 (by have h:=HV.o;rw [e,HU.o] at h;injection h with h _;exact h.symm)));go_wp2_with fail;refine a6 (ftq [0,1,2,4,5,6] (.pure 3 (.pure 7 (.free 8 (.fin))))) [] (Fz d0 (Fz d1 (Fz e0 (Fa e1)))) ?_
    iterate 9 refine Wz ?_
    refine av ?_;clear d0 d1 e0 e1 hgl hgl';go_wp2_with fail;go_ret;rw [HE.o];exact ⟨rfl,HK.o.drew⟩
  ·obtain rfl:k=l.length:=by omega
   have HE:=Hz (show decide (l=r)=true from decide_eq_true (qW HL.o HQ.o));clear hlt hk;go_wp2_with fail;go_ret;rw [HE.o];exact ⟨rfl,HK.o⟩
theorem zv (x y:Int) (a b:Option Addr) (ca cb:Nat) (l r:List Vl) (w:World) (h1:Rd w a (aH l)) (h2:Rd w b (aH r)) (hl:l.length<=1000000) (hr:r.length<=1000000) :
  Calls Tryz.prog 111 #[.agg #[.int .i64 x, .slice a l.length ca], .agg #[.int .i64 y, .slice b r.length cb]] w λe w'=>e=.returned (.bool (decide (((x,l):Nd)=(y,r))))/\aa (λ_=>False) w w':=by
 have ka:=((Kz w).alloc (.cells #[.int .i64 x, .slice a l.length ca] 60)).alloc (.cells #[.int .i64 y, .slice b r.length cb] 60);have ay:ak ((w.alloc (.cells #[.int .i64 x, .slice a l.length ca] 60)).alloc (.cells #[.int .i64 y, .slice b r.length cb] 60)) w.heap.size [.int .i64 x, .slice a l.length ca] 60:=(ak.newAt _ rfl rfl).alloc _;have bG:ak ((w.alloc (.cells #[.int .i64 x, .slice a l.length ca] 60)).alloc (.cells #[.int .i64 y, .slice b r.length cb] 60)) (w.heap.size+1) [.int .i64 y, .slice b r.length cb] 60:=ak.newAt _ (by simp) rfl;have K1:=Hz ka;have x0:=ay.cell 0;have x1:=ay.cell 1;have xl:=ay.lt;have y0:=bG.cell 0;have y1:=bG.cell 1;have yl:=bG.lt;simp only [Lz,aB] at x0 x1 y0 y1;have HC:=Hz (tX a b ca cb l r _ (h1.ab ka (λ_ _ _ h=>h)) (h2.ab ka (λ_ _ _ h=>h)) hl hr);clear h1 h2 ka ay bG;go_enter Tryz.func111,Tryz.ntmps111;go_upto_region 1 with (fail)
 generalize (w.alloc (.cells #[.int .i64 x, .slice a l.length ca] 60)).alloc (.cells #[.int .i64 y, .slice b r.length cb] 60)=w1 at *;by_cases he:x=y
 ·subst he;have HE:=Hz (show decide (((x,l):Nd)=(x,r))=decide (l=r) by simp);go_wp2_with fail;refine HC.o.mono ?_;rintro e w2 ⟨rfl,hk⟩;have K2:=Hz (K1.o.trans hk);clear hk x0 x1 xl y0 y1 yl;generalize decide (l=r)=q at *;go_wp2_with fail;go_ret;rw [HE.o];exact ⟨rfl,K2.o⟩
 ·have HE:=Hz (show decide (((x,l):Nd)=(y,r))=false from decide_eq_false (λe=>he (by injection e)));have hxy:(x == y)=false:=by simpa using he
  clear he;go_wp2_with fail;go_ret;rw [HE.o];exact ⟨rfl,K1.o⟩
theorem x9 (nv mv:Value) (F E:Nat->Prop) (l r:List Nd) (w:World) (h1:dP w nv F l) (h2:dP w mv E r) (hl:l.length<=1000000) (hr:r.length<=1000000) (hl2:∀ n ∈ l,n.2.length<=1000000) (hr2:∀ n ∈ r,n.2.length<=1000000) :
  Calls Tryz.prog 110 #[nv,mv, .func (.func 111) #[] #[]] w λe w'=>e=.returned (.bool (decide (l=r)))/\aa (λ_=>False) w w':=by
 obtain ⟨no,nc,rfl,N1⟩:=h1.nth;obtain ⟨mo,mc,rfl,N2⟩:=h2.nth;have H1:=Hz h1;have H2:=Hz h2;have HL2:=Hz hl2;have HR2:=Hz hr2;clear h1 h2 N1 N2 hl2 hr2;go_enter Tryz.func110,Tryz.ntmps110;by_cases hlen:l.length=r.length
 case neg=>
  have HE:=Hz (show decide (l=r)=false from decide_eq_false (λe=>hlen (by rw [e])));have hb:((l.length:Int) != (r.length:Int))=true:=by simp;omega
  clear hlen;go_wp2_with fail;go_ret;rw [HE.o];exact ⟨rfl,aa.refl _ _⟩
 have HL:=Hz hlen;rw [<-hlen] at hr ⊢;clear hlen;have hb:((l.length:Int) != (l.length:Int))=false:=by simp
 go_wp2_with fail;go_loopw [17] (λi wr=>∃ k:Nat,k<=l.length/\i=.int .i64 k/\aa (λ_=>False) w wr/\∀ j,j<k->l.getD j (0,[])=r.getD j (0,[])) (λi _=>l.length-(intOf i).toNat)
 case atStart=>exact ⟨0,Zc _,rfl,aa.refl _ _,λj hj=>by omega⟩
 case round=>
  obtain ⟨k,hk,rfl,hkk,hq⟩:=hrel;have HK:=Hz hkk;have HQ:=Hz hq;clear hkk hq hb;by_cases hlt:k<l.length
  ·obtain ⟨no',nc',e',N1⟩:=(H1.o.ab HK.o (λ_ _ _ h=>h) (λ_ _ h=>h)).nth;cases e';obtain ⟨mo',mc',e',N2⟩:=(H2.o.ab HK.o (λ_ _ _ h=>h) (λ_ _ h=>h)).nth;rw [<-HL.o] at e';cases e';obtain ⟨g,o,ao,ac,rfl,hgl,x0,x1,xr,-⟩:=N1 k hlt;obtain ⟨g',o',bo,bc,rfl,hgl',y0,y1,yr,-⟩:=N2 k (by rw [<-HL.o];exact hlt);have hx2:(l.getD k (0,[])).2.length<=1000000:=HL2.o _ (by rw [Ld,Le hlt];exact Ze _);have hy2:(r.getD k (0,[])).2.length<=1000000:=HR2.o _ (by rw [Ld,Le (by rw [<-HL.o];exact hlt)];exact Ze _);clear N1 N2;generalize hv:l.getD k (0,[])=v at *;generalize hu:r.getD k (0,[])=u at *;have HV:=Hz hv;have HU:=Hz hu;clear hv hu;obtain ⟨vk,vf⟩:=v;obtain ⟨uk,uf⟩:=u;dsimp only at x0 x1 y0 y1 xr yr hx2 hy2;have XR:=Hz xr;have YR:=Hz yr;have X2:=Hz hx2;have Y2:=Hz hy2;clear xr yr hx2 hy2;go_upto_region 7 with (fail)
   have ka:=((Kz wr).alloc (.cells #[.int .i64 vk, .slice ao vf.length ac] 60)).alloc (.cells #[.int .i64 uk, .slice bo uf.length bc] 60);have ay:ak ((wr.alloc (.cells #[.int .i64 vk, .slice ao vf.length ac] 60)).alloc (.cells #[.int .i64 uk, .slice bo uf.length bc] 60)) wr.heap.size [.int .i64 vk, .slice ao vf.length ac] 60:=(ak.newAt _ rfl rfl).alloc _;have bG:ak ((wr.alloc (.cells #[.int .i64 vk, .slice ao vf.length ac] 60)).alloc (.cells #[.int .i64 uk, .slice bo uf.length bc] 60)) (wr.heap.size+1) [.int .i64 uk, .slice bo uf.length bc] 60:=ak.newAt _ (by simp) rfl;have KA:=Hz (HK.o.trans ka);have HC:=Hz (zv vk uk ao bo ac bc vf uf _ (XR.o.ab ka (λ_ _ _ h=>h)) (YR.o.ab ka (λ_ _ _ h=>h)) X2.o Y2.o);clear x0 x1 y0 y1 hgl hgl';have x0:=ay.cell 0;have x1:=ay.cell 1;have xl:=ay.lt;have y0:=bG.cell 0;have y1:=bG.cell 1;have yl:=bG.lt;simp only [Lz,aB] at x0 x1 y0 y1;clear ka ay bG HK;generalize (wr.alloc (.cells #[.int .i64 vk, .slice ao vf.length ac] 60)).alloc (.cells #[.int .i64 uk, .slice bo uf.length bc] 60)=w1 at *;go_wp2_with fail;refine HC.o.mono ?_;rintro e w2 ⟨rfl,hk2⟩;have K2:=Hz (KA.o.trans hk2);clear hk2 x0 x1 xl y0 y1 yl HC KA;by_cases he:((vk,vf):Nd)=(uk,uf)
   ·have hd:=decide_eq_true he;rw [hd];have HN:=Hz (show ∀ j,j<k+1->l.getD j (0,[])=r.getD j (0,[]) from λj hj=>by
     rcases (show j<k\/j=k by omega) with h | rfl
     ·exact HQ.o j h
     ·rw [HV.o,HU.o,he])
    clear hd he;go_wp2_with fail;go_roundw
    case rel=>exact ⟨k+1,by omega,by go_num,K2.o,HN.o⟩
    case measure=>simp [intOf];omega
   ·have hd:=decide_eq_false he;rw [hd];have HE:=Hz (show decide (l=r)=false from decide_eq_false (λe=>he (by rw [<-HV.o,<-HU.o,e])));clear hd he;go_wp2_with fail;go_ret;rw [HE.o];exact ⟨rfl,K2.o⟩
  ·obtain rfl:k=l.length:=by omega
   have HE:=Hz (show decide (l=r)=true from decide_eq_true (qW HL.o HQ.o));clear hlt hk;go_wp2_with fail;go_ret;rw [HE.o];exact ⟨rfl,HK.o⟩
theorem Bg (x y:Value) (V U:List Vl × List Nd) (w:World) (h1:iS w x V) (h2:iS w y U) :
  Calls Tryz.prog 47 #[x,y] w λe w'=>e=.returned (.bool (decide (V=U)))/\aa (λ_=>False) w w':=by
 obtain ⟨ro,rc,nv,F,rfl,r1,n1,l1,l2,l3⟩:=h1;obtain ⟨so,sc,mv,E,rfl,r2,n2,m1,m2,m3⟩:=h2;have ka:=((Kz w).alloc (.cells #[.slice ro V.1.length rc,nv] 31)).alloc (.cells #[.slice so U.1.length sc,mv] 31);have ay:ak ((w.alloc (.cells #[.slice ro V.1.length rc,nv] 31)).alloc (.cells #[.slice so U.1.length sc,mv] 31)) w.heap.size [.slice ro V.1.length rc,nv] 31:=(ak.newAt _ rfl rfl).alloc _;have bG:ak ((w.alloc (.cells #[.slice ro V.1.length rc,nv] 31)).alloc (.cells #[.slice so U.1.length sc,mv] 31)) (w.heap.size+1) [.slice so U.1.length sc,mv] 31:=ak.newAt _ (by simp) rfl;have K1:=Hz ka;have B1:=Hz ay;have B2:=Hz bG;have HC:=Hz (tX ro so rc sc V.1 U.1 _ (r1.ab ka (λ_ _ _ h=>h)) (r2.ab ka (λ_ _ _ h=>h)) l1 m1);have HN:=Hz (λw' (k:aa (λ_=>False) w w')=>x9 nv mv F E V.2 U.2 w' (n1.ab k (λ_ _ _ h=>h) (λ_ _ h=>h)) (n2.ab k (λ_ _ _ h=>h) (λ_ _ h=>h)) l2 m2 l3 m3);obtain ⟨no,nc,rfl,-⟩:=n1.nth;obtain ⟨mo,mc,rfl,-⟩:=n2.nth;clear r1 r2 n1 n2 ka ay bG l3 m3;have x0:=B1.o.cell 0;have xl:=B1.o.lt;have y0:=B2.o.cell 0;have yl:=B2.o.lt;simp only [Lz,aB] at x0 y0;go_enter Tryz.func47,Tryz.ntmps47;go_upto_region 1 with (fail)
 generalize (w.alloc (.cells #[.slice ro V.1.length rc, .slice no V.2.length nc] 31)).alloc (.cells #[.slice so U.1.length sc, .slice mo U.2.length mc] 31)=w1 at *;generalize w.heap.size=xb at *;go_wp2_with fail;refine HC.o.mono ?_;rintro e w2 ⟨rfl,hk⟩;have K2:=Hz (K1.o.trans hk);have x1:=(hk.au B1.o (λh=>h)).cell 1;have xl:=(hk.au B1.o (λh=>h)).lt;have y1:=(hk.au B2.o (λh=>h)).cell 1;have yl:=(hk.au B2.o (λh=>h)).lt;simp only [Lz,aB] at x1 y1;clear hk x0 y0 K1 B1 B2 HC;by_cases he:V.1=U.1
 ·have hd:=decide_eq_true he;rw [hd];have HE:=Hz (show decide (V=U)=decide (V.2=U.2) by
   by_cases h:V.2=U.2
   ·rw [decide_eq_true h,decide_eq_true (Prod.ext he h)]
   ·rw [decide_eq_false h,decide_eq_false (λe=>h (by rw [e]))])
  have HC:=Hz (HN.o _ K2.o);clear hd he HN;go_wp2_with fail;refine HC.o.mono ?_;rintro e w3 ⟨rfl,hk⟩;have K3:=Hz (K2.o.trans hk);clear hk x1 y1 HC;generalize decide (V.2=U.2)=q at *;go_wp2_with fail;go_ret;rw [HE.o];exact ⟨rfl,K3.o⟩
 ·have hd:=decide_eq_false he;rw [hd];have HE:=Hz (show decide (V=U)=false from decide_eq_false (λe=>he (by rw [e])));clear hd he HN;go_wp2_with fail;go_ret;rw [HE.o];exact ⟨rfl,K2.o⟩
end
section
open Go.RowKit
def overL (p:Nat->Bool) (u:Nat->Value):Nat->List Value->List Value
 | _,[]=>[]
 | i,v :: l=>(bif p i then u i else v) :: overL p u (i+1) l
def fI (a:Act) (p:Nat->Bool) (u:Nat->Value):Act:={ a with tmps:=(overL p u 0 a.tmps.toList).toArray }
def slotsOf (a:Act) (i:Nat):Value:=a.tmps.toList.getD i undef
def tC (a:Act) (p:Nat->Bool) (R:(Nat->Value)->World->Prop) (a':Act) (w':World):Prop:=a'=fI a p (slotsOf a')/\R (slotsOf a') w'
def DJ (a:Act) (p:Nat->Bool) (R:(Nat->Value)->World->Prop) (mu:(Nat->Value)->World->Nat) (n:Nat) (a':Act) (w':World):Prop:=tC a p R a' w'/\mu (slotsOf a') w' < n
variable {P:Program} {a:Act} {w:World} {c:Code} {Q:Exit->Act->World->Prop}
theorem qX (p:Nat->Bool) (u:Nat->Value):∀ (l:List Value) (i:Nat),(∀ j,j<l.length->u (i+j)=l.getD j undef)->overL p u i l=l
 | [],i,_=>rfl
 | v :: l,i,h=>by
  have h0:=h 0 (by simp);simp only [Nat.add_zero,List.getD_cons_zero] at h0;have ih:=qX p u l (i+1) (λj hj=>by
   have:=h (j+1) (by simp;omega);rw [show i+(j+1)=i+1+j by omega,List.getD_cons_succ] at this
   exact this)
  simp only [overL,ih,h0];cases p i <;> rfl
theorem xd (a:Act) (p:Nat->Bool):a=fI a p (slotsOf a):=by
 cases a with
 | mk t d=>
  unfold fI slotsOf;dsimp only;rw [qX p _ t.toList 0 (λj hj=>by rw [Nat.zero_add])]
theorem lG (p:Nat->Bool) (R:(Nat->Value)->World->Prop) (mu:(Nat->Value)->World->Nat) (h0:R (slotsOf a) w)
  (round:∀ (u:Nat->Value) (w':World),R (slotsOf (fI a p u)) w'->∀ K:Act->World->Prop,(∀ a'' w'',DJ a p R mu (mu (slotsOf (fI a p u)) w') a'' w''->K a'' w'')->c.wp P (Exit.then K Q) (fI a p u) w') :
  (Code.loop c).wp P Q a w:=by
 refine wp_loop (tC a p R) (λa' w'=>mu (slotsOf a') w') ⟨xd a p,h0⟩ ?_;rintro a' w' ⟨e,hR⟩;obtain ⟨u,hu⟩:∃ u,u=slotsOf a':=⟨_,rfl⟩;rw [<-hu] at e;subst e;exact round u w' hR _ (λa'' w'' h=>h)
theorem gT {K:Act->World->Prop} (p:Nat->Bool) (R:(Nat->Value)->World->Prop)
  (first:∀ K':Act->World->Prop,(∀ a'' w'',tC a p R a'' w''->K' a'' w'')->c.wp P (Exit.then K' Q) a w)
  (rest:∀ (u:Nat->Value) (w':World),R (slotsOf (fI a p u)) w'->K (fI a p u) w'):c.wp P (Exit.then K Q) a w:=by
 refine wp_mono (first (tC a p R) (λ_ _ h=>h)) ?_;intro e a' w' hq;cases e with
 | normal=>
  obtain ⟨e,hR⟩:=hq;obtain ⟨u,hu⟩:∃ u,u=slotsOf a':=⟨_,rfl⟩;rw [<-hu] at e;subst e;exact rest u w' hR
 | exit id=>exact hq
 | goto l=>exact hq
 | ret=>exact hq
 | panic ch=>exact hq
 | outgrown=>exact hq
end
section
variable {τ:Type}
def wakeM (alive:τ->Int->Bool) (ab:τ->Int->τ × Int):τ->List (Int × Int)->τ × List (Int × Int) × Bool
 | t,[]=>(t,[],false)
 | t,e :: l=>
  if alive t e.1 && !alive t e.2 then
   let r:=wakeM alive ab (ab t e.2).1 l
   (r.1,(e.1,(ab t e.2).2) :: r.2.1,true)
  else
   let r:=wakeM alive ab t l
   (r.1,e :: r.2.1,r.2.2)
abbrev It:=(Int × Int) × Bool × Bool
def scanM (alive:τ->Int->Bool) (ab:τ->List (Int × Int)->Int->τ × List (Int × Int) × Int):τ->List (Int × Int)->List It->τ × List (Int × Int) × List It × Bool
 | t,q,[]=>(t,q,[],false)
 | t,q,i :: l=>
  if (i.2.1 && !i.2.2) && alive t i.1.1 then
   let r:=scanM alive ab (ab t q i.1.2).1 ((ab t q i.1.2).2.1 ++ [(i.1.1,(ab t q i.1.2).2.2)]) l
   (r.1,r.2.1,(i.1,i.2.1,true) :: r.2.2.1,true)
  else
   let r:=scanM alive ab t q l
   (r.1,r.2.1,i :: r.2.2.1,r.2.2.2)
def roundsM (alive:τ->Int->Bool) (ab:τ->List (Int × Int)->Int->τ × List (Int × Int) × Int):Nat->τ->List (Int × Int)->List It->τ × List (Int × Int) × List It
 | 0,t,q,l=>(t,q,l)
 | n+1,t,q,l=>
  let r:=scanM alive ab t q l
  if r.2.2.2 then roundsM alive ab n r.1 r.2.1 r.2.2.1 else (r.1,r.2.1,r.2.2.1)
def cN (l:List It):Nat:=(l.filter λi=>!i.2.2).length
theorem iW (i:It) (l:List It):cN (i :: l)=(if i.2.2 then 0 else 1)+cN l:=by
 unfold cN;cases h:i.2.2 <;> simp [List.filter_cons,h];omega
theorem wi (a b:List It):cN (a ++ b)=cN a+cN b:=by unfold cN;simp
theorem jj (alive:τ->Int->Bool) (ab):∀ (l:List It) (t:τ) (q:List (Int × Int)),(scanM alive ab t q l).2.2.1.map (λi=>(i.1,i.2.1))=l.map (λi=>(i.1,i.2.1))
 | [],_,_=>rfl
 | i :: l,t,q=>by
  simp only [scanM];split
  ·simp only [Zs];rw [jj alive ab l]
  ·simp only [Zs];rw [jj alive ab l]
theorem nh (alive:τ->Int->Bool) (ab):∀ (l:List It) (t:τ) (q:List (Int × Int)),cN (scanM alive ab t q l).2.2.1<=cN l/\((scanM alive ab t q l).2.2.2=true->cN (scanM alive ab t q l).2.2.1<cN l)
 | [],_,_=>by simp [scanM]
 | i :: l,t,q=>by
  simp only [scanM];split
  ·rename_i h;have ih:=nh alive ab l (ab t q i.1.2).1 ((ab t q i.1.2).2.1 ++ [(i.1.1,(ab t q i.1.2).2.2)]);simp only [Zr,Bool.not_eq_true'] at h;simp only [iW,h.1.2];simp;omega
  ·have ih:=nh alive ab l t q;simp only [iW];refine ⟨by omega,λh=>?_⟩;have:=ih.2 h;omega
def bq (alive:τ->Int->Bool) (now:τ->Int->Int) (t:τ) (l:List It):List (Int × Int):=(l.filter λi=>!i.2.1 && alive t i.1.1).map λi=>(now t i.1.1,now t i.1.2)
def bt (alive:τ->Int->Bool) (now:τ->Int->Int) (t:τ) (l:List (Int × Int)):List (Int × Int):=(l.filter λe=>alive t e.1).map λe=>(now t e.1,now t e.2)
def c6 (alive:τ->Int->Bool) (t:τ) (ai:List (Int × Int)):List It:=ai.map λe=>(e,!alive t e.2,false)
def dw (alive:τ->Int->Bool) (ab:τ->List (Int × Int)->Int->τ × List (Int × Int) × Int) (t:τ) (ai wait:List (Int × Int)):τ × List (Int × Int) × List It:=
 roundsM alive ab (ai.length+1) t wait (c6 alive t ai)
end
section
def iT (G:Gr) (wait:List (Int × Int)) (S:Int->Prop) (i j:Int):Prop:=
 (((G i).1=1\/(G i).1=2)/\((3,j):Vl) ∈ (G i).2) \/
 ((G i).1=3/\(G i).2[1]? = some (3,j)) \/
 ((G i).1=4/\(G i).2[1]? = some (3,j)/\∀ v,(G i).2[0]? = some v->v.1=3->S v.2) \/
 ((G i).1=5/\(i,j) ∈ wait)
def cv (G:Gr) (wait:List (Int × Int)) (S:Int->Prop):Prop:=∀ i j,S i->iT G wait S i j->S j
def cO (G:Gr) (wait:List (Int × Int)) (X:Int->Prop) (i:Int):Prop:=∀ S:Int->Prop,(∀ j,X j->S j)->cv G wait S->S i
section
variable {G:Gr} {wait wait':List (Int × Int)} {S S' X Y:Int->Prop} {i j:Int}
theorem iT.mono (h:∀ k,S k->S' k) (hw:∀ e ∈ wait,e ∈ wait') (hl:iT G wait S i j):iT G wait' S' i j:=by
 rcases hl with h1 | h1 | ⟨h1,h2,h3⟩ | ⟨h1,h2⟩
 ·exact .inl h1
 ·exact .inr (.inl h1)
 ·exact .inr (.inr (.inl ⟨h1,h2,λv hv h3'=>h _ (h3 v hv h3')⟩))
 ·exact .inr (.inr (.inr ⟨h1,hw _ h2⟩))
theorem cO.base (h:X i):cO G wait X i:=λ_ hX _=>hX i h
theorem cO.least (h:cO G wait X i) (hX:∀ k,X k->S k) (hS:cv G wait S):S i:=h S hX hS
theorem cO.closed (G:Gr) (wait:List (Int × Int)) (X:Int->Prop):cv G wait (cO G wait X):=λi j hi hl S hX hS=>
 hS i j (hi S hX hS) (hl.mono (λk hk=>hk S hX hS) (λ_ h=>h))
end
def aw (l:List Bool) (i:Int):Bool:=decide (0<=i) && l.getD i.toNat false
theorem dQ (l:List Bool) (i:Nat):aw l i=l.getD i false:=by simp [aw]
theorem mG {l:List Bool} {i:Int} (h:aw l i=true):0<=i/\i<l.length:=by
 unfold aw at h;simp only [Zr,decide_eq_true_eq] at h;refine ⟨h.1,?_⟩;by_cases hl:i.toNat<l.length
 ·omega
 ·have h2:=h.2;rw [Ld,List.getElem?_eq_none (by omega)] at h2;cases h2
open Classical in
noncomputable def qg (G:Gr) (wait:List (Int × Int)) (is:List Bool):List Bool:=
 (List.range is.length).map λi=>decide (cO G wait (λk=>aw is k=true) (i:Nat))
theorem fp (G:Gr) (wait:List (Int × Int)) (is:List Bool):(qg G wait is).length=is.length:=by simp [qg]
open Classical in
theorem da {G:Gr} {wait:List (Int × Int)} {is:List Bool} {i:Int}:aw (qg G wait is) i=true↔0<=i/\i<is.length/\cO G wait (λk=>aw is k=true) i:=by
 constructor
 ·intro h;have:=mG h;rw [fp] at this;refine ⟨this.1,this.2,?_⟩;unfold aw qg at h;simp only [Zr,Ld,Zw] at h;rw [List.getElem?_range (by omega)] at h;have h2:=h.2;simp only [Option.map_some,Option.getD_some,decide_eq_true_eq] at h2;rwa [show ((i.toNat:Nat):Int)=i by omega] at h2
 ·rintro ⟨h0,h1,h2⟩;unfold aw qg;simp only [Zr,Ld,Zw];rw [List.getElem?_range (by omega)];refine ⟨by simpa using h0,?_⟩;simp only [Option.map_some,Option.getD_some,decide_eq_true_eq];rwa [show ((i.toNat:Nat):Int)=i by omega]
theorem wj {a b:List Bool} (hl:a.length=b.length) (h:∀ i:Int,0<=i->i<a.length->(aw a i=true↔aw b i=true)):a=b:=by
 apply List.ext_getElem hl;intro k h1 h2;have:=h k (by omega) (by omega);simp only [dQ,Ld,Le h1,Le h2,Option.getD_some] at this;rw [Bool.eq_iff_iff];exact this
theorem Bh {G:Gr} {wait:List (Int × Int)} {is out:List Bool} (hl:out.length=is.length) (h1:∀ i,aw is i=true->aw out i=true) (h2:∀ i,aw out i=true->cO G wait (λk=>aw is k=true) i)
  (h3:cv G wait λk=>aw out k=true):out=qg G wait is:=by
 refine wj (by rw [fp,hl]) λi h0 hlt=>?_;rw [da];exact ⟨λh=>⟨h0,by omega,h2 i h⟩,λh=>h.2.2.least h1 h3⟩
theorem gU {is:List Bool} {x i:Int} (h0:0<=x) (h1:x<is.length):aw (is.set x.toNat true) i=true↔i=x\/aw is i=true:=by
 unfold aw;simp only [Zr,decide_eq_true_eq,Ld,List.getElem?_set];by_cases e:x.toNat=i.toNat
 ·rw [if_pos e,if_pos (by omega)];simp only [Option.getD_some,and_true];constructor
  ·intro h;left;omega
  ·rintro (rfl | ⟨h,_⟩)
   ·exact h0
   ·exact h
 ·rw [if_neg e];constructor
  ·intro h;exact .inr h
  ·rintro (rfl | h)
   ·exact absurd rfl e
   ·exact h
structure Th where
 k:Int
 fs:List Vl
 aK:Bool
 dead:Bool
structure Wd where
 T:List Th
 roots:List Vl
 ai:List (Int × Int)
 wait:List (Int × Int)
 most:Int
 grow:Int
def Wd.new (n o:Int):Wd:=⟨[],List.replicate 12 (0,0),[],[],n,o⟩
def Th.none:Th:=⟨0,[],false,true⟩
def Wd.th (W:Wd) (i:Int):Th:=W.T.getD i.toNat Th.none
def Wd.rt (W:Wd) (k:Int):Vl:=W.roots.getD k.toNat (0,0)
def Th.words (t:Th):Int:=1+t.fs.length
def Wd.nd (W:Wd):Gr:=λi=>((W.th i).k,(W.th i).fs)
def dY (wait:List (Int × Int)) (g:Int):List Int:=(wait.filter λe=>e.1 == g).map (·.2)
def Wd.gr (W:Wd):Gr:=λi=>((W.th i).k,(W.th i).fs ++ if (W.th i).k=5 then (dY W.wait i).map λx=>((3,x):Vl) else [])
def Wd.view (W:Wd):List Vl × List Nd:=gB W.gr W.roots
def eu (l:List Th) (p:Th->Bool):Int:=(l.map λt=>if p t then t.words else 0).sum
def Wd.aA (W:Wd):Int:=eu W.T λt=>!t.dead && !t.aK
def Wd.cD (W:Wd):Int:=eu W.T λt=>!t.dead && t.aK
def Wd.first (W:Wd) (major:Bool):List Bool:=
 (List.range W.T.length).map λ(i:Nat)=>((W.th (i:Int)).aK && !(W.th (i:Int)).dead && !major) || W.roots.any λv=>v.1 == 3 && v.2 == (i:Int)
noncomputable def Wd.cY (W:Wd) (wait:List (Int × Int)) (is:List Bool):List Bool:=qg W.nd wait is
noncomputable def Wd.cq (W:Wd) (is:List Bool) (q:List (Int × Int)) (x:Int):List Bool × List (Int × Int) × Int:=(W.cY q (is.set x.toNat true),q,x)
def iX (is:List Bool) (x:Int):Int:=x
noncomputable def Wd.pass (W:Wd) (major:Bool):List Bool × List (Int × Int) × List It:=dw aw W.cq (W.cY W.wait (W.first major)) W.ai W.wait
def bY (is:List Bool) (v:Vl):Bool:=v.1 != 3 || aw is v.2
def dB (is:List Bool) (i:Nat) (t:Th):Th:=
 if is.getD i false then
  ⟨t.k,if t.k=4/\bY is (t.fs.getD 0 (0,0))=false then [(2,0),(2,0)]
   else if t.k=3/\bY is (t.fs.getD 0 (0,0))=false then [(2,0),t.fs.getD 1 (0,0)] else t.fs,true,t.dead⟩
 else ⟨t.k,[],t.aK,true⟩
def kQ (is:List Bool) (l:List Th):List Th:=l.mapIdx λi t=>dB is i t
def e9 (is:List Bool) (l:List Th):Int:=(l.mapIdx λi t=>if is.getD i false then t.words else 0).sum
noncomputable def Wd.after (W:Wd) (major:Bool):Wd:=
 { W with T:=kQ (W.pass major).1 W.T,ai:=bq aw iX (W.pass major).1 (W.pass major).2.2,wait:=bt aw iX (W.pass major).1 (W.pass major).2.1 }
noncomputable def Wd.cut (W:Wd) (major:Bool):Int × Wd:=
 if major=false/\W.aA > W.grow-W.cD then (3,W)
 else if e9 (W.pass major).1 W.T > W.grow then (3,W)
 else (0,W.after major)
structure St where
 k:Int
 r:Int
 a:Int
 b:Int
 i:Int
 n:Int
def aP (k:Int):Int:=
 if k=1\/k=2\/k=8 then 1 else if k=3\/k=5\/k=10\/k=11\/k=13 then 3 else if k=4\/k=6\/k=7\/k=14 then 7 else if k=9\/k=12 then 6 else if k=15\/k=16 then 0 else -1
def bO (k:Int):Bool:=decide (0<=k) && decide (k<12)
def bu (x:St):Int:=
 if aP x.k=-1 then 2
 else if (aP x.k%2=1/\bO x.r=false)\/(aP x.k/2%2=1/\bO x.a=false)\/(aP x.k/4%2=1/\bO x.b=false) then 1
 else if x.k=1/\¬ (-cG<=x.n/\x.n<cG) then 1
 else if x.k=5/\¬ (0<=x.n/\x.n<=12) then 1
 else 0
def Wd.bF (W:Wd) (r:Int) (v:Vl):Wd:={ W with roots:=W.roots.set r.toNat v }
def Wd.put (W:Wd) (r k:Int) (from_:List Vl):Wd:={ W with T:=W.T ++ [⟨k,from_,false,false⟩],roots:=W.roots.set r.toNat (ij W.T.length) }
noncomputable def Wd.room (W:Wd) (n:Int):Int × Wd:=if n > W.most-W.aA then W.cut (decide (W.aA > W.grow-W.cD)) else (0,W)
noncomputable def Wd.bz (W:Wd) (r k:Int) (from_:List Int):Int × Wd:=
 if (W.room (1+from_.length)).1=0 then (0,(W.room (1+from_.length)).2.put r k (from_.map (W.room (1+from_.length)).2.rt)) else ((W.room (1+from_.length)).1,W)
def Wd.ah (W:Wd) (k:Int):Int:=if (W.rt k).1=3 then (W.rt k).2 else -1
def Wd.guard (W:Wd) (k:Int):Int:=if W.ah k<0\/(W.th (W.ah k)).k≠5 then -1 else W.ah k
def Wd.cK (W:Wd) (i:Int) (fs:List Vl):Wd:={ W with T:=W.T.set i.toNat { W.th i with fs:=fs } }
def popW (wait:List (Int × Int)) (g:Int):Option (Int × List (Int × Int)):=
 match wait with
 | []=>none
 | e :: l=>if e.1=g then some (e.2,l) else (popW l g).map λr=>(r.1,e :: r.2)
def Wd.eZ (W:Wd) (x:St):Int × Wd:=
 if W.ah x.a<0\/W.guard x.b<0 then (2,W)
 else if 24<=W.ai.length+W.wait.length then (3,W)
 else (0, { W with ai:=W.ai ++ [(W.guard x.b,W.ah x.a)] })
def Wd.pop (W:Wd) (x:St):Int × Wd:=
 if W.guard x.a<0 then (2,W)
 else match popW W.wait (W.guard x.a) with
  | none=>(4,W)
  | some r=>(0, { W with wait:=r.2,roots:=W.roots.set x.r.toNat (3,r.1) })
def Wd.bP (W:Wd) (x:St):Int:=
 if W.ah x.a<0\/(W.th (W.ah x.a)).k=5 then 2 else if x.i<0\/((W.th (W.ah x.a)).fs.length:Int)<=x.i then 1 else 0
def Wd.get (W:Wd) (x:St):Int × Wd:=if W.bP x=0 then (0,W.bF x.r ((W.th (W.ah x.a)).fs.getD x.i.toNat (0,0))) else (W.bP x,W)
def Wd.set (W:Wd) (x:St):Int × Wd:=if W.bP x=0 then (0,W.cK (W.ah x.a) ((W.th (W.ah x.a)).fs.set x.i.toNat (W.rt x.b))) else (W.bP x,W)
def Wd.len (W:Wd) (x:St):Int × Wd:=if W.ah x.a<0\/(W.th (W.ah x.a)).k=5 then (2,W) else (0,W.bF x.r (1,(W.th (W.ah x.a)).fs.length))
def Wd.same (W:Wd) (x:St):Int × Wd:=(0,W.bF x.r (1,if W.rt x.a=W.rt x.b then 1 else 0))
noncomputable def Wd.step (W:Wd) (x:St):Int × Wd:=
 if x.k=1 then (0,W.bF x.r (1,x.n))
 else if x.k=2 then (0,W.bF x.r (0,0))
 else if x.k=3 then (0,W.bF x.r (W.rt x.a))
 else if x.k=4 then W.bz x.r 1 [x.a,x.b]
 else if x.k=5 then W.bz x.r 2 (List.replicate x.n.toNat x.a)
 else if x.k=6 then W.bz x.r 3 [x.a,x.b]
 else if x.k=7 then W.bz x.r 4 [x.a,x.b]
 else if x.k=8 then W.bz x.r 5 []
 else if x.k=9 then W.eZ x
 else if x.k=10 then W.pop x
 else if x.k=11 then W.get x
 else if x.k=12 then W.set x
 else if x.k=13 then W.len x
 else if x.k=14 then W.same x
 else if x.k=15 then W.cut false
 else W.cut true
noncomputable def Wd.do (W:Wd) (x:St):Int × Wd:=if bu x=0 then W.step x else (bu x,W)
end
section
def Wd.live (W:Wd) (i:Int):Prop:=0<=i/\i<W.T.length/\(W.th i).dead=false
def Wd.cI (W:Wd) (v:Vl):Prop:=(v.1=0/\v.2=0)\/(v.1=1/\-cG<=v.2/\v.2<cG)\/(v.1=2/\v.2=0)\/(v.1=3/\W.live v.2)
def Wd.dL (W:Wd) (e:Int × Int):Prop:=W.live e.1/\(W.th e.1).k=5/\W.live e.2
structure Wd.ok (W:Wd):Prop where
 hr:W.roots.length=12
 rv:∀ v ∈ W.roots,W.cI v
 tk:∀ i,W.live i->bj (W.th i).k (W.th i).fs.length=true
 tv:∀ i,W.live i->∀ v ∈ (W.th i).fs,W.cI v
 gv:∀ e ∈ W.ai,W.dL e
 wv:∀ e ∈ W.wait,W.dL e
 hq:W.ai.length+W.wait.length<=24
 m1:16<=W.most
 m2:W.most<=256
 g1:0<=W.grow
 g2:W.grow<=1024
 uy:W.aA<=W.most
 uo:W.cD<=W.grow
theorem Wd.rY {W:Wd} {i:Int} (h:W.live i):∃ (h':i.toNat<W.T.length),W.th i=W.T[i.toNat]:=by
 have h1:=h.1;have h2:=h.2.1;have h':i.toNat<W.T.length:=by omega
 exact ⟨h',by unfold Wd.th;rw [Ld,Le h'];rfl⟩
theorem Wd.aY {W:Wd} {v:Vl} (h:W.cI v) (h3:v.1=3):W.live v.2:=by
 rcases h with h | h | h | h
 ·have:=h.1;omega
 ·have:=h.1;omega
 ·have:=h.1;omega
 ·exact h.2
theorem Wd.tY {W W':Wd} (h:∀ i,W.live i->W'.live i) {v:Vl} (hv:W.cI v):W'.cI v:=by
 rcases hv with h1 | h1 | h1 | h1
 ·exact .inl h1
 ·exact .inr (.inl h1)
 ·exact .inr (.inr (.inl h1))
 ·exact .inr (.inr (.inr ⟨h1.1,h _ h1.2⟩))
theorem iM (l:List Th) (p:Th->Bool):0<=eu l p:=by
 unfold eu
 induction l with
 | nil=>simp
 | cons t l ih=>
  simp only [Zs,List.sum_cons];have:0<=(if p t then t.words else 0):=by split <;> simp [Th.words];omega
  omega
theorem tZ (a b:List Th) (p:Th->Bool):eu (a ++ b) p=eu a p+eu b p:=by simp [eu]
theorem ua (l:List Th) (p:Th->Bool) (i:Nat) (t:Th) (h:i<l.length) (hp:p t=p l[i]) (hw:t.words=l[i].words):eu (l.set i t) p=eu l p:=by
 unfold eu;have:(l.set i t).map (λt=>if p t then t.words else 0)=l.map (λt=>if p t then t.words else 0):=by
  apply List.ext_getElem (by simp);intro j h1 h2;simp only [List.getElem_map,List.getElem_set];split
  ·rename_i e;subst e;rw [hp,hw]
  ·rfl
 rw [this]
theorem Wd.g8 {W:Wd} (h:W.ok) (k:Int):W.cI (W.rt k):=by
 unfold Wd.rt;rw [Ld];cases hx:W.roots[k.toNat]? with
 | none=>exact .inl ⟨rfl,rfl⟩
 | some v=>exact h.rv _ (Zh hx)
theorem Wd.ok.bF {W:Wd} (h:W.ok) {v:Vl} (hv:W.cI v) (r:Int):(W.bF r v).ok:=by
 refine ⟨by simpa [Wd.bF] using h.hr,λu hu=>?_,h.tk,h.tv,h.gv,h.wv,h.hq,h.m1,h.m2,h.g1,h.g2,h.uy,h.uo⟩;rcases List.mem_or_eq_of_mem_set hu with h1 | rfl
 ·exact h.rv u h1
 ·exact hv
theorem Wd.iN {W:Wd} {r k:Int} {l:List Vl} {i:Int} (h0:0<=i) (h:i<W.T.length):(W.put r k l).th i=W.th i:=by
 unfold Wd.th Wd.put;simp only [Ld];rw [List.getElem?_append_left (by omega)]
theorem Wd.dt {W:Wd} {r k:Int} {l:List Vl}:(W.put r k l).th W.T.length=⟨k,l,false,false⟩:=by
 unfold Wd.th Wd.put;simp only [Ld,Zt];rw [List.getElem?_append_right (Nat.le_refl _)];simp
theorem Wd.ik {W:Wd} {r k:Int} {l:List Vl} {i:Int} (h:W.live i):(W.put r k l).live i:=by
 refine ⟨h.1,?_,?_⟩
 ·have:=h.2.1;simp [Wd.put];omega
 ·rw [Wd.iN h.1 h.2.1];exact h.2.2
theorem Wd.fW {W:Wd} {r k:Int} {l:List Vl} {i:Int} (h:(W.put r k l).live i):W.live i\/i=W.T.length:=by
 have h1:=h.2.1;simp [Wd.put] at h1;by_cases e:i=W.T.length
 ·exact .inr e
 ·refine .inl ⟨h.1,by omega,?_⟩;have:=h.2.2;rwa [Wd.iN h.1 (by omega)] at this
theorem Wd.oG {W:Wd} {r k:Int} {l:List Vl}:(W.put r k l).aA=W.aA+(1+l.length):=by
 unfold Wd.aA Wd.put;rw [tZ];simp [eu,Th.words]
theorem Wd.ub {W:Wd} {r k:Int} {l:List Vl}:(W.put r k l).cD=W.cD:=by
 unfold Wd.cD Wd.put;rw [tZ];simp [eu]
theorem Wd.ok.put {W:Wd} (h:W.ok) {r k:Int} {l:List Vl} (hf:bj k l.length=true) (hl:∀ v ∈ l,W.cI v) (hroom:1+(l.length:Int)<=W.most-W.aA):(W.put r k l).ok:=by
 have hm:∀ {v},W.cI v->(W.put r k l).cI v:=λhv=>Wd.tY (λi hi=>Wd.ik hi) hv;have he:∀ e,W.dL e->(W.put r k l).dL e:=λe he=>⟨Wd.ik he.1,by rw [Wd.iN he.1.1 he.1.2.1];exact he.2.1,Wd.ik he.2.2⟩;refine ⟨by simpa [Wd.put] using h.hr,λu hu=>?_,λi hi=>?_,λi hi v hv=>?_,λe h1=>he e (h.gv e h1),λe h1=>he e (h.wv e h1),h.hq,h.m1,h.m2,h.g1,h.g2,?_,?_⟩
 ·rcases List.mem_or_eq_of_mem_set hu with h1 | rfl
  ·exact hm (h.rv u h1)
  ·refine .inr (.inr (.inr ⟨rfl,?_,?_,?_⟩))
   ·simp [ij]
   ·simp [Wd.put,ij];omega
   ·show ((W.put r k l).th (W.T.length:Int)).dead=false
    rw [Wd.dt]
 ·rcases Wd.fW hi with h1 | rfl
  ·rw [Wd.iN h1.1 h1.2.1];exact h.tk i h1
  ·rw [Wd.dt];exact hf
 ·rcases Wd.fW hi with h1 | rfl
  ·rw [Wd.iN h1.1 h1.2.1] at hv;exact hm (h.tv i h1 v hv)
  ·rw [Wd.dt] at hv;exact hm (hl v hv)
 ·show (W.put r k l).aA<=W.most
  rw [Wd.oG];omega
 ·show (W.put r k l).cD<=W.grow
  rw [Wd.ub];exact h.uo
theorem Wd.gV {W:Wd} {j:Int} {fs:List Vl} {i:Int} (h0:0<=i) (hj:W.live j):(W.cK j fs).th i=if i=j then { W.th j with fs:=fs } else W.th i:=by
 obtain ⟨h',e⟩:=Wd.rY hj;unfold Wd.cK;simp only [Wd.th,Ld,List.getElem?_set];by_cases e2:i=j
 ·subst e2;rw [if_pos rfl,if_pos h',if_pos rfl];rfl
 ·have:=hj.1;rw [if_neg (by omega),if_neg e2]
theorem Wd.fq {W:Wd} {j:Int} {fs:List Vl} (hj:W.live j) (i:Int):(W.cK j fs).live i↔W.live i:=by
 unfold Wd.live;constructor
 ·rintro ⟨h0,h1,h2⟩;rw [Wd.gV h0 hj] at h2;refine ⟨h0,by simpa [Wd.cK] using h1,?_⟩;by_cases e:i=j
  ·subst e;exact hj.2.2
  ·rwa [if_neg e] at h2
 ·rintro ⟨h0,h1,h2⟩;refine ⟨h0,by simpa [Wd.cK] using h1,?_⟩;rw [Wd.gV h0 hj];split
  ·exact hj.2.2
  ·exact h2
theorem Wd.sN {W:Wd} {j:Int} {fs:List Vl} (hj:W.live j) {i:Int} (h0:0<=i):((W.cK j fs).th i).k=(W.th i).k:=by
 rw [Wd.gV h0 hj];split
 ·rename_i e;subst e;rfl
 ·rfl
theorem Wd.uc {W:Wd} {j:Int} {fs:List Vl} (hj:W.live j) (hl:fs.length=(W.th j).fs.length):(W.cK j fs).aA=W.aA/\(W.cK j fs).cD=W.cD:=by
 obtain ⟨h',e⟩:=Wd.rY hj;constructor
 ·exact ua _ _ _ _ h' (by simp [e]) (by simp [Th.words,hl,e])
 ·exact ua _ _ _ _ h' (by simp [e]) (by simp [Th.words,hl,e])
theorem Wd.ok.cK {W:Wd} (h:W.ok) {j:Int} {fs:List Vl} (hj:W.live j) (hl:fs.length=(W.th j).fs.length) (hv:∀ v ∈ fs,W.cI v):(W.cK j fs).ok:=by
 have hm:∀ {v},W.cI v->(W.cK j fs).cI v:=λhv=>Wd.tY (λi hi=>(Wd.fq hj i).2 hi) hv;have he:∀ e,W.dL e->(W.cK j fs).dL e:=λe he=>⟨(Wd.fq hj _).2 he.1,by rw [Wd.sN hj he.1.1];exact he.2.1,(Wd.fq hj _).2 he.2.2⟩;have hs:=Wd.uc hj hl;refine ⟨h.hr,λu hu=>hm (h.rv u hu),λi hi=>?_,λi hi v hv'=>?_,λe h1=>he e (h.gv e h1),λe h1=>he e (h.wv e h1),h.hq,h.m1,h.m2,h.g1,h.g2,?_,?_⟩
 ·have h1:=(Wd.fq hj i).1 hi;rw [Wd.gV hi.1 hj];split
  ·rename_i e;subst e;show bj (W.th i).k (fs.length:Nat)=true;rw [hl];exact h.tk i h1
  ·exact h.tk i h1
 ·have h1:=(Wd.fq hj i).1 hi;rw [Wd.gV hi.1 hj] at hv';split at hv'
  ·exact hm (hv v hv')
  ·exact hm (h.tv i h1 v hv')
 ·show (W.cK j fs).aA<=W.most;rw [hs.1];exact h.uy
 ·show (W.cK j fs).cD<=W.grow;rw [hs.2];exact h.uo
theorem Wd.gj (W:Wd) (major:Bool):(W.first major).length=W.T.length:=by simp [Wd.first]
theorem Wd.gC {W:Wd} {major:Bool} {i:Int}:aw (W.first major) i=true↔0<=i/\i<W.T.length/\(((W.th i).aK=true/\(W.th i).dead=false/\major=false)\/((3,i):Vl) ∈ W.roots):=by
 constructor
 ·intro h;have hb:=mG h;rw [Wd.gj] at hb;refine ⟨hb.1,hb.2,?_⟩;unfold aw Wd.first at h
  simp only [Zr,Ld,Zw] at h;rw [List.getElem?_range (by omega)] at h;have h2:=h.2;simp only [Option.map_some,Option.getD_some,show ((i.toNat:Nat):Int)=i by omega,Bool.or_eq_true,Zr,Bool.not_eq_true',List.any_eq_true,beq_iff_eq] at h2;rcases h2 with h2 | ⟨v,h3,h4,h5⟩
  ·exact .inl ⟨h2.1.1,h2.1.2,h2.2⟩
  ·right;have:v=(3,i):=by cases v;simp_all
   rwa [this] at h3
 ·rintro ⟨h0,h1,h2⟩;unfold aw Wd.first
  simp only [Zr,Ld,Zw];rw [List.getElem?_range (by omega)];refine ⟨by simpa using h0,?_⟩;simp only [Option.map_some,Option.getD_some,show ((i.toNat:Nat):Int)=i by omega,Bool.or_eq_true,Zr,Bool.not_eq_true',List.any_eq_true,beq_iff_eq];rcases h2 with h2 | h2
  ·exact .inl ⟨⟨h2.1,h2.2.1⟩,h2.2.2⟩
  ·exact .inr ⟨_,h2,rfl,rfl⟩
structure Wd.ez (W:Wd) (major:Bool) (is:List Bool) (q:List (Int × Int)):Prop where
 len:is.length=W.T.length
 live:∀ i,aw is i=true->W.live i
 first:∀ i,aw (W.first major) i=true->aw is i=true
 shut:cv W.nd q λi=>aw is i=true
 wv:∀ e ∈ q,W.dL e
theorem Wd.jk {W:Wd} (h:W.ok) {q:List (Int × Int)} (hq:∀ e ∈ q,W.dL e):cv W.nd q W.live:=by
 intro i j hi hl;rcases hl with h1 | h1 | h1 | h1
 ·exact Wd.aY (h.tv i hi _ h1.2) rfl
 ·exact Wd.aY (h.tv i hi _ (Zh h1.2)) rfl
 ·exact Wd.aY (h.tv i hi _ (Zh h1.2.1)) rfl
 ·exact (hq _ h1.2).2.2
theorem Wd.xg {W:Wd} (h:W.ok) {major:Bool} {i:Int} (hi:aw (W.first major) i=true):W.live i:=by
 obtain ⟨h0,h1,h2 | h2⟩:=Wd.gC.1 hi
 ·exact ⟨h0,h1,h2.2.1⟩
 ·exact Wd.aY (h.rv _ h2) rfl
theorem Wd.ez.start {W:Wd} (h:W.ok) (major:Bool):W.ez major (W.cY W.wait (W.first major)) W.wait:=by
 have hlen:(W.cY W.wait (W.first major)).length=W.T.length:=by unfold Wd.cY;rw [fp,Wd.gj]
 have hl:∀ i,aw (W.cY W.wait (W.first major)) i=true->W.live i:=λi hi=>
  (da.1 hi).2.2.least (λk hk=>Wd.xg h hk) (Wd.jk h h.wv)
 refine ⟨hlen,hl,λi hi=>da.2 ⟨(mG hi).1,(mG hi).2,cO.base hi⟩,?_,h.wv⟩;intro i j hi hj;have hlv:=Wd.jk h h.wv i j (hl i hi) (hj.mono (λk hk=>hl k hk) (λ_ h=>h));refine da.2 ⟨hlv.1,by rw [Wd.gj];exact hlv.2.1,?_⟩;exact cO.closed _ _ _ i j (da.1 hi).2.2 (hj.mono (λk hk=>(da.1 hk).2.2) (λ_ h=>h))
theorem Wd.ez.ab {W:Wd} (h:W.ok) {major:Bool} {is:List Bool} {q:List (Int × Int)} (m:W.ez major is q) {g x:Int} (hx:W.live x) (hg:W.live g) (hk:(W.th g).k=5) :
  W.ez major (W.cY q (is.set x.toNat true)) (q ++ [(g,x)])/\(∀ i,aw is i=true->aw (W.cY q (is.set x.toNat true)) i=true)/\aw (W.cY q (is.set x.toNat true)) x=true:=by
 have hset:∀ i,aw (is.set x.toNat true) i=true↔i=x\/aw is i=true:=λi=>gU hx.1 (by rw [m.len];exact hx.2.1);have hsl:(is.set x.toNat true).length=W.T.length:=by rw [List.length_set,m.len]
 have hq':∀ e ∈ q ++ [(g,x)],W.dL e:=by
  intro e he;rcases Zk.1 he with h1 | h1
  ·exact m.wv e h1
  ·rw [List.mem_singleton.1 h1];exact ⟨hg,hk,hx⟩
 have hsv:∀ k,aw (is.set x.toNat true) k=true->W.live k:=by
  intro k hk;rcases (hset k).1 hk with rfl | h1
  ·exact hx
  ·exact m.live k h1
 have hl:∀ i,aw (W.cY q (is.set x.toNat true)) i=true->W.live i:=λi hi=>(da.1 hi).2.2.least hsv (Wd.jk h m.wv);have up:∀ i,aw (is.set x.toNat true) i=true->aw (W.cY q (is.set x.toNat true)) i=true:=λi hi=>da.2 ⟨(mG hi).1,(mG hi).2,cO.base hi⟩;have hxx:=up x ((hset x).2 (.inl rfl));refine ⟨⟨by unfold Wd.cY;rw [fp,hsl],hl,λi hi=>up i ((hset i).2 (.inr (m.first i hi))),?_,hq'⟩,λi hi=>up i ((hset i).2 (.inr hi)),hxx⟩;intro i j hi hj;by_cases e:j=x
 ·subst e;exact hxx
 ·have hj':iT W.nd q (λk=>aw (W.cY q (is.set x.toNat true)) k=true) i j:=by
   rcases hj with h1 | h1 | h1 | ⟨h1,h2⟩
   ·exact .inl h1
   ·exact .inr (.inl h1)
   ·exact .inr (.inr (.inl h1))
   ·refine .inr (.inr (.inr ⟨h1,?_⟩));rcases Zk.1 h2 with h3 | h3
    ·exact h3
    ·simp at h3;exact absurd h3.2 e
  have hlv:=Wd.jk h m.wv i j (hl i hi) (hj'.mono (λk hk=>hl k hk) (λ_ h=>h));refine da.2 ⟨hlv.1,by rw [hsl];exact hlv.2.1,?_⟩;exact cO.closed _ _ _ i j (da.1 hi).2.2 (hj'.mono (λk hk=>(da.1 hk).2.2) (λ_ h=>h))
theorem yb (a:Int × Int) (b:Bool) (l:List It):cN ((a,b,true) :: l)=cN l:=by rw [iW];simp
theorem wu {i:It} (h:i.2.2=false) (l:List It):cN (i :: l)=1+cN l:=by rw [iW,h];simp
theorem zw (l:List (Int × Int)) (f:Int × Int->Bool):cN (l.map λe=>(e,f e,false))=l.length:=by
 induction l with
 | nil=>rfl
 | cons a l ih=>rw [Zs,wu rfl,ih];simp;omega
theorem Wd.ez.scan {W:Wd} (h:W.ok) {major:Bool}:∀ (l:List It) (is:List Bool) (q:List (Int × Int)),W.ez major is q->(∀ i ∈ l,W.dL i.1) ->
  W.ez major (scanM aw W.cq is q l).1 (scanM aw W.cq is q l).2.1/\(∀ i,aw is i=true->aw (scanM aw W.cq is q l).1 i=true) /\
  (scanM aw W.cq is q l).2.1.length+cN (scanM aw W.cq is q l).2.2.1=q.length+cN l
 | [],is,q,m,_=>⟨m,λ_ h=>h,rfl⟩
 | i :: l,is,q,m,hl=>by
  have hi:=hl i (by simp);simp only [scanM];split
  ·rename_i hc;simp only [Zr,Bool.not_eq_true'] at hc;obtain ⟨m',hm1,_⟩:=m.ab h (g:=i.1.1) (x:=i.1.2) hi.2.2 hi.1 hi.2.1;have ih:=Wd.ez.scan h l _ _ m' (λj hj=>hl j (by simp [hj]));simp only [Wd.cq];refine ⟨ih.1,λk hk=>ih.2.1 k (hm1 k hk),?_⟩;have h3:=ih.2.2;simp only [Wd.cq,Zq,List.length_cons,List.length_nil] at h3;rw [yb,wu hc.1.2];omega
  ·have ih:=Wd.ez.scan h l is q m (λj hj=>hl j (by simp [hj]));refine ⟨ih.1,ih.2.1,?_⟩;have h3:=ih.2.2;simp only [iW] at h3 ⊢;omega
theorem nk {W:Wd} {l:List It} (is:List Bool) (q:List (Int × Int)) (hl:∀ i ∈ l,W.dL i.1):∀ i ∈ (scanM aw W.cq is q l).2.2.1,W.dL i.1:=by
 intro i hi;have h1:(i.1,i.2.1) ∈ (scanM aw W.cq is q l).2.2.1.map (λi=>(i.1,i.2.1)):=Zi.2 ⟨i,hi,rfl⟩;rw [jj] at h1;obtain ⟨j,hj,e⟩:=Zi.1 h1;have:=hl j hj;have e1:j.1=i.1:=congrArg (λp:(Int × Int) × Bool=>p.1) e;rwa [e1] at this
theorem Wd.ez.rounds {W:Wd} (h:W.ok) {major:Bool}:∀ (n:Nat) (l:List It) (is:List Bool) (q:List (Int × Int)),W.ez major is q->(∀ i ∈ l,W.dL i.1) ->
  W.ez major (roundsM aw W.cq n is q l).1 (roundsM aw W.cq n is q l).2.1/\(∀ i,aw is i=true->aw (roundsM aw W.cq n is q l).1 i=true) /\
  (roundsM aw W.cq n is q l).2.1.length+cN (roundsM aw W.cq n is q l).2.2=q.length+cN l /\
  (roundsM aw W.cq n is q l).2.2.map (λi=>(i.1,i.2.1))=l.map (λi=>(i.1,i.2.1))
 | 0,l,is,q,m,_=>⟨m,λ_ h=>h,rfl,rfl⟩
 | n+1,l,is,q,m,hl=>by
  have hs:=Wd.ez.scan h l is q m hl;have hf:=jj aw W.cq l is q;simp only [roundsM];split
  ·have ih:=Wd.ez.rounds h n (scanM aw W.cq is q l).2.2.1 _ _ hs.1 (nk is q hl);refine ⟨ih.1,λk hk=>ih.2.1 k (hs.2.1 k hk),by rw [ih.2.2.1,hs.2.2],by rw [ih.2.2.2,hf]⟩
  ·exact ⟨hs.1,hs.2.1,hs.2.2,hf⟩
theorem Wd.eR {W:Wd} (h:W.ok) (major:Bool):W.ez major (W.pass major).1 (W.pass major).2.1/\(∀ i,aw (W.cY W.wait (W.first major)) i=true->aw (W.pass major).1 i=true) /\
  (W.pass major).2.1.length+cN (W.pass major).2.2=W.wait.length+W.ai.length /\
  (W.pass major).2.2.map (λi=>(i.1,i.2.1))=W.ai.map λe=>(e,!aw (W.cY W.wait (W.first major)) e.2):=by
 have:=Wd.ez.rounds h (W.ai.length+1) (c6 aw (W.cY W.wait (W.first major)) W.ai) _ _ (Wd.ez.start h major) (by
  intro i hi;simp only [c6,List.mem_map] at hi;obtain ⟨e,he,rfl⟩:=hi
  exact h.gv e he)
 refine ⟨this.1,this.2.1,?_,?_⟩
 ·have h3:=this.2.2.1;have:cN (c6 aw (W.cY W.wait (W.first major)) W.ai)=W.ai.length:=zw _ _;rw [this] at h3;exact h3
 ·have h3:=this.2.2.2;rw [Wd.pass,dw,h3];simp [c6]
end
section
theorem c8 {is:List Bool} {i:Int} (h0:0<=i):is.getD i.toNat false=aw is i:=by unfold aw;simp [h0]
theorem lY (is:List Bool) (i:Nat) (t:Th):(dB is i t).k=t.k:=by unfold dB;split <;> rfl
theorem lZ {is:List Bool} {i:Nat} {t:Th} (h:is.getD i false=true):(dB is i t).dead=t.dead/\(dB is i t).aK=true:=by unfold dB;rw [if_pos h];exact ⟨rfl,rfl⟩
theorem sO {is:List Bool} {i:Nat} {t:Th} (h:is.getD i false=false):(dB is i t).dead=true:=by unfold dB;rw [if_neg (by rw [h];decide)]
theorem jK {is:List Bool} {i:Nat} {t:Th} (h:is.getD i false=true) (hf:bj t.k t.fs.length=true):(dB is i t).fs.length=t.fs.length:=by
 unfold dB;rw [if_pos h]
 show List.length (if _ then _ else _)=_
 split
 ·rename_i hc;rw [hc.1] at hf;simp [bj] at hf;simp;omega
 ·split
  ·rename_i hc;rw [hc.1] at hf;simp [bj] at hf;simp;omega
  ·rfl
theorem zx {W:Wd} {is:List Bool} {i:Int} (h0:0<=i) (h1:i<W.T.length):(kQ is W.T).getD i.toNat Th.none=dB is i.toNat (W.th i):=by
 unfold kQ Wd.th;simp only [Ld,List.getElem?_mapIdx];rw [Le (by omega)]
 rfl
theorem Wd.gD {W:Wd} {major:Bool} {i:Int} (h0:0<=i) (h1:i<W.T.length):(W.after major).th i=dB (W.pass major).1 i.toNat (W.th i):=zx h0 h1
theorem Wd.ko {W:Wd} {major:Bool}:(W.after major).T.length=W.T.length:=by simp [Wd.after,kQ]
theorem Wd.fg {W:Wd} (h:W.ok) {major:Bool} {i:Int}:(W.after major).live i↔aw (W.pass major).1 i=true:=by
 obtain ⟨m,_⟩:=Wd.eR h major;constructor
 ·rintro ⟨h0,h1,h2⟩;rw [Wd.ko] at h1;rw [Wd.gD h0 h1] at h2;cases hb:aw (W.pass major).1 i
  ·rw [sO (by rw [c8 h0,hb])] at h2;cases h2
  ·rfl
 ·intro hb;have hl:=m.live i hb;refine ⟨hl.1,by rw [Wd.ko];exact hl.2.1,?_⟩;rw [Wd.gD hl.1 hl.2.1,(lZ (by rw [c8 hl.1];exact hb)).1];exact hl.2.2
theorem pJ {W:Wd} (h:W.ok) {q:List (Int × Int)} {is:List Bool} (hs:cv W.nd q λk=>aw is k=true) {i:Int} (hi:W.live i) (hb:aw is i=true) :
  ∀ v ∈ (dB is i.toNat (W.th i)).fs,(v=(2,0))\/(v ∈ (W.th i).fs/\bY is v=true):=by
 intro v hv;have hf:=h.tk i hi;unfold dB at hv;rw [if_pos (by rw [c8 hi.1];exact hb)] at hv;have shut:∀ j,iT W.nd q (λk=>aw is k=true) i j->aw is j=true:=λj hj=>hs i j hb hj;have inS_of:∀ v:Vl,(v.1=3->aw is v.2=true)->bY is v=true:=λv hv=>by
  unfold bY;by_cases e:v.1=3
  ·simp [e,hv e]
  ·simp [e]
 have two:(W.th i).fs.length=2->∃ a b,(W.th i).fs=[a,b]:=λhl=>by
  match hx:(W.th i).fs,hl with
  | [a,b],_=>exact ⟨a,b,rfl⟩
 change v ∈ (if _ then _ else _) at hv;split at hv
 ·left;simp at hv;exact hv
 ·rename_i hc4;split at hv
  ·rename_i hc3;rw [hc3.1] at hf;simp [bj] at hf;obtain ⟨a,b,e⟩:=two (by omega);rw [e] at hv;simp at hv;rcases hv with rfl | rfl
   ·exact .inl rfl
   ·refine .inr ⟨by rw [e];simp,inS_of _ λe3=>shut _ (.inr (.inl ⟨hc3.1,?_⟩))⟩
    show (W.th i).fs[1]? = _
    rw [e];cases v;simp_all
  ·rename_i hc3;right;refine ⟨hv,inS_of v λe3=>?_⟩;have e4:v=(3,v.2):=by cases v;simp_all
   have hk:=bL hf;by_cases k12:(W.th i).k=1\/(W.th i).k=2
   ·exact shut _ (.inl ⟨k12,by rw [<-e4];exact hv⟩)
   by_cases k3:(W.th i).k=3
   ·have h0:bY is ((W.th i).fs.getD 0 (0,0))=true:=by
     cases hx:bY is ((W.th i).fs.getD 0 (0,0))
     ·exact absurd ⟨k3,hx⟩ hc3
     ·rfl
    rw [k3] at hf;simp [bj] at hf;obtain ⟨a,b,e⟩:=two (by omega);rw [e] at hv h0;simp at hv h0;rcases hv with rfl | rfl
    ·simp [bY,e3] at h0;exact h0
    ·exact shut _ (.inr (.inl ⟨k3,by show (W.th i).fs[1]? = _;rw [e,<-e4];rfl⟩))
   by_cases k4:(W.th i).k=4
   ·have h0:bY is ((W.th i).fs.getD 0 (0,0))=true:=by
     cases hx:bY is ((W.th i).fs.getD 0 (0,0))
     ·exact absurd ⟨k4,hx⟩ hc4
     ·rfl
    rw [k4] at hf;simp [bj] at hf;obtain ⟨a,b,e⟩:=two (by omega);rw [e] at hv h0;simp at hv h0;rcases hv with rfl | rfl
    ·simp [bY,e3] at h0;exact h0
    ·refine shut _ (.inr (.inr (.inl ⟨k4,by show (W.th i).fs[1]? = _;rw [e,<-e4];rfl,λu hu hu3=>?_⟩)));have hu':(W.th i).fs[0]? = some u:=hu;rw [e] at hu';simp at hu';subst hu';simp [bY,hu3] at h0;exact h0
   ·have k5:(W.th i).k=5:=by
     have h1:(W.th i).k≠1:=λe=>k12 (.inl e);have h2:(W.th i).k≠2:=λe=>k12 (.inr e);omega
    rw [k5] at hf;simp [bj] at hf;have:(W.th i).fs=[]:=by
     cases hx:(W.th i).fs with
     | nil=>rfl
     | cons a l=>rw [hx] at hf;simp at hf
    rw [this] at hv;cases hv
theorem sP (is:List Bool):∀ (l:List Th) (n:Nat) (hl:∀ j (h:j<l.length),is.getD (n+j) false=true->l[j].dead=false/\bj l[j].k l[j].fs.length=true),
  eu (l.mapIdx λi t=>dB is (n+i) t) (λt=>!t.dead && !t.aK)=0 /\
  eu (l.mapIdx λi t=>dB is (n+i) t) (λt=>!t.dead && t.aK)=(l.mapIdx λi t=>if is.getD (n+i) false then t.words else 0).sum
 | [],_,_=>⟨rfl,rfl⟩
 | t :: l,n,hl=>by
  have ih:=sP is l (n+1) (λj h=>by
   have:=hl (j+1) (by simp;omega);simp only [List.getElem_cons_succ] at this
   rw [show n+1+j=n+(j+1) by omega];exact this)
  have e:∀ (f:Nat->Th->Th),(λi t=>f (n+1+i) t)=λi t=>f (n+(i+1)) t:=λf=>by funext i t;rw [show n+1+i=n+(i+1) by omega]
  have e2:∀ (f:Nat->Th->Int),(λi t=>f (n+1+i) t)=λi t=>f (n+(i+1)) t:=λf=>by funext i t;rw [show n+1+i=n+(i+1) by omega]
  rw [e (dB is),e2 (λi t=>if is.getD i false then t.words else 0)] at ih;have h0:=hl 0 (by simp);simp only [List.getElem_cons_zero,Nat.add_zero] at h0;simp only [eu] at ih ⊢;simp only [List.mapIdx_cons,Zs,List.sum_cons,Nat.add_zero];rw [ih.1,ih.2];cases hb:is.getD n false
  ·have hd:=sO (t:=t) hb;simp [hd]
  ·obtain ⟨h1,h2⟩:=h0 hb;have hl2:=lZ (t:=t) hb;have hl3:=jK hb h2;simp only [hl2.1,hl2.2,h1,Th.words,hl3];simp
theorem Wd.kR {W:Wd} (h:W.ok) (major:Bool):(W.after major).aA=0/\(W.after major).cD=e9 (W.pass major).1 W.T:=by
 obtain ⟨m,_⟩:=Wd.eR h major;have:=sP (W.pass major).1 W.T 0 (λj hj hb=>by
  rw [Nat.zero_add,<-dQ] at hb;have hl:=m.live _ hb;obtain ⟨h',e⟩:=Wd.rY hl;simp only [Zt] at e;rw [<-e]
  exact ⟨hl.2.2,h.tk _ hl⟩)
 simp only [Nat.zero_add] at this;exact this
theorem Wd.jL {W:Wd} (h:W.ok) {major:Bool} {i:Int} (hb:aw (W.pass major).1 i=true):((W.after major).th i).k=(W.th i).k:=by
 obtain ⟨m,_⟩:=Wd.eR h major;have hl:=m.live i hb;rw [Wd.gD hl.1 hl.2.1,lY]
theorem vt {is:List Bool} {l:List It} {e:Int × Int} (h:e ∈ bq aw iX is l):∃ i ∈ l,i.1=e/\i.2.1=false/\aw is e.1=true:=by
 unfold bq at h;simp only [List.mem_map,List.mem_filter,Zr,Bool.not_eq_true'] at h;obtain ⟨i,⟨hi,h1,h2⟩,rfl⟩:=h;exact ⟨i,hi,rfl,h1,h2⟩
theorem vu {is:List Bool} {l:List (Int × Int)} {e:Int × Int} (h:e ∈ bt aw iX is l):e ∈ l/\aw is e.1=true:=by
 unfold bt at h;simp only [List.mem_map,List.mem_filter] at h;obtain ⟨i,⟨hi,h1⟩,rfl⟩:=h;exact ⟨hi,h1⟩
theorem Wd.ok.after {W:Wd} (h:W.ok) {major:Bool} (hroom:e9 (W.pass major).1 W.T<=W.grow):(W.after major).ok:=by
 obtain ⟨m,hfst,hcnt,hits⟩:=Wd.eR h major;have hs:=Wd.kR h major;have lv:∀ i,aw (W.pass major).1 i=true->(W.after major).live i:=λi hi=>(Wd.fg h).2 hi;have clo1:∀ i,aw (W.first major) i=true->aw (W.pass major).1 i=true:=m.first
 have root:∀ v ∈ W.roots,v.1=3->aw (W.pass major).1 v.2=true:=λv hv e=>by
  have hl:=Wd.aY (h.rv v hv) e;have e2:v=(3,v.2):=by cases v;simp_all
  exact m.first _ (Wd.gC.2 ⟨hl.1,hl.2.1, .inr (by rw [<-e2];exact hv)⟩)
 refine ⟨h.hr,λv hv=>?_,λi hi=>?_,λi hi v hv=>?_,λe he=>?_,λe he=>?_,?_,h.m1,h.m2,h.g1,h.g2,?_,?_⟩
 ·rcases h.rv v hv with h1 | h1 | h1 | h1
  ·exact .inl h1
  ·exact .inr (.inl h1)
  ·exact .inr (.inr (.inl h1))
  ·exact .inr (.inr (.inr ⟨h1.1,lv _ (root v hv h1.1)⟩))
 ·have hb:=(Wd.fg h).1 hi;have hl:=m.live i hb;rw [Wd.gD hl.1 hl.2.1,lY,jK (by rw [c8 hl.1];exact hb) (h.tk i hl)];exact h.tk i hl
 ·have hb:=(Wd.fg h).1 hi;have hl:=m.live i hb;rw [Wd.gD hl.1 hl.2.1] at hv;rcases pJ h m.shut hl hb v hv with rfl | ⟨hv1,hv2⟩
  ·exact .inr (.inr (.inl ⟨rfl,rfl⟩))
  ·rcases h.tv i hl v hv1 with h1 | h1 | h1 | h1
   ·exact .inl h1
   ·exact .inr (.inl h1)
   ·exact .inr (.inr (.inl h1))
   ·refine .inr (.inr (.inr ⟨h1.1,lv _ ?_⟩));simp [bY,h1.1] at hv2;exact hv2
 ·obtain ⟨i,hi,rfl,hd,hg⟩:=vt he;have h1:(i.1,i.2.1) ∈ (W.pass major).2.2.map (λi=>(i.1,i.2.1)):=Zi.2 ⟨i,hi,rfl⟩;rw [hits] at h1;obtain ⟨e,he',e2⟩:=Zi.1 h1;have e3:e=i.1:=congrArg (λp:(Int × Int) × Bool=>p.1) e2;have e4:(!aw (W.cY W.wait (W.first major)) e.2)=i.2.1:=congrArg (λp:(Int × Int) × Bool=>p.2) e2;have hgv:=h.gv e he';rw [e3] at hgv e4;rw [hd] at e4;refine ⟨lv _ hg,?_,lv _ (hfst _ (by simpa using e4))⟩;rw [Wd.jL h hg];exact hgv.2.1
 ·obtain ⟨h1,h2⟩:=vu he;have hwv:=m.wv e h1;refine ⟨lv _ h2,by rw [Wd.jL h h2];exact hwv.2.1,lv _ (m.shut _ _ h2 (.inr (.inr (.inr ⟨hwv.2.1,h1⟩))))⟩
 ·have hq:=h.hq;have h1:(W.after major).wait.length<=(W.pass major).2.1.length:=by
   simp only [Wd.after,bt,Zp];exact List.length_filter_le _ _
  have h2:(W.after major).ai.length<=cN (W.pass major).2.2:=by
   simp only [Wd.after,bq,Zp];have hmv:∀ i ∈ (W.pass major).2.2,i.2.1=false->i.2.2=false:=by
    have key:∀ (l:List It) (is:List Bool) (q:List (Int × Int)),(∀ i ∈ l,i.2.1=false->i.2.2=false)->∀ i ∈ (scanM aw W.cq is q l).2.2.1,i.2.1=false->i.2.2=false:=by
     intro l
     induction l with
     | nil=>intro is q _ i hi;simp [scanM] at hi
     | cons a l ih=>
      intro is q hl i hi;simp only [scanM] at hi;split at hi
      ·rename_i hc;simp only [Zr] at hc;rcases Zm.1 hi with rfl | hi
       ·intro e;rw [hc.1.1] at e;cases e
       ·exact ih _ _ (λj hj=>hl j (by simp [hj])) i hi
      ·rcases Zm.1 hi with rfl | hi
       ·exact hl _ (by simp)
       ·exact ih _ _ (λj hj=>hl j (by simp [hj])) i hi
    have key2:∀ (n:Nat) (l:List It) (is:List Bool) (q:List (Int × Int)),(∀ i ∈ l,i.2.1=false->i.2.2=false)->∀ i ∈ (roundsM aw W.cq n is q l).2.2,i.2.1=false->i.2.2=false:=by
     intro n
     induction n with
     | zero=>intro l is q hl;exact hl
     | succ n ih=>
      intro l is q hl;simp only [roundsM];split
      ·exact ih _ _ _ (key l is q hl)
      ·exact key l is q hl
    exact key2 _ _ _ _ (λi hi=>by simp only [c6,List.mem_map] at hi;obtain ⟨e,_,rfl⟩:=hi;intro _;rfl)
   unfold cN;rw [<-List.countP_eq_length_filter,<-List.countP_eq_length_filter];exact List.countP_mono_left λi hi h=>by
    simp only [Zr,Bool.not_eq_true'] at h;simp [hmv i hi h.1]
  show (W.after major).ai.length+(W.after major).wait.length<=24
  omega
 ·show (W.after major).aA<=W.most;rw [hs.1];have:=h.m1;omega
 ·show (W.after major).cD<=W.grow;rw [hs.2];exact hroom
theorem Wd.ok.cut {W:Wd} (h:W.ok) (major:Bool):(W.cut major).2.ok:=by
 unfold Wd.cut;split
 ·exact h
 ·split
  ·exact h
  ·exact h.after (by omega)
theorem Wd.ok.room {W:Wd} (h:W.ok) (n:Int) (hn:n<=13):(W.room n).2.ok/\((W.room n).1=0->n<=(W.room n).2.most-(W.room n).2.aA):=by
 unfold Wd.room;split
 ·refine ⟨h.cut _,λh0=>?_⟩;unfold Wd.cut at h0 ⊢;split
  ·rename_i hc;rw [if_pos hc] at h0;simp at h0
  ·rename_i hc;rw [if_neg hc] at h0;split
   ·rename_i hd;rw [if_pos hd] at h0;simp at h0
   ·show n<=W.most-(W.after _).aA
    rw [(Wd.kR h _).1];have:=h.m1;omega
 ·exact ⟨h,λ_=>by show n<=W.most-W.aA;omega⟩
theorem Wd.ok.bz {W:Wd} (h:W.ok) {r k:Int} {l:List Int} (hf:bj k l.length=true):(W.bz r k l).2.ok:=by
 unfold Wd.bz;have hl:=(bL hf).2.2.2;have hr:=h.room (1+l.length) (by omega);split
 ·rename_i h0;refine hr.1.put (by simpa using hf) (λv hv=>?_) (by simpa using hr.2 h0);obtain ⟨a,_,rfl⟩:=Zi.1 hv;exact Wd.g8 hr.1 a
 ·exact h
theorem Wd.dg {W:Wd} (h:W.ok) {k:Int} (hk:¬ W.ah k<0):W.live (W.ah k):=by
 unfold Wd.ah at hk ⊢;split
 ·rename_i h3;exact Wd.aY (Wd.g8 h k) h3
 ·rename_i h3;rw [if_neg h3] at hk;simp at hk
theorem Wd.np {W:Wd} (h:W.ok) {k:Int} (hk:¬ W.guard k<0):W.live (W.guard k)/\(W.th (W.guard k)).k=5/\W.guard k=W.ah k:=by
 unfold Wd.guard at hk ⊢;split
 ·rename_i h3;rw [if_pos h3] at hk;simp at hk
 ·rename_i h3;have h5:(W.th (W.ah k)).k=5:=by
   by_cases e:(W.th (W.ah k)).k=5
   ·exact e
   ·exact absurd (Or.inr e) h3
  exact ⟨Wd.dg h (λe=>h3 (.inl e)),h5,rfl⟩
theorem lH:∀ {l:List (Int × Int)} {g:Int} {r:Int × List (Int × Int)},popW l g=some r->(g,r.1) ∈ l/\(∀ e ∈ r.2,e ∈ l)/\r.2.length+1=l.length
 | [],g,r,h=>by simp [popW] at h
 | e :: l,g,r,h=>by
  unfold popW at h;split at h
  ·rename_i hg;simp at h;subst h;refine ⟨?_,λe he=>by simp [he],rfl⟩;rw [<-hg];simp
  ·simp only [Option.map_eq_some_iff] at h;obtain ⟨r',h1,rfl⟩:=h;have ih:=lH h1;refine ⟨by simp [ih.1],λx hx=>?_,by simp;omega⟩;rcases Zm.1 hx with rfl | hx
   ·simp
   ·simp [ih.2.1 x hx]
theorem Wd.iY {W:Wd} {x:St} (h:W.bP x=0):¬ W.ah x.a<0/\(W.th (W.ah x.a)).k≠5/\0<=x.i/\x.i<(W.th (W.ah x.a)).fs.length:=by
 unfold Wd.bP at h;split at h
 ·simp at h
 ·rename_i hc;split at h
  ·simp at h
  ·rename_i hd;exact ⟨λe=>hc (.inl e),λe=>hc (.inr e),by omega,by omega⟩
theorem Wd.jl {W:Wd} {n:Int} (h1:-cG<=n) (h2:n<cG):W.cI (1,n):=.inr (.inl ⟨rfl,h1,h2⟩)
theorem aF {x:St} (h:bu x=0):¬ aP x.k=-1/\(aP x.k%2=1->bO x.r=true)/\(aP x.k/2%2=1->bO x.a=true)/\(aP x.k/4%2=1->bO x.b=true) /\
  (x.k=1->-cG<=x.n/\x.n<cG)/\(x.k=5->0<=x.n/\x.n<=12):=by
 unfold bu at h;split at h
 ·simp at h
 ·rename_i h1;split at h
  ·simp at h
  ·rename_i h2;split at h
   ·simp at h
   ·rename_i h3;split at h
    ·simp at h
    ·rename_i h4;have nb:∀ b:Bool,¬ b=false->b=true:=λb=>by cases b <;> simp
     exact ⟨h1,λh=>nb _ λe=>h2 (.inl ⟨h,e⟩),λh=>nb _ λe=>h2 (.inr (.inl ⟨h,e⟩)),λh=>nb _ λe=>h2 (.inr (.inr ⟨h,e⟩)),
      λh=>Zn.1 λe=>h3 ⟨h,e⟩,λh=>Zn.1 λe=>h4 ⟨h,e⟩⟩
theorem Wd.ok.do {W:Wd} (h:W.ok) (x:St):(W.do x).2.ok:=by
 unfold Wd.do
 split
 ·rename_i hc;have hu:=aF hc;unfold Wd.step;by_cases k1:x.k=1
  ·rw [if_pos k1];exact h.bF (Wd.jl (hu.2.2.2.2.1 k1).1 (hu.2.2.2.2.1 k1).2) _
  rw [if_neg k1];by_cases k2:x.k=2
  ·rw [if_pos k2];exact h.bF (.inl ⟨rfl,rfl⟩) _
  rw [if_neg k2];by_cases k3:x.k=3
  ·rw [if_pos k3];exact h.bF (Wd.g8 h _) _
  rw [if_neg k3];by_cases k4:x.k=4
  ·rw [if_pos k4];exact h.bz rfl
  rw [if_neg k4];by_cases k5:x.k=5
  ·rw [if_pos k5];refine h.bz ?_;have:=hu.2.2.2.2.2 k5;simp [bj];omega
  rw [if_neg k5];by_cases k6:x.k=6
  ·rw [if_pos k6];exact h.bz rfl
  rw [if_neg k6];by_cases k7:x.k=7
  ·rw [if_pos k7];exact h.bz rfl
  rw [if_neg k7];by_cases k8:x.k=8
  ·rw [if_pos k8];exact h.bz rfl
  rw [if_neg k8];by_cases k9:x.k=9
  ·rw [if_pos k9];unfold Wd.eZ;split
   ·exact h
   ·rename_i h1;split
    ·exact h
    ·rename_i h2;have ha:=Wd.dg h (λe=>h1 (.inl e));have hb:=Wd.np h (λe=>h1 (.inr e));refine ⟨h.hr,h.rv,h.tk,h.tv,λe he=>?_,h.wv,?_,h.m1,h.m2,h.g1,h.g2,h.uy,h.uo⟩
     ·rcases Zk.1 he with he | he
      ·exact h.gv e he
      ·rw [List.mem_singleton.1 he];exact ⟨hb.1,hb.2.1,ha⟩
     ·show (W.ai ++ _).length+W.wait.length<=24
      simp;omega
  rw [if_neg k9];by_cases k10:x.k=10
  ·rw [if_pos k10];unfold Wd.pop;split
   ·exact h
   ·rename_i h1;split
    ·exact h
    ·rename_i r hr;have hp:=lH hr;have hw:=h.wv _ hp.1;refine ⟨by simpa using h.hr,λv hv=>?_,h.tk,h.tv,h.gv,λe he=>h.wv e (hp.2.1 e he),?_,h.m1,h.m2,h.g1,h.g2,h.uy,h.uo⟩
     ·rcases List.mem_or_eq_of_mem_set hv with h2 | rfl
      ·exact h.rv v h2
      ·exact .inr (.inr (.inr ⟨rfl,hw.2.2⟩))
     ·have:=h.hq
      show W.ai.length+r.2.length<=24
      omega
  rw [if_neg k10];by_cases k11:x.k=11
  ·rw [if_pos k11];unfold Wd.get;split
   ·rename_i h0;have hf:=Wd.iY h0;refine h.bF ?_ _;rw [Ld,Le (by omega)];exact h.tv _ (Wd.dg h hf.1) _ (Ze _)
   ·exact h
  rw [if_neg k11];by_cases k12:x.k=12
  ·rw [if_pos k12];unfold Wd.set;split
   ·rename_i h0;have hf:=Wd.iY h0;have hl:=Wd.dg h hf.1;refine h.cK hl (by simp) λv hv=>?_;rcases List.mem_or_eq_of_mem_set hv with h2 | rfl
    ·exact h.tv _ hl v h2
    ·exact Wd.g8 h _
   ·exact h
  rw [if_neg k12];by_cases k13:x.k=13
  ·rw [if_pos k13];unfold Wd.len;split
   ·exact h
   ·rename_i h1;have hl:=Wd.dg h (λe=>h1 (.inl e));have:=bL (h.tk _ hl);exact h.bF (Wd.jl (by unfold cG;omega) (by unfold cG;omega)) _
  rw [if_neg k13];by_cases k14:x.k=14
  ·rw [if_pos k14];unfold Wd.same;exact h.bF (Wd.jl (by unfold cG;split <;> omega) (by unfold cG;split <;> omega)) _
  rw [if_neg k14];by_cases k15:x.k=15
  ·rw [if_pos k15];exact h.cut _
  rw [if_neg k15];exact h.cut _
 ·exact h
theorem Wd.ki {n o:Int} (h1:16<=n) (h2:n<=256) (h3:0<=o) (h4:o<=1024):(Wd.new n o).ok:=by
 have nl:∀ i,¬ (Wd.new n o).live i:=λi h=>by have h1:=h.1;have h2:=h.2.1;simp [Wd.new] at h2;omega
 refine ⟨by simp [Wd.new],λv hv=>?_,λi hi=>(nl i hi).elim,λi hi=>(nl i hi).elim,λe he=>by simp [Wd.new] at he,λe he=>by simp [Wd.new] at he,by simp [Wd.new],h1,h2,h3,h4,?_,?_⟩
 ·simp [Wd.new] at hv;subst hv;exact .inl ⟨rfl,rfl⟩
 ·show eu [] _<=n;simp [eu];omega
 ·show eu [] _<=o;simp [eu];omega
end
section
open Go.RowKit
theorem eN {a b:Int} (h:a=b):(Ending.returned (.int .i64 a))=.returned (.int .i64 b):=by rw [h]
theorem xh (k:Int):aP k=-1\/aP k=0\/aP k=1\/aP k=3\/aP k=6\/aP k=7:=by
 unfold aP
 repeat' split
 all_goals simp
def St.qY (x:St) (j:Nat):Int:=if j=0 then x.r else if j=1 then x.a else x.b
def kr (u:Int) (j:Nat):Bool:=decide (u/2 ^ j%2=1)
theorem vv {x:St} (h:aP x.k=-1):bu x=2:=by unfold bu;rw [if_pos h]
theorem vx {x:St} (h:aP x.k≠-1) {j:Nat} (hj:j<3) (hb:kr (aP x.k) j=true) (hr:bO (x.qY j)=false):bu x=1:=by
 unfold bu;rw [if_neg h,if_pos];unfold kr at hb;have hb:aP x.k/2 ^ j%2=1:=by simpa using hb
 rcases (by omega:j=0\/j=1\/j=2) with rfl | rfl | rfl
 ·exact .inl ⟨by simpa using hb,hr⟩
 ·exact .inr (.inl ⟨by simpa using hb,hr⟩)
 ·exact .inr (.inr ⟨by simpa using hb,hr⟩)
theorem vy {x:St} (h:aP x.k≠-1) (hb:∀ j,j<3->kr (aP x.k) j=true->bO (x.qY j)=true) :
  bu x=if x.k=1/\¬ (-cG<=x.n/\x.n<cG) then 1 else if x.k=5/\¬ (0<=x.n/\x.n<=12) then 1 else 0:=by
 unfold bu;rw [if_neg h,if_neg];rintro (⟨h1,h2⟩ | ⟨h1,h2⟩ | ⟨h1,h2⟩)
 ·have:=hb 0 (by decide) (by unfold kr;simpa using h1);rw [show x.qY 0=x.r from rfl,h2] at this;cases this
 ·have:=hb 1 (by decide) (by unfold kr;simpa using h1);rw [show x.qY 1=x.a from rfl,h2] at this;cases this
 ·have:=hb 2 (by decide) (by unfold kr;simpa using h1);rw [show x.qY 2=x.b from rfl,h2] at this;cases this
end
section
open Go.RowKit
theorem im:∀ (l:List (Int × Int)) (k:Nat) (v:Int × Int),aH (l.set k v)=((aH l).set (k*2) (.int .i64 v.1)).set (k*2+1) (.int .i64 v.2)
 | [],k,v=>by simp [aH]
 | e :: l,0,v=>by rw [Zu,fF,fF];rfl
 | e :: l,k+1,v=>by
  rw [Zv,fF,fF,im l k v];rw [show (k+1)*2=k*2+1+1 by omega]
  rfl
theorem qh {P:Program} {ops:Array Oper} {rest:List Oper} {o:Oper} {a:Act} {w:World} {Q:Exit->Act->World->Prop} (hgd:o.guard=none) (ty:TypeId) (x y:Operand) (ho:o.op=.store ty x y) (hd:o.dst=none)
  (g off n cap k:Nat) (xs:List Value) (e:Nat) (v0 v1:Value) (hx:a.eval x=.pointer (some ⟨g,off+k*2,none⟩)) (hy:a.eval y=.agg #[v0,v1])
  (hs:Sl w e 2 (.slice (some ⟨g,off,none⟩) n cap) n xs) (hk:k<n) (hi:(P.info? ty).map (·.size)=some 2) (h0:v0.oneCell'=true) (h1:v1.oneCell'=true)
  (h:∀ w',Sl w' e 2 (.slice (some ⟨g,off,none⟩) n cap) n ((xs.set (k*2) v0).set (k*2+1) v1)->aa (·=g) w w'->w'.heap.size=w.heap.size->wpList P ops Q rest a w'):wpList P ops Q (o :: rest) a w:=by
 obtain ⟨g',o',cap',cur,e1,hb,hc1,hc2,hc3,hc4⟩:=hs.laid (by omega);cases e1;have hth:w.there g (off+k*2) 2:=λj hj=>by
  have hl:off+k*2+j<cur.length:=by omega
  refine ⟨?_,hb.free _⟩;rw [hb.cell,Le hl];rfl
 refine wpList_store_mid hgd ty x y ho g (off+k*2) #[v0,v1] hx hy hth (by simpa using hi) (all_oneCell_toArray (cs:=[v0,v1]) (by intro v hv;simp at hv;rcases hv with rfl | rfl <;> assumption)) ?_;rw [hd];refine h _ ?_ ?_ ?_
 ·have s1:=hs.set (j:=k*2) (u:=v0) (by omega);have s2:=s1.set (j:=k*2+1) (u:=v1) (by omega);rw [<-Nat.add_assoc] at s2;exact s2
 ·exact ((aa.refl (·=g) w).setCell (p:=⟨g,off+k*2,none⟩) (.inl rfl) v0).setCell (p:=⟨g,off+k*2+1,none⟩) (.inl rfl) v1
 ·show (World.setCell _ _ _).heap.size=_
  simp
theorem cx {P:Program} {o:Oper} {a:Act} {w:World} {K:Act->World->Prop} (ty:TypeId) (x y:Operand) (ho:o.op=.store ty x y) (hd:o.dst=none)
  (g off n cap k:Nat) (xs:List Value) (e:Nat) (v0 v1:Value) (hx:a.eval x=.pointer (some ⟨g,off+k*2,none⟩)) (hy:a.eval y=.agg #[v0,v1])
  (hs:Sl w e 2 (.slice (some ⟨g,off,none⟩) n cap) n xs) (hk:k<n) (hi:(P.info? ty).map (·.size)=some 2) (h0:v0.oneCell'=true) (h1:v1.oneCell'=true)
  (h:∀ w',Sl w' e 2 (.slice (some ⟨g,off,none⟩) n cap) n ((xs.set (k*2) v0).set (k*2+1) v1)->aa (·=g) w w'->w'.heap.size=w.heap.size->K a w'):ax P o a w K:=by
 obtain ⟨g',o',cap',cur,e1,hb,hc1,hc2,hc3,hc4⟩:=hs.laid (by omega);cases e1;have hth:w.there g (off+k*2) 2:=λj hj=>by
  have hl:off+k*2+j<cur.length:=by omega
  refine ⟨?_,hb.free _⟩;rw [hb.cell,Le hl];rfl
 have hh:K a (w.setCells g (off+k*2) [v0,v1]):=by
  refine h _ ?_ ?_ ?_
  ·have s1:=hs.set (j:=k*2) (u:=v0) (by omega);have s2:=s1.set (j:=k*2+1) (u:=v1) (by omega);rw [<-Nat.add_assoc] at s2;exact s2
  ·exact ((aa.refl (·=g) w).setCell (p:=⟨g,off+k*2,none⟩) (.inl rfl) v0).setCell (p:=⟨g,off+k*2+1,none⟩) (.inl rfl) v1
  ·show (World.setCell _ _ _).heap.size=_
   simp
 unfold ax execOp;simp only [ho,hx,hy,Instr.storeAt,Instr.sureAddr,Sem.run_bind,Sem.run_pure,Result.andThen_ok,run_storeVar_mid w g (off+k*2) ty #[v0,v1] hth (by simpa using hi) (all_oneCell_toArray (cs:=[v0,v1]) (by intro v hv;simp at hv;rcases hv with rfl | rfl <;> assumption))]
 first | exact hh | (show K (a.put o.dst undef) _;rw [hd];exact hh)
end
section
open Go.RowKit
theorem aJ (k:Int):bO k=true↔0<=k/\k<12:=by simp [bO]
end
section
open Go.RowKit
theorem CA:madeCells (Value.agg #[Value.int .i64 0,Value.int .i64 0]).cells 24=(aH (List.replicate 12 (0,0))).toArray:=by kernel_rfl
end
section
theorem Bi {l:List Bool} {v:Vl} (h:bY l v=true):v.1=3->aw l v.2=true:=λh3=>by
 unfold bY at h;simpa [h3] using h
theorem pK {W:Wd} {q:List (Int × Int)} {l:List Bool} {i:Int} (hk:(W.th i).k=1\/(W.th i).k=2) {v:Vl} (hv:v ∈ (W.th i).fs):v.1=3->iT W.nd q (λk=>aw l k=true) i v.2:=λh3=>
 .inl ⟨hk,by show (3,v.2) ∈ (W.th i).fs;rw [<-h3];exact hv⟩
theorem yc {W:Wd} {q:List (Int × Int)} {l:List Bool} {i:Int} (hk:(W.th i).k=3) {u v:Vl} (hf:(W.th i).fs=[u,v]):v.1=3->iT W.nd q (λk=>aw l k=true) i v.2:=λh3=>
 .inr (.inl ⟨hk,by show (W.th i).fs[1]? = _;rw [hf,<-h3];rfl⟩)
theorem ud {W:Wd} {q:List (Int × Int)} {l:List Bool} {i:Int} (hk:(W.th i).k=4) {u v:Vl} (hf:(W.th i).fs=[u,v]) (h:bY l u=true):v.1=3->iT W.nd q (λk=>aw l k=true) i v.2:=λh3=>
 .inr (.inr (.inl ⟨hk,by show (W.th i).fs[1]? = _;rw [hf,<-h3];rfl,λx hx h3'=>by
  have hx:(W.th i).fs[0]? = some x:=hx;rw [hf] at hx;simp at hx;subst hx
  exact Bi h h3'⟩))
theorem xj {W:Wd} {q:List (Int × Int)} {l:List Bool} {i:Int} (hk:(W.th i).k=5) {e:Int × Int} (he:e ∈ q) (h1:e.1=i):((3,e.2):Vl).1=3->iT W.nd q (λk=>aw l k=true) i ((3,e.2):Vl).2:=λ_=>
 .inr (.inr (.inr ⟨hk,by rw [<-h1];exact he⟩))
end
section
def az (φ:Int->Int) (v:Vl):Int:=if v.1=3 then 4*φ v.2+1 else if v.1=1 then 4*v.2 else if v.1=2 then 3 else 2
def bs (φ:Int->Int) (e:Int × Int):Int × Int:=(4*φ e.1+1,4*φ e.2+1)
theorem bK (φ:Int->Int) {v:Vl} (h:v.1=3):az φ v=4*φ v.2+1:=if_pos h
theorem fX {W:Wd} {φ:Int->Int} {v:Vl} (h:W.cI v):az φ v%4=1↔v.1=3:=by
 rcases h with h | h | h | h
 ·simp [az,h.1]
 ·simp [az,h.1]
 ·simp [az,h.1]
 ·simp only [az,h.1,if_true,iff_true];omega
theorem kS {φ ψ:Int->Int} {v:Vl} (h:v.1≠3):az φ v=az ψ v:=by simp [az,h]
theorem sQ {W:Wd} {φ:Int->Int} {v:Vl} (h:W.cI v):dA (az φ v)=eX φ v:=by
 rcases h with h | h | h | h
 ·have:v=(0,0):=by cases v;simp_all
  subst this;rfl
 ·have e:az φ v=4*v.2:=by simp [az,h.1]
  rw [e];have h1:(4*v.2)%4=0:=by omega
  have h2:(4*v.2)/4=v.2:=by omega
  have:=tJ (x:=4*v.2) h1 (by rw [h2];exact h.2);unfold dA eX;rw [if_neg (by omega),this,if_neg (by rw [h.1];decide),h2];cases v;simp_all
 ·have:v=(2,0):=by cases v;simp_all
  subst this;rfl
 ·have e:az φ v=4*φ v.2+1:=bK φ h.1;rw [e];unfold dA eX;rw [if_pos (by omega),if_pos h.1];congr 1;omega
def Tile (A:Ar):List Int->Int->Int->Prop
 | [],a,b=>a=b
 | p :: l,a,b=>p=a/\(A.ah p).2.2=0/\Tile A l (p+1+(A.ah p).2.1) b
theorem Tile.le {A:Ar}:∀ {l:List Int} {a b:Int},Tile A l a b->a<=b
 | [],a,b,h=>by have:a=b:=h;omega
 | p :: l,a,b,h=>by
  have:=Tile.le h.2.2;have:=A.aQ p;have:=h.1;omega
theorem Tile.mem {A:Ar}:∀ {l:List Int} {a b:Int},Tile A l a b->∀ p ∈ l,a<=p/\p+1+(A.ah p).2.1<=b/\(A.ah p).2.2=0
 | q :: l,a,b,h,p,hp=>by
  rcases Zm.1 hp with rfl | hp
  ·have:=Tile.le h.2.2;have:=h.1;exact ⟨by omega,by omega,h.2.1⟩
  ·have h1:=Tile.mem h.2.2 p hp;have:=A.aQ q;have:=h.1;exact ⟨by omega,h1.2.1,h1.2.2⟩
theorem Tile.apart {A:Ar}:∀ {l:List Int} {a b:Int},Tile A l a b->l.Pairwise λp q=>p+1+(A.ah p).2.1<=q
 | [],_,_,_=>List.Pairwise.nil
 | p :: l,a,b,h=>List.Pairwise.cons (λq hq=>(Tile.mem h.2.2 q hq).1) (Tile.apart h.2.2)
theorem Tile.congr {A B:Ar}:∀ {l:List Int} {a b:Int},(∀ p ∈ l,B.ah p=A.ah p)->Tile A l a b->Tile B l a b
 | [],_,_,_,h=>h
 | p :: l,a,b,hs,h=>by
  refine ⟨h.1,?_,?_⟩
  ·rw [hs p (by simp)];exact h.2.1
  ·rw [hs p (by simp)];exact Tile.congr (λq hq=>hs q (by simp [hq])) h.2.2
theorem Tile.app {A:Ar} {m:List Int} {c:Int}:∀ {l:List Int} {a b:Int},Tile A l a b->Tile A m b c->Tile A (l ++ m) a c
 | [],a,b,h,k=>by have:a=b:=h;subst this;exact k
 | p :: l,a,b,h,k=>⟨h.1,h.2.1,Tile.app h.2.2 k⟩
theorem Tile.list {A:Ar}:∀ {l:List Int} {a b:Int} {n:Nat},Tile A l a b->(b-a).toNat<=n->A.list n a b=l
 | [],a,b,n,h,hn=>by
  have:a=b:=h;subst this;exact Ar.pW (λh=>by omega)
 | p :: l,a,b,n,h,hn=>by
  have hle:=Tile.le h.2.2;have hf:=A.aQ p;have he:=h.1;subst he;obtain ⟨n,rfl⟩:∃ m,n=m+1:=⟨n-1,by omega⟩;rw [Ar.sC (by omega) h.2.1,Tile.list h.2.2 (by omega)]
theorem Tile.sum {A:Ar}:∀ {l:List Int} {a b:Int},Tile A l a b->b=a+(l.map λp=>1+(A.ah p).2.1).sum
 | [],a,b,h=>by have:a=b:=h;subst this;simp
 | p :: l,a,b,h=>by
  have:=Tile.sum h.2.2;have:=h.1;simp only [Zs,List.sum_cons];omega
theorem Ar.fh {A:Ar} (h:A.ok) (p q x:Int):(A.store p x).load q=if q=p/\A.aM p=true then x else A.load q:=by
 have hu:∀ r,(A.store p x).aM r=A.aM r:=λr=>by
  unfold Ar.aM Ar.aA Ar.aK;rw [A.fH,A.cZ,A.dO]
 unfold Ar.load;rw [hu];by_cases hp:A.aM p=true
 ·have hl:=h.ju hp;have e:A.store p x={ A with ws:=A.ws.set p.toNat x }:=by unfold Ar.store;rw [if_pos hp]
  by_cases hq:A.aM q=true
  ·have hlq:=h.ju hq;rw [if_pos hq,if_pos hq,e]
   show (A.ws.set p.toNat x).getD q.toNat 0=_
   simp only [Ld,List.getElem?_set];by_cases e2:q=p
   ·subst e2;rw [if_pos rfl,if_pos (by omega),if_pos ⟨rfl,hp⟩];rfl
   ·rw [if_neg (by omega),if_neg (λh=>e2 h.1)]
  ·rw [if_neg hq,if_neg hq,if_neg (λhh=>by rw [hh.1] at hq;exact hq hh.2)]
 ·have e:A.store p x=A:=by unfold Ar.store;rw [if_neg hp]
  rw [e,if_neg (λhh:q=p/\A.aM p=true=>hp hh.2)]
end
end Go.Proofs.YtjifdalflepcoadGreat
