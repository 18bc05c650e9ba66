/-
  Parts of the proof, merged: what the functions do, and plain laws.
-/
import Derived.Test.YtjifdalflepcoacGreatTWRP2
set_option maxHeartbeats 16000000
set_option maxRecDepth 100000
set_option linter.unusedVariables false
set_option linter.unusedSimpArgs false
namespace Go.Proofs.YtjifdalflepcoacGreat
section
structure Gs where
 lv:List Bool
 st:List Int
 ep:List Int
def aR (s:Gs) (x:Int):Bool:=!decide (x%4=1) || au s.lv (x/4)
def cJ (s:Gs) (x:Int):Gs:=if aR s x=true then s else ⟨s.lv.set (x/4).toNat true,s.st ++ [x/4],s.ep⟩
def eE (s:Gs) (l:List Int):Gs:=l.foldl cJ s
def jq (A:Ar) (s:Gs) (i:Int):Gs:=
 if (A.ai i).1=1∨(A.ai i).1=2 then eE s (A.fields i)
 else if (A.ai i).1=3 then cJ s (A.load (i+2))
 else if (A.ai i).1=4 then { s with ep:=s.ep ++ [i] }
 else s
def iS (A:Ar) (s:Gs):Gs:=jq A { s with st:=s.st.dropLast } (s.st.getLastD 0)
def jPops (A:Ar):Nat→Gs→Gs
 | 0,s=>s
 | n+1,s=>if s.st=[] then s else jPops A n (iS A s)
def fC (A:Ar) (s:Gs) (i:Int):Gs:=if aR s (A.load (i+1))=true then cJ s (A.load (i+2)) else s
def ic (A:Ar) (s:Gs) (l:List Int):Gs:=l.foldl (fC A) s
def lx (s:Gs) (x:Int):Gs × Int:=(cJ s x,x)
def di (A:Ar) (q:List (Int × Int)) (s:Gs):Gs:=(wakeM aR lx (ic A (jPops A 2000 s) (jPops A 2000 s).ep) q).1
def eF (A:Ar) (q:List (Int × Int)):Nat→Gs→Gs
 | 0,s=>s
 | n+1,s=>if (di A q s).st=[] then di A q s else eF A q n (di A q s)
def iJ (A:Ar) (s:Gs) (q:List (Int × Int)) (x:Int):Gs × List (Int × Int) × Int:=(eF A q 2000 (cJ s x),q,x)
def nY (O:Wo):Gs:=eF O.ar O.wt 2000 (eE ⟨List.replicate O.ar.ws.length false,[],[]⟩ O.rt)
def bV (O:Wo):Gs × List (Int × Int) × List It:=dC aR (iJ O.ar) (nY O) O.rg O.wt
def fD (s:Gs) (x:Int):Int:=x
def jPlan (A:Ar) (lv:List Bool) (base:Int):List Int→List Int × Int→List Int × Int
 | [],t=>t
 | i :: l,t=>jPlan A lv base l (if au lv i=true then (t.1.set i.toNat (base+t.2),t.2+(1+(A.ai i).2.1)) else t)
def cx (f:List Int) (x:Int):Int:=if x%4=1 then g8 (f.getD (x/4).toNat 0) else x
def jr (s:Gs) (f:List Int) (b:Bool) (A:Ar) (i:Int):Ar:=A.store i (if (b || !aR s (A.load i))=true then 3 else cx f (A.load i))
def jTurnN (s:Gs) (f:List Int) (b:Bool):Nat→Ar→Int→Ar
 | 0,A,_=>A
 | n+1,A,i=>jTurnN s f b n (jr s f b A i) (i+1)
def dT (s:Gs) (f:List Int) (A:Ar) (i:Int):Ar:=jTurnN s f (decide ((A.ai i).1=4) && !aR s (A.load (i+1))) (A.ai i).2.1.toNat A (i+1)
def bt (f:List Int) (A:Ar) (i:Int):Ar:=
 { A with ws:=lay A.ws (f.getD i.toNat 0).toNat ((A.ws.drop i.toNat).take (1+(A.ai i).2.1).toNat) }
def lz (O:Wo):List Int:=O.ar.aN.2 ++ O.ar.aN.1
def bQ (O:Wo):List Int:=(lz O).filter fun i=>au (bV O).1.lv i
def dE (O:Wo):List Int × Int:=jPlan O.ar (bV O).1.lv O.ar.nur (lz O) (List.replicate O.ar.ws.length 0,0)
def cu (f:List Int) (e:Int × Int):Int × Int:=(cx f e.1,cx f e.2)
def dJ (O:Wo):Ar:=(bQ O).foldl (dT (bV O).1 (dE O).1) O.ar
def js (O:Wo):Ar:=(bQ O).foldl (bt (dE O).1) (dJ O)
def dU (O:Wo):Int × Wo:=
 if (dE O).2 > ((O.ar.grn:Int)-O.ar.nur)+((O.ar.ws.length:Int)-O.ar.grn) then (3,O)
 else (0,⟨((js O).cut (dE O).2.toNat).clear,O.cd.map fun _=>false,O.rt.map (cx (dE O).1),
  (bq aR fD (bV O).1 (bV O).2.2).map (cu (dE O).1),(bs aR fD (bV O).1 (bV O).2.1).map (cu (dE O).1)⟩)
def bN (l:List Bool):Nat:=(l.filter fun b=>!b).length
theorem mS:∀ {l:List Bool} {i:Nat},i<l.length→l.getD i false=false→bN (l.set i true)+1=bN l
 | [],i,h,_=>by simp at h
 | b :: l,0,_,h=>by
  have hb:b=false:=by simpa using h
  subst hb;simp [bN]
 | b :: l,i+1,h,hv=>by
  have:=mS (l:=l) (i:=i) (by simpa using h) (by simpa using hv);unfold bN at *;rw [List.set_cons_succ];cases b <;> simp [List.filter_cons] <;> omega
theorem z7 (l:List Bool):bN l≤l.length:=List.length_filter_le _ _
def jM (s:Gs):Nat:=s.st.length+bN s.lv
theorem mT:∀ (q:List (Int × Int)) (s:Gs),(wakeM aR lx s q).2.1=q
 | [],s=>rfl
 | e :: q,s=>by
  unfold wakeM;split
  ·simp only [mT q];rfl
  ·simp only [mT q]
def vp (W:Wd) (φ:Int→Int) (s:Gs) (S:Int→Prop) (i:Int):Prop:=
 (((W.th i).k=1∨(W.th i).k=2)→∀ v ∈ (W.th i).fs,v.1=3→S v.2)∧((W.th i).k=3→∀ v,(W.th i).fs[1]? = some v→v.1=3→S v.2)∧((W.th i).k=4→φ i ∈ s.ep)
structure Mk (O:Wo) (W:Wd) (φ:Int→Int) (Al Ex:Int→Prop) (s:Gs) (S:Int→Prop):Prop where
 len:s.lv.length=O.ar.ws.length
 at_:∀ p,au s.lv p=true↔∃ i,S i∧φ i=p
 sl:∀ i,S i→W.live i
 al:∀ i,S i→Al i
 st:∀ p ∈ s.st, ∃ i,S i∧φ i=p
 ep:∀ p ∈ s.ep, ∃ i,S i∧(W.th i).k=4∧φ i=p
 done:∀ i,S i→Ex i∨φ i ∈ s.st∨vp W φ s S i
section
variable {O:Wo} {W:Wd} {φ:Int→Int} {s s':Gs} {S S' Al Ex:Int→Prop} {qw:List (Int × Int)}
theorem Mk.alive (R:aH O W φ) (M:Mk O W φ Al Ex s S) {v:Vl} (hv:W.cC v):aR s (ay φ v)=true↔(v.1=3→S v.2):=by
 unfold aR;by_cases h3:v.1=3
 ·have hl:=Wd.aY hv h3;rw [bF φ h3,show (4*φ v.2+1)%4=1 by omega,show (4*φ v.2+1)/4=φ v.2 by omega];simp only [decide_true,Bool.not_true,Bool.false_or];rw [M.at_];constructor
  ·rintro ⟨i,hi,e⟩ _;rw [←R.inj i v.2 (M.sl i hi) hl e];exact hi
  ·intro h;exact ⟨_,h h3,rfl⟩
 ·have:¬ ay φ v%4=1:=fun h=>h3 ((fM hv).1 h);simp [this,h3]
theorem Mk.eq (M:Mk O W φ Al Ex s S) (h:∀ k,S k↔S' k):Mk O W φ Al Ex s S':=by
 have e:S=S':=funext fun k=>propext (h k);rw [←e];exact M
structure MX (s:Gs) (S:Int→Prop) (s':Gs) (S':Int→Prop):Prop where
 sub:∀ k,S k→S' k
 ep:∀ p ∈ s.ep,p ∈ s'.ep
 m:jM s'=jM s
 f:bN s'.lv≤bN s.lv
theorem MX.refl:MX s S s S:=⟨fun _ h=>h,fun _ h=>h,rfl,Nat.le_refl _⟩
theorem MX.trans {s2:Gs} {S2:Int→Prop} (h:MX s S s' S') (k:MX s' S' s2 S2):MX s S s2 S2:=
 ⟨fun i hi=>k.sub i (h.sub i hi),fun p hp=>k.ep p (h.ep p hp),k.m.trans h.m,Nat.le_trans k.f h.f⟩
theorem Mk.mark (R:aH O W φ) (M:Mk O W φ Al Ex s S) {v:Vl} (hv:W.cC v) (ha:v.1=3→Al v.2) :
  Mk O W φ Al Ex (cJ s (ay φ v)) (fun k=>S k∨(v.1=3∧k=v.2))∧MX s S (cJ s (ay φ v)) (fun k=>S k∨(v.1=3∧k=v.2))∧(cJ s (ay φ v)).ep=s.ep ∧
   ((∀ p ∈ s.st,p ∈ (cJ s (ay φ v)).st)∧∀ p ∈ (cJ s (ay φ v)).st,p ∈ s.st∨∃ k,¬ S k∧v.1=3∧k=v.2):=by
 by_cases hc:aR s (ay φ v)=true
 ·have e:cJ s (ay φ v)=s:=if_pos hc;have h:=(M.alive R hv).1 hc;rw [e];refine ⟨M.eq (fun k=>⟨.inl,?_⟩),⟨fun k h=>.inl h,fun _ h=>h,rfl,Nat.le_refl _⟩,rfl,fun _ h=>h,fun _ h=>.inl h⟩;rintro (h' | ⟨h',rfl⟩)
  ·exact h'
  ·exact h h'
 ·have hn:¬ (v.1=3→S v.2):=fun h=>hc ((M.alive R hv).2 h);have h3:v.1=3:=Decidable.byContradiction fun h=>hn (fun h'=>(h h').elim);have hs:¬ S v.2:=fun h=>hn (fun _=>h);have hl:=Wd.aY hv h3;have e:cJ s (ay φ v)=⟨s.lv.set (φ v.2).toNat true,s.st ++ [φ v.2],s.ep⟩:=by
   unfold cJ;rw [if_neg hc,bF φ h3,show (4*φ v.2+1)/4=φ v.2 by omega]
  have hp:=R.place hl;have hset:∀ p,au (s.lv.set (φ v.2).toNat true) p=true↔p=φ v.2∨au s.lv p=true:=fun p=>gL hp.1 (by rw [M.len];exact hp.2.2);have hold:s.lv.getD (φ v.2).toNat false=false:=by
   cases h:s.lv.getD (φ v.2).toNat false
   ·rfl
   ·rw [dh hp.1] at h;obtain ⟨i,hi,e⟩:=(M.at_ _).1 h;rw [R.inj i v.2 (M.sl i hi) hl e] at hi;exact (hs hi).elim
  rw [e];refine ⟨⟨by simpa using M.len,fun p=>?_,fun i hi=>?_,fun i hi=>?_,fun p hp=>?_,fun p hp=>?_,fun i hi=>?_⟩,⟨fun k h=>.inl h,fun _ h=>h,?_,?_⟩,rfl,fun p hp=>by simp [hp],fun p hp=>?_⟩
  ·dsimp only;rw [hset,M.at_];constructor
   ·rintro (h | ⟨i,hi,e⟩)
    ·exact ⟨v.2, .inr ⟨h3,rfl⟩,h.symm⟩
    ·exact ⟨i, .inl hi,e⟩
   ·rintro ⟨i,hi | ⟨_,rfl⟩,e⟩
    ·exact .inr ⟨i,hi,e⟩
    ·exact .inl e.symm
  ·rcases hi with h | ⟨_,rfl⟩
   ·exact M.sl i h
   ·exact hl
  ·rcases hi with h | ⟨h,rfl⟩
   ·exact M.al i h
   ·exact ha h
  ·rcases List.mem_append.1 hp with h | h
   ·obtain ⟨i,hi,e⟩:=M.st p h;exact ⟨i, .inl hi,e⟩
   ·rw [List.mem_singleton.1 h];exact ⟨v.2, .inr ⟨h3,rfl⟩,rfl⟩
  ·obtain ⟨i,hi,e⟩:=M.ep p hp;exact ⟨i, .inl hi,e⟩
  ·rcases hi with h | ⟨_,rfl⟩
   ·rcases M.done i h with h1 | h1 | h1
    ·exact .inl h1
    ·exact .inr (.inl (by simp [h1]))
    ·exact .inr (.inr ⟨fun hk v hv h3=>.inl (h1.1 hk v hv h3),fun hk v hv h3=>.inl (h1.2.1 hk v hv h3),h1.2.2⟩)
   ·exact .inr (.inl (by simp))
  ·have:=mS (l:=s.lv) (i:=(φ v.2).toNat) (by rw [M.len];omega) hold;simp only [jM,List.length_append,List.length_cons,List.length_nil];omega
  ·have:=mS (l:=s.lv) (i:=(φ v.2).toNat) (by rw [M.len];omega) hold;dsimp only;omega
  ·rcases List.mem_append.1 hp with h | h
   ·exact .inl h
   ·exact .inr ⟨v.2,hs,h3,rfl⟩
theorem Mk.marks (R:aH O W φ):∀ (l:List Vl) {s:Gs} {S:Int→Prop},Mk O W φ Al Ex s S→(∀ v ∈ l,W.cC v∧(v.1=3→Al v.2)) →
  ∃ S',Mk O W φ Al Ex (eE s (l.map (ay φ))) S'∧MX s S (eE s (l.map (ay φ))) S'∧(eE s (l.map (ay φ))).ep=s.ep∧(∀ v ∈ l,v.1=3→S' v.2)∧∀ k,S' k→S k∨((3,k):Vl) ∈ l
 | [],s,S,M,_=>⟨S,M,MX.refl,rfl,by simp,fun k h=>.inl h⟩
 | v :: l,s,S,M,hl=>by
  have hv:=hl v (by simp);obtain ⟨M1,X1,e1,_,_⟩:=M.mark R hv.1 hv.2;obtain ⟨S2,M2,X2,e2,k2,b2⟩:=Mk.marks R l M1 (fun u hu=>hl u (by simp [hu]));have e:eE s ((v :: l).map (ay φ))=eE (cJ s (ay φ v)) (l.map (ay φ)):=rfl;rw [e];refine ⟨S2,M2,X1.trans X2,e2.trans e1,fun u hu h3=>?_,fun k hk=>?_⟩
  ·rcases List.mem_cons.1 hu with rfl | hu
   ·exact X2.sub _ (.inr ⟨h3,rfl⟩)
   ·exact k2 u hu h3
  ·rcases b2 k hk with (h | ⟨h,rfl⟩) | h
   ·exact .inl h
   ·exact .inr (by rw [←h];simp)
   ·exact .inr (by simp [h])
theorem vp.mono {i:Int} (h:vp W φ s S i) (hS:∀ k,S k→S' k) (he:∀ p ∈ s.ep,p ∈ s'.ep):vp W φ s' S' i:=
 ⟨fun hk v hv h3=>hS _ (h.1 hk v hv h3),fun hk v hv h3=>hS _ (h.2.1 hk v hv h3),fun hk=>he _ (h.2.2 hk)⟩
theorem nZ {l:List Int} (h:l≠[]):l.getLastD 0 ∈ l∧l=l.dropLast ++ [l.getLastD 0]:=by
 have e:l.getLastD 0=l.getLast h:=by
  cases l with
  | nil=>exact (h rfl).elim
  | cons a l=>rw [List.getLastD_cons,List.getLast_eq_getLastD]
 rw [e];exact ⟨List.getLast_mem h,(List.dropLast_concat_getLast h).symm⟩
theorem Mk.pop (R:aH O W φ) (hal:cj W.nd qw Al) (M:Mk O W φ Al Ex s S) (hne:s.st≠[]) :
  ∃ S',Mk O W φ Al Ex (iS O.ar s) S'∧(∀ k,S k→S' k)∧(∀ p ∈ s.ep,p ∈ (iS O.ar s).ep)∧jM (iS O.ar s)+1=jM s∧bN (iS O.ar s).lv≤bN s.lv:=by
 obtain ⟨hm,he⟩:=nZ hne;obtain ⟨i,hi,hp⟩:=M.st _ hm;have hl:=M.sl i hi;have hth:=R.th i hl;have hmm:jM { s with st:=s.st.dropLast } + 1=jM s:=by
  unfold jM;dsimp only;rw [List.length_dropLast];have:0<s.st.length:=List.length_pos_iff.2 hne;omega
 have M0:Mk O W φ Al (fun k=>Ex k∨k=i) { s with st:=s.st.dropLast } S:=⟨M.len,M.at_,M.sl,M.al,fun p hp=>M.st p (by rw [he];simp [show p ∈ s.st.dropLast from hp]),M.ep,fun k hk=>by
  rcases M.done k hk with h | h | h
  ·exact .inl (.inl h)
  ·by_cases ek:k=i
   ·exact .inl (.inr ek)
   ·rw [he] at h;rcases List.mem_append.1 h with h | h
    ·exact .inr (.inl h)
    ·exact (ek (R.inj k i (M.sl k hk) hl (by rw [List.mem_singleton.1 h,←hp]))).elim
  ·exact .inr (.inr h)⟩
 generalize hs0:({ s with st:=s.st.dropLast }:Gs)=s0 at *;have hep:s0.ep=s.ep:=by rw [←hs0]
 have hlv:s0.lv=s.lv:=by rw [←hs0]
 have fin:∀ {t:Gs} {T:Int→Prop},Mk O W φ Al (fun k=>Ex k∨k=i) t T→vp W φ t T i→Mk O W φ Al Ex t T:=fun {t T} M1 hL=>
  ⟨M1.len,M1.at_,M1.sl,M1.al,M1.st,M1.ep,fun k hk=>by
   rcases M1.done k hk with (h | rfl) | h
   ·exact .inl h
   ·exact .inr (.inr hL)
   ·exact .inr h⟩
 have okf:∀ v ∈ (W.th i).fs,W.cC v:=fun v hv=>R.hw.tv i hl v hv;unfold iS;rw [hs0,←hp];unfold jq;rw [hth];dsimp only;by_cases k12:(W.th i).k=1∨(W.th i).k=2
 ·rw [if_pos k12,R.fields hl];obtain ⟨S1,M1,X1,e1,k1,b1⟩:=Mk.marks R (W.th i).fs M0 (fun v hv=>⟨okf v hv,fun h3=>hal i _ (M.al i hi) (.inl ⟨k12,by show ((3,v.2):Vl) ∈ (W.th i).fs;rw [←h3];exact hv⟩)⟩);refine ⟨S1,fin M1 ⟨fun _=>k1,fun h=>by omega,fun h=>by omega⟩,X1.sub,fun p hp=>by rw [e1,hep];exact hp,by rw [X1.m];exact hmm,by rw [←hlv];exact X1.f⟩
 ·rw [if_neg k12];by_cases k3:(W.th i).k=3
  ·rw [if_pos k3];have h2:=Wd.two R.hw hl (.inl k3);have hj:(W.th i).fs[1]? = some (W.th i).fs[1]:=Le (by omega);have hld:=R.fl i hl 1 _ hj;rw [show φ i+1+((1:Nat):Int)=φ i+2 by omega] at hld;rw [hld];obtain ⟨M1,X1,e1,_⟩:=M0.mark R (okf _ (List.mem_of_getElem? hj)) (fun h3=>hal i _ (M.al i hi) (.inr (.inl ⟨k3,by
    show (W.th i).fs[1]? = _
    rw [hj];congr 1;exact Prod.ext h3 rfl⟩)))
   refine ⟨_,fin M1 ⟨fun h=>(k12 h).elim,fun _ v hv h3=>?_,fun h=>by omega⟩,X1.sub,fun p hp=>by rw [e1,hep];exact hp,by rw [X1.m];exact hmm,by rw [←hlv];exact X1.f⟩;rw [hj] at hv;cases hv;exact .inr ⟨h3,rfl⟩
  ·rw [if_neg k3];by_cases k4:(W.th i).k=4
   ·rw [if_pos k4];have M1:Mk O W φ Al (fun k=>Ex k∨k=i) { s0 with ep:=s0.ep ++ [φ i] } S:=⟨M0.len,M0.at_,M0.sl,M0.al,M0.st,fun p hp=>by
     rcases List.mem_append.1 hp with h | h
     ·exact M0.ep p h
     ·rw [List.mem_singleton.1 h];exact ⟨i,hi,k4,rfl⟩,fun k hk=>by
     rcases M0.done k hk with h | h | h
     ·exact .inl h
     ·exact .inr (.inl h)
     ·exact .inr (.inr (h.mono (fun _ h=>h) (fun p hp=>by simp [hp])))⟩
    exact ⟨S,fin M1 ⟨fun h=>(k12 h).elim,fun h=>(k3 h).elim,fun _=>by simp⟩,fun _ h=>h,fun p hp=>by rw [←hep] at hp;simp [hp],hmm,by rw [←hlv];exact Nat.le_refl _⟩
   ·rw [if_neg k4];exact ⟨S,fin M0 ⟨fun h=>(k12 h).elim,fun h=>(k3 h).elim,fun h=>(k4 h).elim⟩,fun _ h=>h,fun p hp=>by rw [hep];exact hp,hmm,by rw [←hlv];exact Nat.le_refl _⟩
theorem Mk.n8 (R:aH O W φ) (hal:cj W.nd qw Al):∀ (n:Nat) {s:Gs} {S:Int→Prop},Mk O W φ Al Ex s S→jM s<n →
  ∃ S',Mk O W φ Al Ex (jPops O.ar n s) S'∧(∀ k,S k→S' k)∧(∀ p ∈ s.ep,p ∈ (jPops O.ar n s).ep)∧(jPops O.ar n s).st=[]∧bN (jPops O.ar n s).lv≤bN s.lv
 | 0,s,S,M,hn=>by omega
 | n+1,s,S,M,hn=>by
  unfold jPops;by_cases hne:s.st=[]
  ·rw [if_pos hne];exact ⟨S,M,fun _ h=>h,fun _ h=>h,hne,Nat.le_refl _⟩
  ·rw [if_neg hne];obtain ⟨S1,M1,s1,e1,m1,f1⟩:=M.pop R hal hne;obtain ⟨S2,M2,s2,e2,t2,f2⟩:=Mk.n8 R hal n M1 (by omega);exact ⟨S2,M2,fun k hk=>s2 k (s1 k hk),fun p hp=>e2 p (e1 p hp),t2,by omega⟩
theorem Mk.mR (R:aH O W φ) (hal:cj W.nd qw Al):∀ (l:List Int) {s:Gs} {S:Int→Prop},Mk O W φ Al Ex s S→(∀ p ∈ l, ∃ i,S i∧(W.th i).k=4∧φ i=p) →
  ∃ S',Mk O W φ Al Ex (ic O.ar s l) S'∧MX s S (ic O.ar s l) S'∧(ic O.ar s l).ep=s.ep ∧
   ∀ i,S i→(W.th i).k=4→φ i ∈ l→(∀ v,(W.th i).fs[0]? = some v→v.1=3→S v.2)→∀ v,(W.th i).fs[1]? = some v→v.1=3→S' v.2
 | [],s,S,M,hl=>⟨S,M,MX.refl,rfl,fun i _ _ h=>by cases h⟩
 | p :: l,s,S,M,hl=>by
  obtain ⟨i,hi,k4,rfl⟩:=hl p (by simp);have hli:=M.sl i hi;have h2:=Wd.two R.hw hli (.inr (.inl k4));have hj0:(W.th i).fs[0]? = some (W.th i).fs[0]:=Le (by omega);have hj1:(W.th i).fs[1]? = some (W.th i).fs[1]:=Le (by omega);have ok0:=R.hw.tv i hli _ (List.mem_of_getElem? hj0);have ok1:=R.hw.tv i hli _ (List.mem_of_getElem? hj1);have l0:=R.fl i hli 0 _ hj0;have l1:=R.fl i hli 1 _ hj1;rw [show φ i+1+((0:Nat):Int)=φ i+1 by omega] at l0;rw [show φ i+1+((1:Nat):Int)=φ i+2 by omega] at l1;have step:∃ S1,Mk O W φ Al Ex (fC O.ar s (φ i)) S1∧MX s S (fC O.ar s (φ i)) S1∧(fC O.ar s (φ i)).ep=s.ep∧((∀ v,(W.th i).fs[0]? = some v→v.1=3→S v.2)→∀ v,(W.th i).fs[1]? = some v→v.1=3→S1 v.2):=by
   unfold fC;rw [l0,l1];have ha:=M.alive R ok0;by_cases hm:aR s (ay φ (W.th i).fs[0])=true
   ·rw [if_pos hm];obtain ⟨M1,X1,e1,_⟩:=M.mark R ok1 (fun h3=>hal i _ (M.al i hi) (.inr (.inr (.inl ⟨k4,by
     show (W.th i).fs[1]? = _
     rw [hj1];congr 1;exact Prod.ext h3 rfl,fun v hv h5=>by
     have hv':(W.th i).fs[0]? = some v:=hv;rw [hj0] at hv';cases hv'
     exact M.al _ (ha.1 hm h5)⟩))))
    exact ⟨_,M1,X1,e1,fun _ v hv h3=>by rw [hj1] at hv;cases hv;exact .inr ⟨h3,rfl⟩⟩
   ·rw [if_neg hm];exact ⟨S,M,MX.refl,rfl,fun h=>(hm (ha.2 (fun h3=>h _ hj0 h3))).elim⟩
  obtain ⟨S1,M1,X1,e1,k1⟩:=step;obtain ⟨S2,M2,X2,e2,k2⟩:=Mk.mR R hal l M1 (fun p hp=>by
   obtain ⟨k,h3,h4,h5⟩:=hl p (by simp [hp])
   exact ⟨k,X1.sub k h3,h4,h5⟩)
  have e:ic O.ar s (φ i :: l)=ic O.ar (fC O.ar s (φ i)) l:=rfl;rw [e];refine ⟨S2,M2,X1.trans X2,e2.trans e1,fun k hk k4' hkl hkey v hv h3=>?_⟩;rcases List.mem_cons.1 hkl with h | h
  ·have:=R.inj k i (M.sl k hk) hli h;subst this;exact X2.sub _ (k1 hkey v hv h3)
  ·exact k2 k (X1.sub k hk) k4' h (fun v hv h3=>X1.sub _ (hkey v hv h3)) v hv h3
theorem Mk.e6 (R:aH O W φ) (hal:cj W.nd qw Al) (hqw:∀ e ∈ qw,W.dD e):∀ (m:List (Int × Int)) {s:Gs} {S:Int→Prop},Mk O W φ Al Ex s S→(∀ f ∈ m,f ∈ qw) →
  ∃ S',Mk O W φ Al Ex (wakeM aR lx s (m.map (bp φ))).1 S'∧MX s S (wakeM aR lx s (m.map (bp φ))).1 S'∧∀ f ∈ m,S f.1→S' f.2
 | [],s,S,M,hm=>⟨S,M,MX.refl,fun f h=>by cases h⟩
 | f :: m,s,S,M,hm=>by
  have hf:=hqw f (hm f (by simp));have okg:W.cC (3,f.1):=.inr (.inr (.inr ⟨rfl,hf.1⟩));have okt:W.cC (3,f.2):=.inr (.inr (.inr ⟨rfl,hf.2.2⟩));have ag:=M.alive R okg;have at_:=M.alive R okt;simp only [forall_const] at ag at_;rw [List.map_cons];unfold wakeM;rw [dI];dsimp only;by_cases hc:(aR s (ay φ (3,f.1)) && !aR s (ay φ (3,f.2)))=true
  ·rw [if_pos hc];rw [Bool.and_eq_true] at hc;have hg:=ag.1 hc.1;obtain ⟨M1,X1,e1,_⟩:=M.mark R okt (fun _=>hal f.1 _ (M.al _ hg) (.inr (.inr (.inr ⟨hf.2.1,by show (f.1,f.2) ∈ qw;exact hm f (by simp)⟩))));obtain ⟨S2,M2,X2,k2⟩:=Mk.e6 R hal hqw m M1 (fun f hf=>hm f (by simp [hf]));refine ⟨S2,M2,X1.trans X2,fun f' hf' hs=>?_⟩;rcases List.mem_cons.1 hf' with rfl | h
   ·exact X2.sub _ (.inr ⟨rfl,rfl⟩)
   ·exact k2 f' h (X1.sub _ hs)
  ·rw [if_neg hc];obtain ⟨S2,M2,X2,k2⟩:=Mk.e6 R hal hqw m M (fun f hf=>hm f (by simp [hf]));refine ⟨S2,M2,X2,fun f' hf' hs=>?_⟩;rcases List.mem_cons.1 hf' with rfl | h
   ·have h1:=ag.2 hs;rw [h1] at hc;simp at hc;exact X2.sub _ (at_.1 hc)
   ·exact k2 f' h hs
theorem r9:∀ {l m:List Bool},l.length=m.length→(∀ i,l.getD i false=true→m.getD i false=true)→bN m≤bN l∧(bN m=bN l→m=l)
 | [],[],_,_=>⟨Nat.le_refl _,fun _=>rfl⟩
 | a :: l,b :: m,hl,h=>by
  have ih:=r9 (l:=l) (m:=m) (by simpa using hl) (fun i hi=>by have:=h (i+1);simpa using this (by simpa using hi));have h0:=h 0;simp only [List.getD_cons_zero] at h0;unfold bN at *;cases a <;> cases b <;> simp [List.filter_cons] at * <;> first | exact ih | (refine ⟨by omega,fun h=>by omega⟩)
 | [],b :: m,hl,_=>by simp at hl
 | a :: l,[],hl,_=>by simp at hl
theorem Mk.same (R:aH O W φ) (M:Mk O W φ Al Ex s S) (M':Mk O W φ Al Ex s' S') (X:MX s S s' S') (h1:s.st=[]) (h2:s'.st=[]):∀ k,S' k→S k:=by
 have hm:=X.m;unfold jM at hm;rw [h1,h2] at hm;simp only [List.length_nil,Nat.zero_add] at hm;have e:=(r9 (l:=s.lv) (m:=s'.lv) (M.len.trans M'.len.symm) (fun i hi=>by
  rw [←dH] at hi ⊢;obtain ⟨k,hk,e⟩:=(M.at_ _).1 hi
  exact (M'.at_ _).2 ⟨k,X.sub k hk,e⟩)).2 hm
 intro k hk;have h3:au s.lv (φ k)=true:=by rw [←e];exact (M'.at_ _).2 ⟨k,hk,rfl⟩
 obtain ⟨j,hj,ej⟩:=(M.at_ _).1 h3;rw [←R.inj j k (M.sl j hj) (M'.sl k hk) ej];exact hj
theorem vX {A:Ar}:∀ (n:Nat) {s:Gs},s.st=[]→jPops A n s=s
 | 0,s,h=>rfl
 | n+1,s,h=>by unfold jPops;rw [if_pos h]
theorem Mk.round (R:aH O W φ) (hal:cj W.nd qw Al) (hqw:∀ e ∈ qw,W.dD e) (M:Mk O W φ Al (fun _=>False) s S) (hm:jM s<2000) :
  ∃ S',Mk O W φ Al (fun _=>False) (di O.ar (qw.map (bp φ)) s) S'∧(∀ k,S k→S' k)∧jM (di O.ar (qw.map (bp φ)) s)≤bN s.lv∧((di O.ar (qw.map (bp φ)) s).st=[]→cj W.nd qw S'):=by
 obtain ⟨S1,M1,s1,e1,t1,f1⟩:=M.n8 R hal 2000 hm;obtain ⟨S2,M2,X2,e2,k2⟩:=Mk.mR R hal (jPops O.ar 2000 s).ep M1 M1.ep;obtain ⟨S3,M3,X3,k3⟩:=Mk.e6 R hal hqw qw M2 (fun f h=>h);have X:=X2.trans X3;have e:di O.ar (qw.map (bp φ)) s=(wakeM aR lx (ic O.ar (jPops O.ar 2000 s) (jPops O.ar 2000 s).ep) (qw.map (bp φ))).1:=rfl;rw [e];refine ⟨S3,M3,fun k hk=>X.sub k (s1 k hk),?_,fun hst=>?_⟩
 ·rw [X.m];unfold jM;rw [t1];simpa using f1
 ·have b1:=M1.same R M3 X t1 hst;have b2:∀ k,S3 k→S2 k:=fun k hk=>X2.sub k (b1 k hk);intro i j hi hl;have hi1:=b1 i hi;have L:vp W φ (jPops O.ar 2000 s) S1 i:=by
   rcases M1.done i hi1 with h | h | h
   ·exact h.elim
   ·rw [t1] at h;cases h
   ·exact h
  have up:∀ k,S1 k→S3 k:=X.sub;rcases hl with ⟨hk,hm⟩ | ⟨hk,hm⟩ | ⟨hk,hm,hkey⟩ | ⟨hk,hm⟩
  ·exact up _ (L.1 hk (3,j) hm rfl)
  ·exact up _ (L.2.1 hk (3,j) hm rfl)
  ·exact X3.sub _ (k2 i hi1 hk (L.2.2 hk) (fun v hv h3=>b1 _ (hkey v hv h3)) (3,j) hm rfl)
  ·exact k3 (i,j) hm (b2 i hi)
theorem Mk.drain (R:aH O W φ) (hal:cj W.nd qw Al) (hqw:∀ e ∈ qw,W.dD e):∀ (n:Nat) {s:Gs} {S:Int→Prop},Mk O W φ Al (fun _=>False) s S→jM s<2000→bN s.lv<n →
  ∃ S',Mk O W φ Al (fun _=>False) (eF O.ar (qw.map (bp φ)) n s) S'∧(∀ k,S k→S' k)∧(eF O.ar (qw.map (bp φ)) n s).st=[]∧cj W.nd qw S'
 | 0,s,S,M,hm,hn=>by omega
 | n+1,s,S,M,hm,hn=>by
  obtain ⟨S1,M1,s1,m1,c1⟩:=M.round R hal hqw hm;unfold eF;by_cases hst:(di O.ar (qw.map (bp φ)) s).st=[]
  ·rw [if_pos hst];exact ⟨S1,M1,s1,hst,c1 hst⟩
  ·rw [if_neg hst];have hpos:=List.length_pos_iff.2 hst;unfold jM at m1 hm;obtain ⟨S2,M2,s2,t2,c2⟩:=Mk.drain R hal hqw n M1 (by unfold jM;omega) (by omega);exact ⟨S2,M2,fun k hk=>s2 k (s1 k hk),t2,c2⟩
structure Js (O:Wo) (W:Wd) (φ:Int→Int) (s:Gs) (is:List Bool) (qw:List (Int × Int)):Prop where
 M:Mk O W φ (fun k=>au is k=true) (fun _=>False) s (fun k=>au is k=true)
 st:s.st=[]
 shut:cj W.nd qw fun k=>au is k=true
 len:is.length=W.T.length
 ok:∀ e ∈ qw,W.dD e
theorem Mk.mQ (M:Mk O W φ Al Ex s S) {Bl:Int→Prop} (h:∀ k,S k→Bl k):Mk O W φ Bl Ex s S:=⟨M.len,M.at_,M.sl,h,M.st,M.ep,M.done⟩
theorem Mk.qG (R:aH O W φ) (hqw:∀ e ∈ qw,W.dD e) {is:List Bool} (hlen:is.length=W.T.length) (hS:∀ k,S k↔au is k=true)
  (M:Mk O W φ Al (fun _=>False) s S) (hm:jM s≤1280):Js O W φ (eF O.ar (qw.map (bp φ)) 2000 s) (W.cT qw is) qw:=by
 have M':=M.mQ (Bl:=fun k=>cI W.nd qw (fun k=>au is k=true) k) (fun k hk=>cI.base ((hS k).1 hk));obtain ⟨S1,M1,s1,t1,c1⟩:=M'.drain R (cI.closed W.nd qw _) hqw 2000 (by omega) (by unfold jM at hm;omega);have e:S1=fun k=>au (W.cT qw is) k=true:=by
  funext k
  refine propext ⟨fun hk=>?_,fun hk=>?_⟩
  ·have hl:=M1.sl k hk;exact cW.2 ⟨hl.1,by rw [hlen];exact hl.2.1,M1.al k hk⟩
  ·exact (cW.1 hk).2.2.least (fun j hj=>s1 j ((hS j).2 hj)) c1
 subst e;exact ⟨M1.mQ (fun k hk=>hk),t1,c1,by unfold Wd.cT;rw [eW,hlen],hqw⟩
theorem Js.m {is:List Bool} (h:Js O W φ s is qw) (hO:O.ok):jM s≤1280:=by
 unfold jM;rw [h.st];have:=z7 s.lv;have:=h.M.len;have:=hO.ha.h4;simp;omega
theorem tw (n:Nat):bN (List.replicate n false)=n:=by unfold bN;simp
theorem aH.CK (R:aH O W φ):Js O W φ (nY O) (W.cT W.wait (W.first true)) W.wait:=by
 have hflen:(W.first true).length=W.T.length:=Wd.fU W true;have M0:Mk O W φ (fun _=>True) (fun _=>False) ⟨List.replicate O.ar.ws.length false,[],[]⟩ (fun _=>False):=
  ⟨by simp,fun p=>by
   constructor
   ·intro h;unfold au at h;simp only [Ld,List.getElem?_replicate] at h;split at h <;> simp at h
   ·rintro ⟨_,h,_⟩;exact h.elim,fun _ h=>h.elim,fun _ h=>h.elim,(by intro p h;cases h),(by intro p h;cases h),fun _ h=>h.elim⟩
 obtain ⟨S1,M1,X1,e1,k1,b1⟩:=Mk.marks R W.roots M0 (fun v hv=>⟨R.hw.rv v hv,fun _=>trivial⟩);have hS1:∀ k,S1 k↔au (W.first true) k=true:=fun k=>by
  rw [Wd.iN];constructor
  ·intro hk;have hl:=M1.sl k hk;refine ⟨hl.1,hl.2.1, .inr ?_⟩;rcases b1 k hk with h | h
   ·exact h.elim
   ·exact h
  ·rintro ⟨h0,h4,h5 | h5⟩
   ·cases h5.2.2
   ·exact k1 _ h5 rfl
 unfold nY;rw [R.wt,R.rt];refine M1.qG R R.hw.wv hflen hS1 ?_;rw [X1.m];unfold jM;dsimp only;rw [tw];have:=R.ho.ha.h4;simp;omega
theorem Js.ab (R:aH O W φ) {is:List Bool} (P:Js O W φ s is qw) {x g:Int} (hx:W.live x) (hg:W.live g) (hk:(W.th g).k=5) :
  Js O W φ (iJ O.ar s (qw.map (bp φ)) (ay φ (3,x))).1 (W.cT qw (is.set x.toNat true)) (qw ++ [(g,x)]):=by
 have okx:W.cC (3,x):=.inr (.inr (.inr ⟨rfl,hx⟩));obtain ⟨M1,X1,e1,_⟩:=(P.M.mQ (Bl:=fun _=>True) (fun _ _=>trivial)).mark R okx (fun _=>trivial);have hS1:∀ k,(au is k=true∨((3:Int)=3∧k=x))↔au (is.set x.toNat true) k=true:=fun k=>by
  rw [gL hx.1 (by rw [P.len];exact hx.2.1)];constructor
  ·rintro (h | ⟨_,h⟩)
   ·exact .inr h
   ·exact .inl h
  ·rintro (h | h)
   ·exact .inr ⟨rfl,h⟩
   ·exact .inl h
 have P2:=M1.qG R P.ok (by rw [List.length_set];exact P.len) hS1 (by rw [X1.m];exact P.m R.ho);have hxin:au (W.cT qw (is.set x.toNat true)) x=true:=cW.2 ⟨hx.1,by rw [List.length_set,P.len];exact hx.2.1,cI.base ((hS1 x).1 (.inr ⟨rfl,rfl⟩))⟩;refine ⟨P2.M,P2.st,?_,P2.len,fun e he=>?_⟩
 ·intro a b ha hl;by_cases hb:b=x
  ·subst hb;exact hxin
  ·refine P2.shut a b ha ?_;rcases hl with h | h | h | ⟨h,h'⟩
   ·exact .inl h
   ·exact .inr (.inl h)
   ·exact .inr (.inr (.inl h))
   ·refine .inr (.inr (.inr ⟨h,?_⟩));rcases List.mem_append.1 h' with h4 | h4
    ·exact h4
    ·simp at h4;exact absurd h4.2 hb
 ·rcases List.mem_append.1 he with h | h
  ·exact P.ok e h
  ·rw [List.mem_singleton.1 h];exact ⟨hg,hk,hx⟩
theorem Js.alive (R:aH O W φ) {is:List Bool} (P:Js O W φ s is qw) {x:Int} (hx:W.live x):aR s (ay φ (3,x))=au is x:=by
 have:=P.M.alive R (v:=(3,x)) (.inr (.inr (.inr ⟨rfl,hx⟩)));simp only [forall_const] at this;rw [Bool.eq_iff_iff];exact this
theorem Js.scan (R:aH O W φ):∀ (l:List It) {s:Gs} {is:List Bool} {qw:List (Int × Int)},Js O W φ s is qw→(∀ i ∈ l,W.dD i.1) →
  Js O W φ (scanM aR (iJ O.ar) s (qw.map (bp φ)) (l.map (cR φ))).1 (scanM au W.bY is qw l).1 (scanM au W.bY is qw l).2.1 ∧
   (scanM aR (iJ O.ar) s (qw.map (bp φ)) (l.map (cR φ))).2.1=(scanM au W.bY is qw l).2.1.map (bp φ) ∧
   (scanM aR (iJ O.ar) s (qw.map (bp φ)) (l.map (cR φ))).2.2.1=(scanM au W.bY is qw l).2.2.1.map (cR φ)∧(scanM aR (iJ O.ar) s (qw.map (bp φ)) (l.map (cR φ))).2.2.2=(scanM au W.bY is qw l).2.2.2
 | [],s,is,qw,P,_=>⟨P,rfl,rfl,rfl⟩
 | i :: l,s,is,qw,P,hl=>by
  have hi:=hl i (by simp);have ea:aR s (cR φ i).1.1=au is i.1.1:=by
   show aR s (bp φ i.1).1=_
   rw [dI];exact P.alive R hi.1
  simp only [List.map_cons,scanM];rw [ea];have e2:(cR φ i).2=i.2:=rfl;rw [e2];by_cases hc:(i.2.1 && !i.2.2 && au is i.1.1)=true
  ·rw [if_pos hc,if_pos hc];have P1:=P.ab R hi.2.2 hi.1 hi.2.1;have e3:(cR φ i).1.2=ay φ (3,i.1.2):=by show (bp φ i.1).2=_;rw [dI]
   have e4:(cR φ i).1.1=ay φ (3,i.1.1):=by show (bp φ i.1).1=_;rw [dI]
   have eq1:(iJ O.ar s (qw.map (bp φ)) (cR φ i).1.2).2.1 ++ [((cR φ i).1.1,(iJ O.ar s (qw.map (bp φ)) (cR φ i).1.2).2.2)]=(qw ++ [(i.1.1,i.1.2)]).map (bp φ):=by
    rw [List.map_append]
    show qw.map (bp φ) ++ [((cR φ i).1.1,(cR φ i).1.2)]=_
    rfl
   rw [eq1,e3];obtain ⟨P2,h0,h1,h2⟩:=Js.scan R l P1 (fun j hj=>hl j (by simp [hj]));refine ⟨P2,h0,?_,rfl⟩;dsimp only;rw [h1];rfl
  ·rw [if_neg hc,if_neg hc];obtain ⟨P2,h0,h1,h2⟩:=Js.scan R l P (fun j hj=>hl j (by simp [hj]));refine ⟨P2,h0,?_,h2⟩;dsimp only;rw [h1];rfl
theorem Js.rounds (R:aH O W φ):∀ (n:Nat) (l:List It) {s:Gs} {is:List Bool} {qw:List (Int × Int)},Js O W φ s is qw→(∀ i ∈ l,W.dD i.1) →
  Js O W φ (roundsM aR (iJ O.ar) n s (qw.map (bp φ)) (l.map (cR φ))).1 (roundsM au W.bY n is qw l).1 (roundsM au W.bY n is qw l).2.1 ∧
   (roundsM aR (iJ O.ar) n s (qw.map (bp φ)) (l.map (cR φ))).2.1=(roundsM au W.bY n is qw l).2.1.map (bp φ) ∧
   (roundsM aR (iJ O.ar) n s (qw.map (bp φ)) (l.map (cR φ))).2.2=(roundsM au W.bY n is qw l).2.2.map (cR φ)
 | 0,l,s,is,qw,P,hl=>⟨P,rfl,rfl⟩
 | n+1,l,s,is,qw,P,hl=>by
  obtain ⟨P1,h0,h1,h2⟩:=P.scan R l hl;have hl1:=mM is qw hl;simp only [roundsM];rw [h2];by_cases hc:(scanM au W.bY is qw l).2.2.2=true
  ·rw [if_pos hc,if_pos hc,h1,h0];exact Js.rounds R n _ P1 hl1
  ·rw [if_neg hc,if_neg hc];exact ⟨P1,h0,h1⟩
theorem aH.i9 (R:aH O W φ):Js O W φ (bV O).1 (W.pass true).1 (W.pass true).2.1∧(bV O).2.1=(W.pass true).2.1.map (bp φ)∧(bV O).2.2=(W.pass true).2.2.map (cR φ):=by
 have P0:=R.CK;have e:cV aR (nY O) O.rg=(cV au (W.cT W.wait (W.first true)) W.ah).map (cR φ):=by
  unfold cV;rw [R.rg,List.map_map,List.map_map];refine List.map_congr_left fun e he=>?_;have:=R.hw.gv e he
  show (bp φ e,!aR _ (bp φ e).2,false)=(bp φ e,!au _ e.2,false)
  rw [show (bp φ e).2=ay φ (3,e.2) by rw [dI],P0.alive R this.2.2]
 have hlen:O.rg.length=W.ah.length:=by rw [R.rg];simp
 unfold bV Wd.pass dC;rw [e,hlen,R.wt];exact P0.rounds R _ _ (fun i hi=>by
  simp only [cV,List.mem_map] at hi;obtain ⟨e,he,rfl⟩:=hi
  exact R.hw.gv e he)
end
end
section
def fE (sz f:Int→Int):List Int→Int→Int→Prop
 | [],a,b=>a=b
 | p :: l,a,b=>f p=a∧fE sz f l (a+sz p) b
theorem fE.le {sz f:Int→Int} (h0:∀ p,0≤sz p):∀ {l:List Int} {a b:Int},fE sz f l a b→a≤b
 | [],a,b,h=>by have h:a=b:=h;omega
 | p :: l,a,b,h=>by have:=fE.le h0 h.2;have:=h0 p;omega
theorem fE.mem {sz f:Int→Int} (h0:∀ p,0≤sz p):∀ {l:List Int} {a b:Int},fE sz f l a b→∀ p ∈ l,a≤f p∧f p+sz p≤b
 | q :: l,a,b,h,p,hp=>by
  rcases List.mem_cons.1 hp with rfl | hp
  ·have:=fE.le h0 h.2;have:=h.1;omega
  ·have:=fE.mem h0 h.2 p hp;have:=h0 q;omega
def ew (f:List Int) (p:Int):Int:=f.getD p.toNat 0
theorem mU {A:Ar} {lv:List Bool} {base:Int}:∀ {l:List Int} {t:List Int × Int},l.Nodup→(∀ p ∈ l,0≤p∧p<t.1.length) →
  fE (fun p=>1+(A.ai p).2.1) (ew (jPlan A lv base l t).1) (l.filter fun i=>au lv i) (base+t.2) (base+(jPlan A lv base l t).2)∧(∀ q,0≤q→¬ q ∈ l→ew (jPlan A lv base l t).1 q=ew t.1 q)∧(jPlan A lv base l t).1.length=t.1.length
 | [],t,_,_=>⟨rfl,fun _ _ _=>rfl,rfl⟩
 | i :: l,t,hn,hr=>by
  rw [List.nodup_cons] at hn;have hi:=hr i (by simp);unfold jPlan;by_cases hc:au lv i=true
  ·rw [if_pos hc,List.filter_cons,if_pos hc];obtain ⟨h1,h2,h3⟩:=mU (A:=A) (lv:=lv) (base:=base) (l:=l) (t:=(t.1.set i.toNat (base+t.2),t.2+(1+(A.ai i).2.1))) hn.2 (fun p hp=>by
    have:=hr p (by simp [hp]);simpa using this)
   refine ⟨⟨?_,?_⟩,fun q hq hqi=>?_,by rw [h3];simp⟩
   ·rw [h2 i hi.1 hn.1];unfold ew;dsimp only;rw [Ld,List.getElem?_set_self (by omega)]
    rfl
   ·have e:base+t.2+(1+(A.ai i).2.1)=base+(t.2+(1+(A.ai i).2.1)):=by omega
    rw [e];exact h1
   ·rw [List.mem_cons,not_or] at hqi;rw [h2 q hq hqi.2];unfold ew;dsimp only;rw [Ld,Ld,List.getElem?_set_ne (by omega)]
  ·rw [if_neg hc,List.filter_cons,if_neg hc];obtain ⟨h1,h2,h3⟩:=mU (A:=A) (lv:=lv) (base:=base) (l:=l) (t:=t) hn.2 (fun p hp=>hr p (by simp [hp]));exact ⟨h1,fun q hq hqi=>h2 q hq (fun h=>hqi (by simp [h])),h3⟩
def wd (A:Ar) (i:Int):Int:=A.ws.getD i.toNat 0
def tB (sz:Int→Int) (n:Int):List Int→Int→Prop
 | [],_=>True
 | p :: l,a=>0≤a∧0≤p∧p+sz p≤n∧a+sz p≤n∧(∀ q ∈ l,a+sz p≤q∨q+sz q≤a)∧tB sz n l (a+sz p)
theorem oY {A:Ar} {f:List Int} {p a:Int} (hf:ew f p=a) (h0:0≤a) (hp:0≤p) (h1:p+(1+(A.ai p).2.1)≤A.ws.length) (h2:a+(1+(A.ai p).2.1)≤A.ws.length) :
  (bt f A p).ws.length=A.ws.length∧(∀ x,0≤x→wd (bt f A p) x=if a≤x∧x<a+(1+(A.ai p).2.1) then wd A (p+(x-a)) else wd A x)∧(∀ x ∈ (bt f A p).ws,x ∈ A.ws)∧(bt f A p).nur=A.nur∧(bt f A p).yng=A.yng∧(bt f A p).grn=A.grn:=by
 have hn:=A.aO p;have hl:((A.ws.drop p.toNat).take (1+(A.ai p).2.1).toNat).length=(1+(A.ai p).2.1).toNat:=by simp;omega
 unfold ew at hf;have hle:a.toNat+((A.ws.drop p.toNat).take (1+(A.ai p).2.1).toNat).length≤A.ws.length:=by rw [hl];omega
 refine ⟨?_,fun x hx=>?_,fun x hx=>?_,rfl,rfl,rfl⟩
 ·unfold bt;rw [hf];exact dQ hle
 ·unfold bt wd;rw [hf];dsimp only;rw [jz hle,hl];by_cases hc:a≤x∧x<a+(1+(A.ai p).2.1)
  ·rw [if_pos (by omega),if_pos hc];simp only [Ld];rw [List.getElem?_take,if_pos (by omega),List.getElem?_drop];congr 2;omega
  ·rw [if_neg (by omega),if_neg hc]
 ·unfold bt at hx;rw [hf] at hx;rcases oK hx with h | h
  ·exact h
  ·exact List.mem_of_mem_drop (List.mem_of_mem_take h)
theorem jF {A:Ar} {p:Int} (h:A.aL p=true):A.load p=wd A p:=by unfold Ar.load;rw [if_pos h];rfl
theorem qI {f:List Int} {sz:Int→Int}:∀ {l:List Int} {a b:Int} {A:Ar},fE sz (ew f) l a b→tB sz A.ws.length l a→(∀ p ∈ l,A.aL p=true∧1+(A.ai p).2.1=sz p)→l.Nodup→(∀ p,0≤sz p) →
  (l.foldl (bt f) A).ws.length=A.ws.length∧(∀ x,0≤x→(x<a∨b≤x)→wd (l.foldl (bt f) A) x=wd A x)∧(∀ p ∈ l, ∀ j,0≤j→j<sz p→wd (l.foldl (bt f) A) (ew f p+j)=wd A (p+j)) ∧
   (∀ x ∈ (l.foldl (bt f) A).ws,x ∈ A.ws)∧(l.foldl (bt f) A).nur=A.nur∧(l.foldl (bt f) A).yng=A.yng∧(l.foldl (bt f) A).grn=A.grn
 | [],a,b,A,_,_,_,_,_=>⟨rfl,fun _ _ _=>rfl,fun p h=>by simp at h,fun _ h=>h,rfl,rfl,rfl⟩
 | p :: l,a,b,A,hs,hd,hz,hn,h0=>by
  obtain ⟨d0,dp,d1,d2,d3,d4⟩:=hd;have hp:=hz p (by simp);rw [List.nodup_cons] at hn;obtain ⟨k1,k2,k3,k4,k5,k6⟩:=oY (A:=A) (f:=f) (p:=p) (a:=a) hs.1 d0 dp (by rw [hp.2];exact d1) (by rw [hp.2];exact d2);rw [hp.2] at k2;have huse:∀ x,(bt f A p).aL x=A.aL x:=fun x=>by unfold Ar.aL Ar.az Ar.aI;rw [k4,k5,k6]
  have hz':∀ q ∈ l,(bt f A p).aL q=true∧1+((bt f A p).ai q).2.1=sz q:=fun q hq=>by
   have h:=hz q (by simp [hq]);refine ⟨by rw [huse];exact h.1,?_⟩;have hq0:0≤q:=by
    have:=h.1;unfold Ar.aL at this;rw [Bool.or_eq_true,bP,c6] at this;omega
   have e:(bt f A p).load q=A.load q:=by
    rw [jF h.1,jF (by rw [huse];exact h.1),k2 q hq0,if_neg];have:=d3 q hq;have:=h0 q;have h1:=A.aO q;omega
   rw [cL e];exact h.2
  obtain ⟨m1,m2,m3,m4,m5,m6,m7⟩:=qI (f:=f) (sz:=sz) (l:=l) (a:=a+sz p) (b:=b) (A:=bt f A p) hs.2 (by rw [k1];exact d4) hz' hn.2 h0;have hle:=fE.le h0 hs.2;rw [List.foldl_cons];refine ⟨m1.trans k1,fun x hx hxx=>?_,fun q hq j hj hjs=>?_,fun x hx=>k3 x (m4 x hx),m5.trans k4,m6.trans k5,m7.trans k6⟩
  ·have:=h0 p;rw [m2 x hx (by omega),k2 x hx,if_neg (by omega)]
  ·rcases List.mem_cons.1 hq with rfl | hq
   ·rw [hs.1];rw [m2 (a+j) (by omega) (by omega),k2 (a+j) (by omega),if_pos (by omega)];congr 1;omega
   ·have h:=hz q (by simp [hq]);have hq0:0≤q:=by
     have:=h.1;unfold Ar.aL at this;rw [Bool.or_eq_true,bP,c6] at this;omega
    rw [m3 q hq j hj hjs,k2 (q+j) (by omega),if_neg];have:=d3 q hq;omega
def sa (s:Gs) (f:List Int) (b:Bool) (x:Int):Int:=if (b || !aR s x)=true then 3 else cx f x
theorem mV {s:Gs} {f:List Int} {b:Bool}:∀ (n:Nat) {A:Ar} (i:Int),A.ok→(∀ j:Int,0≤j→j<n→A.aL (i+j)=true∧a9 (sa s f b (A.load (i+j)))) →
  (jTurnN s f b n A i).ok∧(jTurnN s f b n A i).nur=A.nur∧(jTurnN s f b n A i).yng=A.yng∧(jTurnN s f b n A i).grn=A.grn∧(jTurnN s f b n A i).ws.length=A.ws.length ∧
   (∀ q,(jTurnN s f b n A i).load q=if i≤q∧q<i+n then sa s f b (A.load q) else A.load q)
 | 0,A,i,h,_=>⟨h,rfl,rfl,rfl,rfl,fun q=>by rw [if_neg (by omega)];rfl⟩
 | n+1,A,i,h,hr=>by
  have h0:=hr 0 (by omega) (by omega);rw [Int.add_zero] at h0;have e:jr s f b A i=A.store i (sa s f b (A.load i)):=rfl;have hok:(jr s f b A i).ok:=by rw [e];exact h.store _ _ h0.2
  have hld:∀ q,(jr s f b A i).load q=if q=i then sa s f b (A.load i) else A.load q:=fun q=>by
   rw [e,Ar.eR h];by_cases hq:q=i
   ·rw [if_pos ⟨hq,h0.1⟩,if_pos hq]
   ·rw [if_neg (fun h=>hq h.1),if_neg hq]
  have huse:∀ x,(jr s f b A i).aL x=A.aL x:=fun x=>by unfold Ar.aL Ar.az Ar.aI;rw [e,Ar.cU,Ar.fy,Ar.dG]
  obtain ⟨m1,m2,m3,m4,m5,m6⟩:=mV (s:=s) (f:=f) (b:=b) n (A:=jr s f b A i) (i+1) hok (fun j h1 h2=>by
   have:=hr (1+j) (by omega) (by omega);rw [huse,hld,if_neg (by omega),show i+1+j=i+(1+j) by omega]
   exact this)
  unfold jTurnN;refine ⟨m1,m2.trans (by rw [e,Ar.cU]),m3.trans (by rw [e,Ar.fy]),m4.trans (by rw [e,Ar.dG]),m5.trans (by rw [e,Ar.lH]),fun q=>?_⟩;rw [m6 q];by_cases hq:q=i
  ·subst hq;rw [if_neg (by omega),if_pos (by omega),hld,if_pos rfl]
  ·rw [hld,if_neg hq];by_cases hc:i+1≤q∧q<i+1+n
   ·rw [if_pos hc,if_pos (by omega)]
   ·rw [if_neg hc,if_neg (by omega)]
end
section
section
variable {O:Wo} {W:Wd} {φ:Int→Int} {A B:Ar} {s:Gs} {is:List Bool} {f:List Int} {qw:List (Int × Int)}
theorem kI {φ:Int→Int} {P:Int→Prop}:∀ {l:List Int},(∀ p ∈ l, ∃ i,P i∧φ i=p)→∃ m:List Int,m.map φ=l∧∀ i ∈ m,P i
 | [],_=>⟨[],rfl,by simp⟩
 | p :: l,h=>by
  obtain ⟨i,hi,e⟩:=h p (by simp);obtain ⟨m,hm,hP⟩:=kI (l:=l) (fun q hq=>h q (by simp [hq]));refine ⟨i :: m,by simp [e,hm],fun k hk=>?_⟩;rcases List.mem_cons.1 hk with rfl | hk
  ·exact hi
  ·exact hP k hk
theorem n9 {φ:Int→Int}:∀ {l:List Int},(l.map φ).Nodup→l.Nodup
 | [],_=>List.nodup_nil
 | a :: l,h=>by
  rw [List.map_cons,List.nodup_cons] at h;rw [List.nodup_cons];exact ⟨fun ha=>h.1 (List.mem_map.2 ⟨a,ha,rfl⟩),n9 h.2⟩
theorem rC {sz f:Int→Int} (h0:∀ p,0≤sz p) {n nur b:Int} (hb:b≤n) (hn:0≤nur):∀ {l m:List Int} {a:Int},fE sz f (l ++ m) a b→nur≤a→(∀ p ∈ l,a≤p∧p+sz p≤n)→l.Pairwise (fun p q=>p+sz p≤q) →
  (∀ q ∈ m,0≤q∧q+sz q≤nur)→tB sz n (l ++ m) a
 | [],[],a,_,_,_,_,_=>trivial
 | [],q :: m,a,hs,ha,hl,hp,hm=>by
  have hq:=hm q (by simp);have hle:=fE.le h0 hs.2;have h1:=h0 q;refine ⟨by omega,hq.1,by omega,by omega,fun r hr=>.inr (by have:=hm r (by simp [show r ∈ m from hr]);omega),?_⟩;exact rC h0 hb hn (l:=[]) (m:=m) hs.2 (by omega) (by simp) List.Pairwise.nil (fun r hr=>hm r (by simp [hr]))
 | p :: l,m,a,hs,ha,hl,hp,hm=>by
  have hpp:=hl p (by simp);have hle:=fE.le h0 hs.2;have h1:=h0 p;rw [List.pairwise_cons] at hp;refine ⟨by omega,by omega,hpp.2,by omega,fun r hr=>?_,?_⟩
  ·rcases List.mem_append.1 hr with h | h
   ·have:=hp.1 r h;left;omega
   ·right;have:=hm r h;omega
  ·exact rC h0 hb hn hs.2 (by omega) (fun r hr=>by have:=hp.1 r hr;have:=hl r (by simp [hr]);omega) hp.2 hm
theorem z8 (is:List Bool):fp is W.T=((((List.range W.T.length).map (Int.ofNat ·)).filter fun i=>au is i).map fun i=>(W.th i).words).sum:=by
 rw [jo];unfold fp;congr 1;apply List.ext_getElem
 ·simp
 ·intro k h1 h2;simp only [List.length_mapIdx] at h1;simp only [List.getElem_mapIdx,List.getElem_map,List.getElem_range];have e1:W.th (Int.ofNat k)=W.T[k]:=by
   unfold Wd.th;rw [Ld,show (Int.ofNat k).toNat=k from rfl,Le h1];rfl
  have e2:au is (Int.ofNat k)=is.getD k false:=dH is k;rw [e1,e2]
theorem fE.sum {sz f:Int→Int}:∀ {l:List Int} {a b:Int},fE sz f l a b→b=a+(l.map sz).sum
 | [],a,b,h=>by have h:a=b:=h;simp [h]
 | p :: l,a,b,h=>by
  have:=fE.sum h.2;simp only [List.map_cons,List.sum_cons];omega
theorem fE.iP {sz:Int→Int} {φ g:Int→Int}:∀ {l:List Int} {a b:Int},fE sz g (l.map φ) a b→(∀ i ∈ l,(A.ai (g (φ i))).2.2=0∧1+(A.ai (g (φ i))).2.1=sz (φ i))→Tile A (l.map fun i=>g (φ i)) a b
 | [],a,b,h,_=>h
 | i :: l,a,b,h,ht=>by
  have h1:=ht i (by simp);refine ⟨h.1,h1.1,?_⟩;have:=fE.iP h.2 (fun k hk=>ht k (by simp [hk]));have e:a+sz (φ i)=g (φ i)+1+(A.ai (g (φ i))).2.1:=by have:=h.1;omega
  rw [←e];exact this
def cZ (f:List Int) (φ:Int→Int) (i:Int):Int:=ew f (φ i)
theorem tC {v:Vl} {N:Int} (hok:W.cC v) (hN:v.1=3→0≤cZ f φ v.2∧cZ f φ v.2≤1280):cx f (ay φ v)=ay (cZ f φ) v:=by
 by_cases h3:v.1=3
 ·have:=hN h3;rw [bF φ h3,bF _ h3];unfold cx;rw [if_pos (by omega),show (4*φ v.2+1)/4=φ v.2 by omega]
  show g8 (cZ f φ v.2)=_
  unfold g8;rw [IntKind.wrap_i64];omega
 ·unfold cx;rw [if_neg (fun h=>h3 ((fM hok).1 h))];exact kH h3
structure Tn (O:Wo) (W:Wd) (φ:Int→Int) (s:Gs) (f:List Int) (is:List Bool):Prop where
 live:∀ i,au is i=true→W.live i
 al:∀ v,W.cC v→(aR s (ay φ v)=true↔(v.1=3→au is v.2=true))
 rng:∀ i,au is i=true→0≤cZ f φ i∧cZ f φ i≤1280
theorem Tn.a9 (T:Tn O W φ s f is) {v:Vl} (hok:W.cC v) (hs:v.1=3→au is v.2=true):a9 (ay (cZ f φ) v):=by
 unfold Proofs.YtjifdalflepcoacGreat.a9;rcases hok with h | h | h | h
 ·have e:ay (cZ f φ) v=2:=by simp [ay,h.1]
  rw [e];decide
 ·have e:ay (cZ f φ) v=4*v.2:=by simp [ay,h.1]
  have:=h.2;unfold cN at this;rw [e];omega
 ·have e:ay (cZ f φ) v=3:=by simp [ay,h.1]
  rw [e];decide
 ·rw [bF _ h.1];have:=T.rng _ (hs h.1);omega
def jG (W:Wd) (is:List Bool) (i:Int):Bool:=decide ((W.th i).k=4) && !bS is ((W.th i).fs.getD 0 (0,0))
def l7 (W:Wd) (is:List Bool) (i:Int) (v:Vl):Vl:=if (jG W is i || !bS is v)=true then (2,0) else v
theorem Tn.fd (T:Tn O W φ s f is) {i:Int} {v:Vl} (hok:W.cC v):sa s f (jG W is i) (ay φ v)=ay (cZ f φ) (l7 W is i v)∧Proofs.YtjifdalflepcoacGreat.a9 (ay (cZ f φ) (l7 W is i v)):=by
 have ha:=T.al v hok;rw [←dZ] at ha;have ea:aR s (ay φ v)=bS is v:=Bool.eq_iff_iff.2 ha;unfold sa l7;rw [ea];by_cases hc:(jG W is i || !bS is v)=true
 ·rw [if_pos hc,if_pos hc,jE];exact ⟨rfl,j3⟩
 ·rw [if_neg hc,if_neg hc];have hs:v.1=3→au is v.2=true:=by
   rw [←dZ];cases h:bS is v
   ·rw [h] at hc;simp at hc
   ·rfl
  exact ⟨tC (N:=0) hok (fun h3=>T.rng _ (hs h3)),T.a9 hok hs⟩
theorem yD (h:W.ok) (hcl:cj W.nd qw fun k=>au is k=true) {i:Int} (hl:W.live i) (hb:au is i=true):l4 W is i=(W.th i).fs.map (l7 W is i):=by
 have shut:∀ j,iH W.nd qw (fun k=>au is k=true) i j→au is j=true:=fun j hj=>hcl i j hb hj;rw [kN hl.1 hb];have hf:=h.tk i hl;have hs:=bK hf;by_cases k4:(W.th i).k=4
 ·obtain ⟨a,b,e⟩:=iQ (Wd.two h hl (.inr (.inl k4)));rw [e];simp only [List.getD_cons_zero,List.getD_cons_succ,List.map_cons,List.map_nil];have e0:(W.th i).fs.getD 0 (0,0)=a:=by rw [e];rfl
  cases hk:bS is a
  ·have:jG W is i=true:=by unfold jG;rw [e0,hk];simp [k4]
   rw [if_pos ⟨k4,rfl⟩];simp [l7,this]
  ·have hb':jG W is i=false:=by unfold jG;rw [e0,hk];simp
   rw [if_neg (fun h=>by cases h.2),if_neg (fun h=>by cases h.2)];have h2:bS is b=true:=dZ.2 fun h3=>shut _ (.inr (.inr (.inl ⟨k4,by
    show (W.th i).fs[1]? = _
    rw [e];show some b=_;congr 1;exact Prod.ext h3 rfl,fun v hv h5=>by
    have hv':(W.th i).fs[0]? = some v:=hv;rw [e] at hv';have:a=v:=by simpa using hv'
    subst this
    exact dZ.1 hk h5⟩)))
   simp [l7,hb',hk,h2]
 ·have hb':jG W is i=false:=by unfold jG;simp [k4]
  rw [if_neg (fun h=>k4 h.1)];by_cases k3:(W.th i).k=3
  ·obtain ⟨a,b,e⟩:=iQ (Wd.two h hl (.inl k3));rw [e];simp only [List.getD_cons_zero,List.getD_cons_succ,List.map_cons,List.map_nil];have h2:bS is b=true:=dZ.2 fun h3=>shut _ (.inr (.inl ⟨k3,by
    show (W.th i).fs[1]? = _
    rw [e];show some b=_;congr 1;exact Prod.ext h3 rfl⟩))
   cases hk:bS is a
   ·rw [if_pos ⟨k3,rfl⟩];simp [l7,hb',hk,h2]
   ·rw [if_neg (fun h=>by cases h.2)];simp [l7,hb',hk,h2]
  ·rw [if_neg (fun h=>k3 h.1)];by_cases k12:(W.th i).k=1∨(W.th i).k=2
   ·symm
    rw [List.map_congr_left (g:=id),List.map_id];intro v hv;have:bS is v=true:=dZ.2 fun h3=>shut _ (.inl ⟨k12,by show ((3,v.2):Vl) ∈ (W.th i).fs;rw [←h3];exact hv⟩);simp [l7,hb',this]
   ·have k5:(W.th i).k=5:=by omega
    rw [k5] at hf;simp [bm] at hf;have:(W.th i).fs=[]:=hf;rw [this];rfl
theorem Tn.turns (R:aH O W φ) (T:Tn O W φ s f is):∀ (l:List Int) {A:Ar},l.Nodup→(∀ i ∈ l,au is i=true)→A.ok→A.nur=O.ar.nur→A.yng=O.ar.yng→A.grn=O.ar.grn→A.ws.length=O.ar.ws.length →
  (∀ i ∈ l, ∀ j:Int,0≤j→j≤(W.th i).fs.length→A.load (φ i+j)=O.ar.load (φ i+j)) →
  ((l.map φ).foldl (dT s f) A).ok∧((l.map φ).foldl (dT s f) A).nur=O.ar.nur∧((l.map φ).foldl (dT s f) A).yng=O.ar.yng∧((l.map φ).foldl (dT s f) A).grn=O.ar.grn∧((l.map φ).foldl (dT s f) A).ws.length=O.ar.ws.length ∧
   (∀ i ∈ l,((l.map φ).foldl (dT s f) A).load (φ i)=O.ar.load (φ i)∧∀ (j:Nat) (v:Vl),(W.th i).fs[j]? = some v→((l.map φ).foldl (dT s f) A).load (φ i+1+j)=ay (cZ f φ) (l7 W is i v)) ∧
   (∀ k,W.live k→¬ k ∈ l→∀ j:Int,0≤j→j≤(W.th k).fs.length→((l.map φ).foldl (dT s f) A).load (φ k+j)=A.load (φ k+j))
 | [],A,_,_,h0,h1,h2,h3,h4,_=>⟨h0,h1,h2,h3,h4,by simp,fun _ _ _ _ _ _=>rfl⟩
 | i :: l,A,hn,hb,h0,h1,h2,h3,h4,hA=>by
  rw [List.nodup_cons] at hn;have hbi:=hb i (by simp);have hl:=T.live i hbi;have hth:=R.th i hl;have hAi:=hA i (by simp);have hA0:=hAi 0 (by omega) (by omega);rw [Int.add_zero] at hA0;have eth:A.ai (φ i)=((W.th i).k,((W.th i).fs.length:Int),0):=by rw [iy hA0,hth]
  have fld:∀ (j:Nat) (v:Vl),(W.th i).fs[j]? = some v→A.load (φ i+1+j)=ay φ v:=fun j v hv=>by
   have hj:=(List.getElem?_eq_some_iff.1 hv).1;rw [Int.add_assoc,hAi (1+(j:Int)) (by omega) (by omega),←Int.add_assoc];exact R.fl i hl j v hv
  have hbrk:(decide ((A.ai (φ i)).1=4) && !aR s (A.load (φ i+1)))=jG W is i:=by
   rw [eth];unfold jG;by_cases k4:(W.th i).k=4
   ·obtain ⟨a,b,e⟩:=iQ (Wd.two R.hw hl (.inr (.inl k4)));have hj0:(W.th i).fs[0]? = some a:=by rw [e];rfl
    have:=fld 0 a hj0;rw [show φ i+1+((0:Nat):Int)=φ i+1 by omega] at this;have ok0:=R.hw.tv i hl a (List.mem_of_getElem? hj0);rw [this,Bool.eq_iff_iff.2 ((T.al a ok0).trans dZ.symm),e];simp
   ·simp [k4]
  have eT:dT s f A (φ i)=jTurnN s f (jG W is i) (W.th i).fs.length A (φ i+1):=by
   unfold dT;rw [hbrk,eth];simp
  have use:∀ q,A.aL q=O.ar.aL q:=fun q=>by unfold Ar.aL Ar.az Ar.aI;rw [h1,h2,h3]
  have huse:∀ {k:Int},W.live k→∀ j:Int,0≤j→j≤(W.th k).fs.length→O.ar.aL (φ k+j)=true:=fun hk j h5 h6=>R.use hk h5 h6;obtain ⟨m1,m2,m3,m4,m5,m6⟩:=mV (s:=s) (f:=f) (b:=jG W is i) (W.th i).fs.length (A:=A) (φ i+1) h0 (fun j hj0 hj1=>by
   refine ⟨by rw [use,Int.add_assoc];exact huse hl _ (by omega) (by omega),?_⟩;have hv:(W.th i).fs[j.toNat]? = some (W.th i).fs[j.toNat]:=Le (by omega);have:=fld _ _ hv;rw [show ((j.toNat:Nat):Int)=j by omega] at this;rw [this];have:=T.fd (i:=i) (R.hw.tv i hl _ (List.mem_of_getElem? hv))
   rw [this.1];exact this.2)
  rw [←eT] at m1 m2 m3 m4 m5 m6;have ab:∀ k,W.live k→k≠i→∀ j:Int,0≤j→j≤(W.th k).fs.length→(dT s f A (φ i)).load (φ k+j)=A.load (φ k+j):=fun k hk hne j h5 h6=>by
   rw [m6,if_neg];have:=R.apart hk hl hne;omega
  obtain ⟨n1,n2,n3,n4,n5,n6,n7⟩:=Tn.turns R T l (A:=dT s f A (φ i)) hn.2 (fun k hk=>hb k (by simp [hk])) m1 (m2.trans h1) (m3.trans h2) (m4.trans h3) (m5.trans h4) (fun k hk j h5 h6=>by
   have hne:k≠i:=fun e=>hn.1 (e ▸ hk);rw [ab k (T.live k (hb k (by simp [hk]))) hne j h5 h6]
   exact hA k (by simp [hk]) j h5 h6)
  rw [List.map_cons,List.foldl_cons];refine ⟨n1,n2,n3,n4,n5,fun k hk=>?_,fun k hk hkl j h5 h6=>?_⟩
  ·rcases List.mem_cons.1 hk with rfl | hk
   ·constructor
    ·have:=n7 k hl hn.1 0 (by omega) (by omega);rw [Int.add_zero] at this;rw [this,m6,if_neg (by omega),hA0]
    ·intro j v hv;have hj:=(List.getElem?_eq_some_iff.1 hv).1;have:=n7 k hl hn.1 (1+(j:Int)) (by omega) (by omega);rw [←Int.add_assoc] at this;rw [this,m6,if_pos (by omega),fld j v hv];exact (T.fd (R.hw.tv k hl v (List.mem_of_getElem? hv))).1
   ·exact n6 k hk
  ·rw [List.mem_cons,not_or] at hkl;rw [n7 k hk hkl.2 j h5 h6,ab k hk hkl.1 j h5 h6]
end
end
section
section
variable {O:Wo} {W:Wd} {φ:Int→Int}
theorem Wd.xu (W:Wd) (h2:¬ fp (W.pass true).1 W.T > W.grow):W.cut true=(0,W.after true):=by
 unfold Wd.cut;rw [if_neg (fun h'=>by cases h'.1),if_neg h2]
theorem Wd.tD (W:Wd) (h2:fp (W.pass true).1 W.T > W.grow):W.cut true=(3,W):=by
 unfold Wd.cut;rw [if_neg (fun h'=>by cases h'.1),if_pos h2]
structure Pl (O:Wo) (W:Wd) (φ:Int→Int) (is:List Bool) (N:List Int):Prop where
 eq:N.map φ=bQ O
 nd:N.Nodup
 nm:∀ i,i ∈ N↔au is i=true
 sit:fE (fun p=>1+(O.ar.ai p).2.1) (ew (dE O).1) (bQ O) O.ar.nur (O.ar.nur+(dE O).2)
 sum:(dE O).2=fp is W.T
 slid:(dE O).2≤(O.ar.ws.length:Int)-O.ar.nur→tB (fun p=>1+(O.ar.ai p).2.1) O.ar.ws.length (bQ O) O.ar.nur
theorem mW (R:aH O W φ):(lz O).Nodup:=by
 unfold lz;rw [List.nodup_append];refine ⟨R.tz.nodup,R.ty.nodup,fun a ha b hb=>?_⟩;have h1:=R.tz.mem a ha;have h2:=R.ty.mem b hb;have h3:=O.ar.aO b;have:=R.ho.ha.h1;omega
theorem Tile.Bc {A:Ar} {l:List Int} {a b:Int} (h:Tile A l a b):l.Pairwise fun p q=>p+(1+(A.ai p).2.1)≤q:=
 h.apart.imp fun h=>by omega
theorem aH.yE (R:aH O W φ):Pl O W φ (W.pass true).1 ((kI (φ:=φ) (P:=fun i=>au (W.pass true).1 i=true) (l:=bQ O) (fun p hp=>by
  have:=(List.mem_filter.1 hp).2
  exact (R.i9.1.M.at_ p).1 this)).choose):=by
 obtain ⟨hN,hP⟩:=(kI (φ:=φ) (P:=fun i=>au (W.pass true).1 i=true) (l:=bQ O) (fun p hp=>by
  have:=(List.mem_filter.1 hp).2
  exact (R.i9.1.M.at_ p).1 this)).choose_spec
 generalize (kI (φ:=φ) (P:=fun i=>au (W.pass true).1 i=true) (l:=bQ O) (fun p hp=>by
  have:=(List.mem_filter.1 hp).2
  exact (R.i9.1.M.at_ p).1 this)).choose=N at hN hP
 have P:=R.i9.1;have hnd:=mW R;have htn:(bQ O).Nodup:=hnd.filter _;have hok:=R.ho.ha;have b1:=hok.h1;have b2:=hok.h2;have b3:=hok.h3;have rng:∀ p ∈ lz O,0≤p∧p<(List.replicate O.ar.ws.length (0:Int)).length:=fun p hp=>by
  rw [List.length_replicate];have hf:=O.ar.aO p;rcases List.mem_append.1 hp with h | h
  ·have:=R.tz.mem p h;omega
  ·have:=R.ty.mem p h;omega
 have inA:∀ i,W.live i→φ i ∈ lz O:=fun i hi=>by
  unfold lz;rw [List.mem_append];cases ho:(W.th i).aI
  ·exact .inr (R.iny i hi ho)
  ·exact .inl (R.ino i hi ho)
 have nm:∀ i,i ∈ N↔au (W.pass true).1 i=true:=fun i=>by
  constructor
  ·exact hP i
  ·intro hb;have hl:=P.M.sl i hb;have:φ i ∈ bQ O:=List.mem_filter.2 ⟨inA i hl,(P.M.at_ _).2 ⟨i,hb,rfl⟩⟩;rw [←hN] at this;obtain ⟨k,hk,e⟩:=List.mem_map.1 this;rw [←R.inj k i (P.M.sl k (hP k hk)) hl e];exact hk
 have hNn:N.Nodup:=n9 (by rw [hN];exact htn);obtain ⟨s1,s2,s3⟩:=mU (A:=O.ar) (lv:=(bV O).1.lv) (base:=O.ar.nur) (t:=(List.replicate O.ar.ws.length 0,0)) hnd rng;rw [Int.add_zero] at s1;have hsum:(dE O).2=fp (W.pass true).1 W.T:=by
  have h1:=s1.sum;rw [z8];have h2:(((lz O).filter fun i=>au (bV O).1.lv i).map fun p=>1+(O.ar.ai p).2.1)=N.map fun i=>(W.th i).words:=by
   show (bQ O).map _=_
   rw [←hN,List.map_map];refine List.map_congr_left fun i hi=>?_;have:=R.th i (P.M.sl i (hP i hi));simp only [Function.comp];rw [this];rfl
  rw [h2] at h1;have h3:N.Perm (((List.range W.T.length).map (Int.ofNat ·)).filter fun i=>au (W.pass true).1 i):=by
   rw [List.perm_ext_iff_of_nodup hNn ((jn _).filter _)];intro i;rw [nm,List.mem_filter];constructor
   ·intro h;have hl:=P.M.sl i h;exact ⟨List.mem_map.2 ⟨i.toNat,by rw [List.mem_range];have:=hl.2.1;have:=hl.1;omega,by have:=hl.1;show ((i.toNat:Nat):Int)=i;omega⟩,h⟩
   ·exact fun h=>h.2
  have h4:=mO (h3.map fun i=>(W.th i).words)
  show (dE O).2=_
  rw [←h4];unfold dE;omega
 refine ⟨hN,hNn,nm,s1,hsum,fun hle=>?_⟩;have et:bQ O=(O.ar.aN.2.filter fun i=>au (bV O).1.lv i) ++ (O.ar.aN.1.filter fun i=>au (bV O).1.lv i):=by unfold bQ lz;rw [List.filter_append]
 have s1':fE (fun p=>1+(O.ar.ai p).2.1) (ew (dE O).1) (bQ O) O.ar.nur (O.ar.nur+(dE O).2):=s1;rw [et] at s1' ⊢;refine rC (fun p=>by have:=O.ar.aO p;omega) (n:=O.ar.ws.length) (b:=O.ar.nur+(dE O).2) (nur:=O.ar.nur) (by omega) (by omega) s1' (Int.le_refl _) (fun p hp=>?_) (R.tz.Bc.filter _) (fun q hq=>?_)
 ·have:=R.tz.mem p (List.mem_filter.1 hp).1;omega
 ·have:=R.ty.mem q (List.mem_filter.1 hq).1;omega
theorem aH.Bd (R:aH O W φ) (hfull:¬ fp (W.pass true).1 W.T > W.grow) :
  (dU O).1=0∧∃ (N:List Int) (ψ:Int→Int),N.map φ=bQ O∧(dU O).2.ar.aN=([],N.map ψ)∧(∀ i ∈ N,(W.after true).live i)∧aH (dU O).2 (W.after true) ψ:=by
 have hsy:=R.sy;have hso:=R.so;have hnur:=R.nur;have hlen:=R.len;obtain ⟨P,hq,hI⟩:=R.i9;have PL:=R.yE;generalize Exists.choose _=N at PL;obtain ⟨m,hfst,hcnt,hits⟩:=Wd.g6 R.hw true;have hallN:(dE O).2≤(O.ar.ws.length:Int)-O.ar.nur:=by rw [PL.sum];omega
 have e1:dU O=(0,⟨((js O).cut (dE O).2.toNat).clear,O.cd.map fun _=>false,O.rt.map (cx (dE O).1),
   (bq aR fD (bV O).1 (bV O).2.2).map (cu (dE O).1),(bs aR fD (bV O).1 (bV O).2.1).map (cu (dE O).1)⟩):=by unfold dU;rw [if_neg (by rw [PL.sum];omega)]
 rw [e1];have hokA:=R.hw.after (major:=true) (by omega);have hokO:=R.ho.ha;have b1:=hokO.h1;have b2:=hokO.h2;have b3:=hokO.h3;have b4:=hokO.h4;have h0:∀ p,0≤(fun p=>1+(O.ar.ai p).2.1) p:=fun p=>by have:=O.ar.aO p;dsimp only;omega
 have hall0:=fE.le h0 PL.sit;have hsl:=PL.slid hallN;have hsit:=PL.sit;generalize hf:(dE O).1=f at *;generalize hall:(dE O).2=all at *;generalize hs:(bV O).1=s at *;generalize his:(W.pass true).1=is at *;have lvN:∀ {i},i ∈ N→W.live i:=fun hi=>P.M.sl _ ((PL.nm _).1 hi);have thN:∀ {i},i ∈ N→(O.ar.ai (φ i))=((W.th i).k,((W.th i).fs.length:Int),0):=fun hi=>R.th _ (lvN hi);have place:∀ {i},i ∈ N→(O.ar.nur:Int)≤cZ f φ i∧cZ f φ i+(1+(W.th i).fs.length)≤O.ar.nur+all:=fun {i} hi=>by
  have:=fE.mem h0 hsit (φ i) (by rw [←PL.eq];exact List.mem_map.2 ⟨i,hi,rfl⟩);rw [thN hi] at this;exact this
 have T:Tn O W φ s f is:=⟨fun i hi=>P.M.sl i hi,fun v hv=>P.M.alive R hv,fun i hi=>by have:=place ((PL.nm i).2 hi);omega⟩;obtain ⟨t1,t2,t3,t4,t5,t6,-⟩:=T.turns R N PL.nd (fun i hi=>(PL.nm i).1 hi) hokO rfl rfl rfl rfl (fun _ _ _ _ _=>rfl);have eT:(N.map φ).foldl (dT s f) O.ar=dJ O:=by rw [PL.eq];unfold dJ;rw [hs,hf]
 rw [eT] at t1 t2 t3 t4 t5 t6;generalize hTd:dJ O=B0 at *;have use0:∀ q,B0.aL q=O.ar.aL q:=fun q=>by unfold Ar.aL Ar.az Ar.aI;rw [t2,t3,t4]
 have hus:∀ {i},i ∈ N→∀ j:Int,0≤j→j≤(W.th i).fs.length→B0.aL (φ i+j)=true:=fun hi j h1 h2=>by rw [use0];exact R.use (lvN hi) h1 h2
 obtain ⟨u1,u2,u3,u4,u5,u6,u7⟩:=qI (f:=f) (sz:=fun p=>1+(O.ar.ai p).2.1) (l:=bQ O) (A:=B0) hsit (by rw [t5];exact hsl) (fun p hp=>by
  rw [←PL.eq] at hp;obtain ⟨i,hi,rfl⟩:=List.mem_map.1 hp;have h1:=hus hi 0 (by omega) (by omega);rw [Int.add_zero] at h1;refine ⟨h1,?_⟩
  rw [cL (t6 i hi).1]) ((mW R).filter _) h0
 have eS:(bQ O).foldl (bt f) B0=js O:=by unfold js;rw [hTd,hf]
 rw [eS] at u1 u2 u3 u4 u5 u6 u7;generalize hSd:js O=Bs at *;obtain ⟨B,hB⟩:∃ B,(Bs.cut all.toNat).clear=B:=⟨_,rfl⟩;rw [hB];have bn:B.nur=O.ar.nur:=by rw [←hB];exact u5.trans t2
 have by_:B.yng=0:=by rw [←hB];rfl
 have bg:(B.grn:Int)=O.ar.nur+all:=by
  rw [←hB]
  show ((Bs.nur+all.toNat:Nat):Int)=_
  rw [u5,t2];omega
 have bw:B.ws=Bs.ws:=by rw [←hB];rfl
 have blen:B.ws.length=O.ar.ws.length:=by rw [bw,u1,t5]
 have okB:B.ok:=by
  refine ⟨by rw [by_];exact Nat.zero_le _,by rw [bn];omega,by rw [blen];omega,by rw [blen];exact b4,fun x hx=>?_⟩;rw [bw] at hx;exact t1.hw x (u4 x hx)
 have oldB:∀ x:Int,(O.ar.nur:Int)≤x→x<O.ar.nur+all→B.aI x=true:=fun x h1 h2=>by rw [Proofs.YtjifdalflepcoacGreat.c6,bn,bg];exact ⟨h1,h2⟩
 have ldB:∀ {i},i ∈ N→∀ j:Int,0≤j→j≤(W.th i).fs.length→B.load (cZ f φ i+j)=B0.load (φ i+j):=fun {i} hi j h1 h2=>by
  have hp:=place hi;have ho:=oldB (cZ f φ i+j) (by omega) (by omega);have hu:B.aL (cZ f φ i+j)=true:=by unfold Ar.aL;rw [ho];simp
  have:=u3 (φ i) (by rw [←PL.eq];exact List.mem_map.2 ⟨i,hi,rfl⟩) j h1 (by rw [thN hi];dsimp only;omega);rw [jF hu,jF (hus hi j h1 h2)];have e2:wd B (cZ f φ i+j)=wd Bs (cZ f φ i+j):=by unfold wd;rw [bw]
  rw [e2];exact this
 have thB:∀ {i},i ∈ N→B.ai (cZ f φ i)=((W.th i).k,((W.th i).fs.length:Int),0):=fun {i} hi=>by
  have h1:=ldB hi 0 (by omega) (by omega);rw [Int.add_zero,Int.add_zero,(t6 i hi).1] at h1;rw [iy h1];exact thN hi
 have lv:∀ {i},(W.after true).live i↔i ∈ N:=fun {i}=>by rw [Wd.iw R.hw,his,PL.nm]
 have isN:∀ {i},i ∈ N→au is i=true:=fun hi=>(PL.nm _).1 hi;have tha:∀ {i},i ∈ N→(W.after true).th i=dM is i.toNat (W.th i):=fun {i} hi=>by rw [←his];exact Wd.iO (lvN hi).1 (lvN hi).2.1
 have olda:∀ {i},i ∈ N→((W.after true).th i).aI=true:=fun {i} hi=>by
  rw [tha hi,(lJ (by rw [dh (lvN hi).1];exact isN hi)).2]
 have clen:∀ {i},i ∈ N→(dM is i.toNat (W.th i)).fs.length=(W.th i).fs.length:=fun {i} hi=>jD (by rw [dh (lvN hi).1];exact isN hi) (R.hw.tk i (lvN hi));have hth:B.aN=([],N.map (cZ f φ)):=by
  refine Tile.aN okB (by rw [by_];rfl) ?_;rw [bn,bg];have:=fE.iP (A:=B) (φ:=φ) (l:=N) (by rw [PL.eq];exact hsit) (fun i hi=>by
   have:=thB hi;unfold cZ at this;rw [this];dsimp only;rw [thN hi]
   exact ⟨rfl,rfl⟩)
  exact this
 have tz:Tile B B.aN.2 B.nur B.grn:=by
  rw [hth,bn,bg];exact fE.iP (A:=B) (φ:=φ) (l:=N) (by rw [PL.eq];exact hsit) (fun i hi=>by
   have:=thB hi;unfold cZ at this;rw [this];dsimp only;rw [thN hi]
   exact ⟨rfl,rfl⟩)
 have inj:∀ i j,i ∈ N→j ∈ N→cZ f φ i=cZ f φ j→i=j:=fun i j hi hj e=>by
  have:=tz.nodup;rw [hth] at this;exact lu this hi hj e
 have nowV:∀ {v:Vl},W.cC v→(v.1=3→v.2 ∈ N)→cx f (ay φ v)=ay (cZ f φ) v:=fun hv h=>tC (N:=0) hv (fun h3=>by have:=place (h h3);omega);have nowE:∀ {e:Int × Int},e.1 ∈ N→e.2 ∈ N→cu f (bp φ e)=bp (cZ f φ) e:=fun {e} h1 h2=>by
  rw [dI,dI];unfold cu;dsimp only;rw [nowV (v:=(3,e.1)) (.inr (.inr (.inr ⟨rfl,lvN h1⟩))) (fun _=>h1),nowV (v:=(3,e.2)) (.inr (.inr (.inr ⟨rfl,lvN h2⟩))) (fun _=>h2)]
 have hrg:(bq aR fD s (bV O).2.2).map (cu f)=(W.after true).ah.map (bp (cZ f φ)):=by
  rw [hI]
  show _=(bq au iM (W.pass true).1 (W.pass true).2.2).map _
  rw [his];have itx:∀ i ∈ (W.pass true).2.2,W.dD i.1∧(i.2.1=false→au is i.1.2=true):=by
   intro i hi;have h1:(i.1,i.2.1) ∈ (W.pass true).2.2.map (fun i=>(i.1,i.2.1)):=List.mem_map.2 ⟨i,hi,rfl⟩;rw [hits] at h1;obtain ⟨e,he',e2⟩:=List.mem_map.1 h1;have e3:e=i.1:=congrArg (fun p:(Int × Int) × Bool=>p.1) e2;have e4:(!au (W.cT W.wait (W.first true)) e.2)=i.2.1:=congrArg (fun p:(Int × Int) × Bool=>p.2) e2;have hgv:=R.hw.gv e he';rw [e3] at hgv e4;exact ⟨hgv,fun hd=>hfst _ (by rw [hd] at e4;simpa using e4)⟩
  generalize (W.pass true).2.2=l at itx;unfold bq
  induction l with
  | nil=>rfl
  | cons i l ih=>
   have hi:=itx i (by simp);have ih:=ih (fun j hj=>itx j (by simp [hj]));have ea:aR s (cR φ i).1.1=au is i.1.1:=by
    show aR _ (bp φ i.1).1=_
    rw [dI];exact P.alive R hi.1.1
   simp only [List.map_cons,List.filter_cons,ea];have e2:(cR φ i).2=i.2:=rfl;rw [e2];by_cases hc:(!i.2.1 && au is i.1.1)=true
   ·rw [if_pos hc,if_pos hc];simp only [List.map_cons];simp only [Bool.and_eq_true,Bool.not_eq_true'] at hc;rw [ih];congr 1;exact nowE ((PL.nm _).2 hc.2) ((PL.nm _).2 (hi.2 hc.1))
   ·rw [if_neg hc,if_neg hc];exact ih
 have hwt:(bs aR fD s (bV O).2.1).map (cu f)=(W.after true).wait.map (bp (cZ f φ)):=by
  rw [hq]
  show _=(bs au iM (W.pass true).1 (W.pass true).2.1).map _
  rw [his];have hok:=P.ok;have hsh:∀ f ∈ (W.pass true).2.1,au is f.1=true→au is f.2=true:=fun f hf h=>P.shut f.1 f.2 h (.inr (.inr (.inr ⟨(hok f hf).2.1,hf⟩)));clear hcnt
  revert hok hsh
  generalize (W.pass true).2.1=mm;unfold bs;intro hok hsh
  induction mm with
  | nil=>rfl
  | cons g mm ih=>
   have ih:=ih (fun g hg=>hok g (by simp [hg])) (fun g hg=>hsh g (by simp [hg]));have hg:=hok g (by simp);have ea:aR s (bp φ g).1=au is g.1:=by rw [dI];exact P.alive R hg.1
   simp only [List.map_cons,List.filter_cons,ea];by_cases hc:au is g.1=true
   ·rw [if_pos hc,if_pos hc];simp only [List.map_cons];rw [ih];congr 1;exact nowE ((PL.nm _).2 hc) ((PL.nm _).2 (hsh g (by simp) hc))
   ·rw [if_neg hc,if_neg hc];exact ih
 have hrt:O.rt.map (cx f)=W.roots.map (ay (cZ f φ)):=by
  rw [R.rt,List.map_map];refine List.map_congr_left fun v hv=>?_;refine nowV (R.hw.rv v hv) (fun h3=>(PL.nm _).2 (m.first _ ?_));have hl:=Wd.aY (R.hw.rv v hv) h3;exact Wd.iN.2 ⟨hl.1,hl.2.1, .inr (by rw [←h3];exact hv)⟩
 have hE64:∀ e,(W.after true).dD e→rn (bp (cZ f φ) e):=fun e he=>by
  have h1:=place (lv.1 he.1);have h2:=place (lv.1 he.2.2);constructor
  ·show a9 (4*cZ f φ e.1+1);unfold a9;omega
  ·show a9 (4*cZ f φ e.2+1);unfold a9;omega
 refine ⟨rfl,N,cZ f φ,PL.eq,hth,fun i hi=>lv.2 hi,⟨⟨okB,?_,fun x hx=>?_,fun e he=>?_,fun e he=>?_,?_,by simpa using R.ho.hc⟩,hokA,by rw [hth];exact (by rw [by_];rfl),tz,fun i j hi hj e=>inj i j (lv.1 hi) (lv.1 hj) e,fun p hp=>?_,fun i hi ho=>?_,fun i hi ho=>?_,fun i hi=>?_,fun i hi j v hv=>?_,
  hrt,hrg,hwt,?_,?_,by rw [List.length_map];exact R.cl,fun i hi ho v hv h3 hy=>?_⟩⟩
 ·show (O.rt.map _).length=12
  rw [List.length_map];exact R.ho.h12
 ·have hx':x ∈ O.rt.map (cx f):=hx;rw [hrt] at hx';obtain ⟨v,hv,rfl⟩:=List.mem_map.1 hx';exact T.a9 (R.hw.rv v hv) (fun h3=>m.first _ (by
   have hl:=Wd.aY (R.hw.rv v hv) h3
   exact Wd.iN.2 ⟨hl.1,hl.2.1, .inr (by rw [←h3];exact hv)⟩))
 ·have he':e ∈ (bq aR fD s (bV O).2.2).map (cu f):=he;rw [hrg] at he';obtain ⟨g,hg,rfl⟩:=List.mem_map.1 he';exact hE64 g (hokA.gv g hg)
 ·have he':e ∈ (bs aR fD s (bV O).2.1).map (cu f):=he;rw [hwt] at he';obtain ⟨g,hg,rfl⟩:=List.mem_map.1 he';exact hE64 g (hokA.wv g hg)
 ·show ((bq aR fD s (bV O).2.2).map (cu f)).length+((bs aR fD s (bV O).2.1).map (cu f)).length≤24
  rw [hrg,hwt,List.length_map,List.length_map];exact hokA.hq
 ·have hp':p ∈ B.aN.1∨p ∈ B.aN.2:=hp;rw [hth] at hp';dsimp only at hp';rcases hp' with h | h
  ·cases h
  ·obtain ⟨i,hi,rfl⟩:=List.mem_map.1 h;exact ⟨i,lv.2 hi,rfl⟩
 ·rw [olda (lv.1 hi)] at ho;cases ho
 ·show cZ f φ i ∈ B.aN.2
  rw [hth];exact List.mem_map.2 ⟨i,lv.1 hi,rfl⟩
 ·have hb:=lv.1 hi
  show B.ai _=_
  rw [thB hb,tha hb,lI,clen hb]
 ·have hb:=lv.1 hi;rw [tha hb] at hv;have hj:=(List.getElem?_eq_some_iff.1 hv).1;rw [clen hb] at hj
  show B.load _=_
  rw [Int.add_assoc,ldB hb (1+(j:Int)) (by omega) (by omega),←Int.add_assoc];have hv':(l4 W is i)[j]? = some v:=hv;rw [yD R.hw P.shut (lvN hb) (isN hb),List.getElem?_map] at hv';have e2:(W.th i).fs[j]? = some (W.th i).fs[j]:=Le hj;rw [e2] at hv';simp only [Option.map_some,Option.some.injEq] at hv';rw [←hv'];exact (t6 i hb).2 j _ e2
 ·show (B.nur:Int)=W.most
  rw [bn];exact R.nur
 ·show (B.ws.length:Int)=W.most+W.grow
  rw [blen];exact R.len
 ·have hl3:(W.after true).live v.2:=Wd.aY (hokA.tv i hi v hv) h3;rw [olda (lv.1 hl3)] at hy;cases hy
theorem aH.major (R:aH O W φ):(dU O).1=(W.cut true).1∧∃ ψ,aH (dU O).2 (W.cut true).2 ψ:=by
 by_cases hfull:fp (W.pass true).1 W.T > W.grow
 ·have hsy:=R.sy;have hso:=R.so;have hnur:=R.nur;have hlen:=R.len;have PL:=R.yE;generalize Exists.choose _=N at PL;have e1:dU O=(3,O):=by unfold dU;rw [if_pos (by rw [PL.sum];omega)]
  rw [e1,W.tD hfull];exact ⟨rfl,φ,R⟩
 ·obtain ⟨e,-,ψ,-,-,-,R'⟩:=R.Bd hfull;rw [W.xu hfull];exact ⟨e,ψ,R'⟩
end
end
section
def Wo.aX (O:Wo) (k:Int):Int:=O.rt.getD k.toNat 0
def Wo.jS (O:Wo) (r x:Int):Wo:={ O with rt:=O.rt.set r.toNat x }
def Wo.room (O:Wo) (n:Int):Int × Wo:=
 if n≤(O.ar.nur:Int)-O.ar.yng then (0,O)
 else if (O.ar.yng:Int)≤(O.ar.ws.length:Int)-O.ar.grn then g9 O else dU O
def storesA (A:Ar) (p:Int):List Int→Ar
 | []=>A
 | x :: l=>storesA (A.store p x) (p+1) l
def Wo.lay (P:Wo) (r k:Int) (fr:List Int):Wo:=
 { P with ar:=storesA (P.ar.make k fr.length).2 ((P.ar.make k fr.length).1+1) (fr.map P.aX),rt:=P.rt.set r.toNat (g8 (P.ar.make k fr.length).1) }
def Wo.bU (O:Wo) (r k:Int) (fr:List Int):Int × Wo:=
 if (O.room (1+fr.length)).1=0 then (0,(O.room (1+fr.length)).2.lay r k fr) else O.room (1+fr.length)
def Wo.j5 (O:Wo) (x:Int):Bool:=decide ((O.ar.aV x).2.2.2=0) && decide ((O.ar.aV x).2.1=5)
def Wo.fT (O:Wo) (a b:Int):Int × Wo:=
 if (O.ar.aV (O.aX a)).2.2.2≠0 then ((O.ar.aV (O.aX a)).2.2.2,O)
 else if O.j5 (O.aX b)=false then (2,O)
 else if 24≤O.rg.length+O.wt.length then (3,O)
 else (0, { O with rg:=O.rg ++ [(O.aX b,O.aX a)] })
def Wo.pop (O:Wo) (r a:Int):Int × Wo:=
 if O.j5 (O.aX a)=false then (2,O)
 else match popW O.wt (O.aX a) with
  | none=>(4,O)
  | some q=>(0, { O with wt:=q.2,rt:=O.rt.set r.toNat q.1 })
def Wo.ig (O:Wo) (r:Int) (q:Int × Int):Int × Wo:=if q.2=0 then (0,O.jS r q.1) else (q.2,O)
def Wo.pM (O:Wo) (x:Int):Int × Int:=
 if (O.ar.aV x).2.2.2=0∧(O.ar.aV x).2.1=5 then (4*(O.ar.aV x).2.2.1,2) else (4*(O.ar.aV x).2.2.1,(O.ar.aV x).2.2.2)
def Wo.step (O:Wo) (x:St):Int × Wo:=
 if x.k=1 then (0,O.jS x.r (4*x.n))
 else if x.k=2 then (0,O.jS x.r 2)
 else if x.k=3 then (0,O.jS x.r (O.aX x.a))
 else if x.k=4 then O.bU x.r 1 [x.a,x.b]
 else if x.k=5 then O.bU x.r 2 (List.replicate x.n.toNat x.a)
 else if x.k=6 then O.bU x.r 3 [x.a,x.b]
 else if x.k=7 then O.bU x.r 4 [x.a,x.b]
 else if x.k=8 then O.bU x.r 5 []
 else if x.k=9 then O.fT x.a x.b
 else if x.k=10 then O.pop x.r x.a
 else if x.k=11 then O.ig x.r (O.ar.get (O.aX x.a) x.i)
 else if x.k=12 then O.set (O.aX x.a) x.i (O.aX x.b)
 else if x.k=13 then O.ig x.r (O.pM (O.aX x.a))
 else if x.k=14 then (0,O.jS x.r (4*if O.aX x.a=O.aX x.b then 1 else 0))
 else if x.k=15 then g9 O
 else dU O
def Wo.do (O:Wo) (x:St):Int × Wo:=if bz x=0 then O.step x else (bz x,O)
theorem tE (A:Ar):∀ (l:List Int) (p:Int),(storesA A p l).nur=A.nur∧(storesA A p l).yng=A.yng∧(storesA A p l).grn=A.grn∧(storesA A p l).ws.length=A.ws.length:=by
 intro l
 induction l generalizing A with
 | nil=>intro p;exact ⟨rfl,rfl,rfl,rfl⟩
 | cons x l ih=>
  intro p;obtain ⟨h1,h2,h3,h4⟩:=ih (A.store p x) (p+1);exact ⟨h1.trans (A.cU p x),h2.trans (A.fy p x),h3.trans (A.dG p x),h4.trans (A.lH p x)⟩
theorem vY {A:Ar} (h:A.ok):∀ (l:List Int) (p:Int),(∀ x ∈ l,a9 x)→(storesA A p l).ok:=by
 intro l
 induction l generalizing A with
 | nil=>intro p _;exact h
 | cons x l ih=>intro p hx;exact ih (h.store p x (hx x (by simp))) (p+1) fun y hy=>hx y (by simp [hy])
theorem xv (A:Ar) (p x q:Int):(A.store p x).aL q=A.aL q:=by
 unfold Ar.aL Ar.az Ar.aI;rw [A.fy,A.cU,A.dG]
theorem tF {A:Ar} (h:A.ok):∀ (l:List Int) (p:Int),(∀ x ∈ l,a9 x)→(∀ j:Nat,j<l.length→A.aL (p+j)=true)→∀ q:Int,(storesA A p l).load q=if p≤q∧q<p+l.length then l.getD (q-p).toNat 0 else A.load q:=by
 intro l
 induction l generalizing A with
 | nil=>intro p _ _ q;rw [if_neg (fun h=>by have h2:=h.2;simp only [List.length_nil] at h2;omega)];rfl
 | cons x l ih=>
  intro p hx hu q;have hp:A.aL p=true:=by have:=hu 0 (by simp);simpa using this
  show (storesA (A.store p x) (p+1) l).load q=_
  rw [ih (h.store p x (hx x (by simp))) (p+1) (fun y hy=>hx y (by simp [hy])) (fun j hj=>by
   rw [xv];have:=hu (j+1) (by simp;omega)
   rwa [show p+((j+1:Nat):Int)=p+1+(j:Int) by omega] at this) q,Ar.eR h]
  simp only [List.length_cons];by_cases c:q=p
  ·subst c;rw [if_neg (by omega),if_pos ⟨rfl,hp⟩,if_pos (by omega)];simp
  ·rw [if_neg (c:=q=p∧_) (fun h=>c h.1)];by_cases c2:p+1≤q∧q<p+1+l.length
   ·rw [if_pos c2,if_pos (by omega),show (q-p).toNat=(q-(p+1)).toNat+1 by omega]
    rfl
   ·rw [if_neg c2,if_neg (by omega)]
section
variable {O:Wo} {W:Wd} {φ:Int→Int}
theorem aH.aX (R:aH O W φ) {k:Int} (hk:bJ k=true):O.aX k=ay φ (W.rt k):=by
 have h12:=R.hw.hr;simp only [bJ,Bool.and_eq_true,decide_eq_true_eq] at hk;unfold Wo.aX Wd.rt;rw [R.rt];simp only [Ld,List.getElem?_map];rw [Le (by omega)];rfl
theorem aH.room (R:aH O W φ) (n:Int):(O.room n).1=(W.room n).1∧∃ ψ,aH (O.room n).2 (W.room n).2 ψ:=by
 have h1:=R.sy;have h2:=R.so;have h3:=R.nur;have h4:=R.len;unfold Wo.room Wd.room;by_cases c:n≤(O.ar.nur:Int)-O.ar.yng
 ·rw [if_pos c,if_neg (by omega)];exact ⟨rfl,φ,R⟩
 ·rw [if_neg c,if_pos (c:=n > W.most-W.az) (by omega)];by_cases c2:(O.ar.yng:Int)≤(O.ar.ws.length:Int)-O.ar.grn
  ·rw [if_pos c2,show decide (W.az > W.grow-W.cm)=false from decide_eq_false (by omega)];exact aH.minor R
  ·rw [if_neg c2,show decide (W.az > W.grow-W.cm)=true from decide_eq_true (by omega)];exact aH.major R
theorem Wd.z9 (W:Wd) {n:Int} (h:(W.room n).1≠0):(W.room n).2=W:=by
 unfold Wd.room at *;split
 ·rename_i c;rw [if_pos c] at h;unfold Wd.cut at *;split
  ·rfl
  ·rename_i c1;rw [if_neg c1] at h;split
   ·rfl
   ·rename_i c2;rw [if_neg c2] at h;exact (h rfl).elim
 ·rfl
theorem vq {x:Int} (h0:0≤x) (h1:x≤1000000):g8 x=4*x+1:=IntWalk.i64_in _ (by omega)
theorem aH.lay {P:Wo} {V:Wd} {ψ:Int→Int} (R:aH P V ψ) {k r:Int} {fr:List Int} (hf:bm k fr.length=true) (hr:1+(fr.length:Int)≤(P.ar.nur:Int)-P.ar.yng) (hk:∀ x ∈ fr,bJ x=true) :
  aH (P.lay r k fr) (V.put r k (fr.map V.rt)) (lq V.T.length P.ar.yng ψ):=by
 have ha:=R.ho.ha;have a1:=ha.h1;have a2:=ha.h2;have a3:=ha.h3;have a4:=ha.h4;obtain ⟨m1,m2,m3,m4,m5,m6,m7⟩:=Ar.vR ha ⟨hf,hr⟩;have e1:(P.ar.make k fr.length).1=(P.ar.yng:Int):=by rw [Ar.pt ⟨hf,hr⟩]
 have hmo:=ha.make k fr.length;have hl:fr.map P.aX=fr.map (fun x=>ay ψ (V.rt x)):=List.map_congr_left fun x hx=>R.aX (hk x hx);have hR:∀ x ∈ fr.map P.aX,a9 x:=fun x hx=>by
  rw [hl] at hx;obtain ⟨y,hy,rfl⟩:=List.mem_map.1 hx;exact pK R (Wd.jl R.hw _)
 have hU:∀ j:Nat,j<(fr.map P.aX).length→(P.ar.make k fr.length).2.aL ((P.ar.yng:Int)+1+j)=true:=fun j hj=>by
  rw [List.length_map] at hj;unfold Ar.aL Ar.az;rw [Bool.or_eq_true];left;simp;omega
 have SK:=tE (P.ar.make k fr.length).2 (fr.map P.aX) ((P.ar.yng:Int)+1);have SL:=tF hmo (fr.map P.aX) ((P.ar.yng:Int)+1) hR hU;have hlen:((fr.map V.rt).length:Int)=fr.length:=by simp
 unfold Wo.lay;rw [e1,vq (by omega) (by omega)];refine R.put (vY hmo _ _ hR) (SK.1.trans m5) (SK.2.2.1.trans m6) (SK.2.2.2.trans m7) (by rw [SK.2.1,hlen];exact m4) (fun q hq=>?_) ?_ (fun j v hv=>?_) (fun v hv=>?_) (by rw [List.length_map];exact hf)
 ·rw [SL q,if_neg,m1 q hq];rintro ⟨h1,h2⟩;simp only [List.length_map] at h2;have:P.ar.az q=false:=by
   cases hy:P.ar.az q
   ·rfl
   ·have:=Proofs.YtjifdalflepcoacGreat.bP.1 hy;omega
  have h3:P.ar.aI q=true:=by unfold Ar.aL at hq;rw [this] at hq;exact hq
  have:=Proofs.YtjifdalflepcoacGreat.c6.1 h3;omega
 ·unfold Ar.ai;rw [SL,if_neg (by omega),m2,xh hf,hlen]
 ·rw [List.getElem?_map] at hv;cases hj:fr[j]? with
  | none=>rw [hj] at hv;cases hv
  | some y=>
   rw [hj] at hv;simp only [Option.map_some,Option.some.injEq] at hv;have hjl:=(List.getElem?_eq_some_iff.1 hj).1;rw [SL,if_pos (by rw [List.length_map];omega),hl,show ((P.ar.yng:Int)+1+(j:Int)-((P.ar.yng:Int)+1)).toNat=j by omega];simp only [Ld,List.getElem?_map,hj,Option.map_some,Option.getD_some,hv]
 ·obtain ⟨y,hy,rfl⟩:=List.mem_map.1 hv;exact Wd.jl R.hw _
theorem aH.bU (R:aH O W φ) {k r:Int} {fr:List Int} (hf:bm k fr.length=true) (hk:∀ x ∈ fr,bJ x=true) :
  (O.bU r k fr).1=(W.bU r k fr).1∧∃ ψ,aH (O.bU r k fr).2 (W.bU r k fr).2 ψ:=by
 have hfl:=bK hf;obtain ⟨e,ψ,R2⟩:=R.room (1+fr.length);have hro:=R.hw.room (1+fr.length) (by omega);unfold Wo.bU Wd.bU;by_cases c:(W.room (1+fr.length)).1=0
 ·rw [if_pos c,if_pos (e.trans c)];refine ⟨rfl,_,R2.lay hf ?_ hk⟩;have:=hro.2 c;have:=R2.sy;have:=R2.nur;omega
 ·rw [if_neg c,if_neg (by rw [e];exact c)];rw [Wd.z9 W c] at R2;exact ⟨e,ψ,R2⟩
theorem Wd.ey {k:Int} (hok:W.ok):W.ai k<0↔(W.rt k).1≠3:=by
 unfold Wd.ai;by_cases h3:(W.rt k).1=3
 ·rw [if_pos h3];have:=(Wd.aY (Wd.jl hok k) h3).1;constructor
  ·intro;omega
  ·intro h;exact (h h3).elim
 ·rw [if_neg h3];exact ⟨fun _=>h3,fun _=>by omega⟩
theorem aH.j5 (R:aH O W φ) {k:Int} (hk:bJ k=true):O.j5 (O.aX k)=false↔W.guard k<0:=by
 unfold Wo.j5;rw [R.aX hk,R.aV (Wd.jl R.hw k)];unfold Wd.guard;by_cases h3:(W.rt k).1=3
 ·have et:W.ai k=(W.rt k).2:=if_pos h3;have hlv:=Wd.aY (Wd.jl R.hw k) h3;have:=hlv.1;rw [if_pos h3,et];by_cases c:(W.th (W.rt k).2).k=5
  ·rw [if_neg (by omega)];simp [c];omega
  ·rw [if_pos (.inr c)];simp [c]
 ·rw [if_neg h3,if_pos (.inl ((Wd.ey R.hw).2 h3))];simp
theorem tG {g:Int} (hg:W.live g) (hinj:∀ i j,W.live i→W.live j→φ i=φ j→i=j):∀ (l:List (Int × Int)),(∀ e ∈ l,W.dD e)→popW (l.map (bp φ)) (4*φ g+1)=(popW l g).map fun r=>(4*φ r.1+1,r.2.map (bp φ))
 | [],_=>rfl
 | e :: l,h=>by
  have ih:=tG hg hinj l fun x hx=>h x (by simp [hx]);have he:=(h e (by simp)).1;rw [List.map_cons];unfold popW;by_cases c:e.1=g
  ·rw [if_pos c,if_pos (by unfold bp;dsimp only;rw [c])];rfl
  ·rw [if_neg c,if_neg (by unfold bp;dsimp only;intro hh;exact c (hinj _ _ he hg (by omega))),ih];cases popW l g <;> rfl
theorem aH.CL (R:aH O W φ) {wt:List (Int × Int)} (h1:∀ e ∈ wt,e ∈ W.wait) (h2:wt.length≤W.wait.length):aH { O with wt:=wt.map (bp φ) } { W with wait:=wt } φ:=by
 have e1:O.wt.length=W.wait.length:=by rw [R.wt];simp
 refine ⟨⟨R.ho.ha,R.ho.h12,R.ho.hR,R.ho.hg,fun x hx=>?_,?_,R.ho.hc⟩,?_,R.ty,R.tz,R.inj,R.onto,R.iny,R.ino,R.th,R.fl,R.rt,R.rg,rfl,R.nur,R.len,R.cl,R.card⟩
 ·obtain ⟨e,he,rfl⟩:=List.mem_map.1 hx;refine R.ho.hw _ ?_;rw [R.wt];exact List.mem_map.2 ⟨e,h1 e he,rfl⟩
 ·have:=R.ho.hq
  show O.rg.length+(wt.map _).length≤24
  rw [List.length_map];omega
 ·have h:=R.hw;refine ⟨h.hr,h.rv,h.tk,h.tv,h.gv,fun x hx=>h.wv x (h1 x hx),?_,h.m1,h.m2,h.g1,h.g2,h.uy,h.uo⟩;have:=h.hq
  show W.ah.length+wt.length≤24
  omega
theorem aH.pop (R:aH O W φ) {x:St} (hk:bJ x.a=true):(O.pop x.r x.a).1=(W.pop x).1∧∃ ψ,aH (O.pop x.r x.a).2 (W.pop x).2 ψ:=by
 unfold Wo.pop Wd.pop;by_cases c:W.guard x.a<0
 ·rw [if_pos c,if_pos ((R.j5 hk).2 c)];exact ⟨rfl,φ,R⟩
 ·rw [if_neg c,if_neg (fun h=>c ((R.j5 hk).1 h))];have hg:=Wd.qy R.hw c;have e:O.aX x.a=4*φ (W.guard x.a)+1:=by
   rw [R.aX hk];have hne:¬ (W.ai x.a<0∨(W.th (W.ai x.a)).k≠5):=fun h=>by unfold Wd.guard at c;rw [if_pos h] at c;omega
   have h3:(W.rt x.a).1=3:=Decidable.byContradiction fun h=>hne (.inl ((Wd.ey R.hw).2 h));have:W.guard x.a=(W.rt x.a).2:=by unfold Wd.guard;rw [if_neg hne];unfold Wd.ai;rw [if_pos h3]
   rw [this,bF φ h3]
  rw [e,R.wt,tG hg.1 R.inj _ R.hw.wv];cases hp:popW W.wait (W.guard x.a) with
  | none=>exact ⟨rfl,φ,R⟩
  | some q=>
   have hm:=mN hp;have R2:=R.CL (wt:=q.2) hm.2.1 (by omega);have hv:({ W with wait:=q.2 }:Wd).cC (3,q.1):=.inr (.inr (.inr ⟨rfl,(R.hw.wv _ hm.1).2.2⟩));have R3:=R2.cG hv x.r;exact ⟨rfl,φ,R3⟩
theorem aH.do (R:aH O W φ) (x:St):(O.do x).1=(W.do x).1∧∃ ψ,aH (O.do x).2 (W.do x).2 ψ:=by
 unfold Wo.do Wd.do
 by_cases hc:¬ bz x=0
 ·rw [if_neg hc,if_neg hc];exact ⟨rfl,φ,R⟩
 have hc:bz x=0:=Decidable.not_not.1 hc;rw [if_pos hc,if_pos hc];have hu:=aD hc;have ok:∀ k,W.cC (W.rt k):=fun k=>Wd.jl R.hw k;unfold Wo.step Wd.step;by_cases k1:x.k=1
 ·rw [if_pos k1,if_pos k1];exact ⟨rfl,φ,R.cG (Wd.mh (hu.2.2.2.2.1 k1).1 (hu.2.2.2.2.1 k1).2) _⟩
 rw [if_neg k1,if_neg k1];by_cases k2:x.k=2
 ·rw [if_pos k2,if_pos k2];exact ⟨rfl,φ,R.cG (v:=(0,0)) (.inl ⟨rfl,rfl⟩) _⟩
 rw [if_neg k2,if_neg k2];by_cases k3:x.k=3
 ·rw [if_pos k3,if_pos k3];have ha:bJ x.a=true:=hu.2.2.1 (by rw [k3];rfl);rw [R.aX ha];exact ⟨rfl,φ,R.cG (ok _) _⟩
 rw [if_neg k3,if_neg k3];by_cases k4:x.k=4
 ·rw [if_pos k4,if_pos k4];have ha:bJ x.a=true:=hu.2.2.1 (by rw [k4];rfl);have hb:bJ x.b=true:=hu.2.2.2.1 (by rw [k4];rfl);exact R.bU rfl (by simp [ha,hb])
 rw [if_neg k4,if_neg k4];by_cases k5:x.k=5
 ·rw [if_pos k5,if_pos k5];have ha:bJ x.a=true:=hu.2.2.1 (by rw [k5];rfl);have h5:=hu.2.2.2.2.2 k5;refine R.bU ?_ fun y hy=>by rw [(List.mem_replicate.1 hy).2];exact ha
  simp [bm];omega
 rw [if_neg k5,if_neg k5];by_cases k6:x.k=6
 ·rw [if_pos k6,if_pos k6];have ha:bJ x.a=true:=hu.2.2.1 (by rw [k6];rfl);have hb:bJ x.b=true:=hu.2.2.2.1 (by rw [k6];rfl);exact R.bU rfl (by simp [ha,hb])
 rw [if_neg k6,if_neg k6];by_cases k7:x.k=7
 ·rw [if_pos k7,if_pos k7];have ha:bJ x.a=true:=hu.2.2.1 (by rw [k7];rfl);have hb:bJ x.b=true:=hu.2.2.2.1 (by rw [k7];rfl);exact R.bU rfl (by simp [ha,hb])
 rw [if_neg k7,if_neg k7];by_cases k8:x.k=8
 ·rw [if_pos k8,if_pos k8];exact R.bU rfl (by simp)
 rw [if_neg k8,if_neg k8];by_cases k9:x.k=9
 ·rw [if_pos k9,if_pos k9];have ha:bJ x.a=true:=hu.2.2.1 (by rw [k9];rfl);have hb:bJ x.b=true:=hu.2.2.2.1 (by rw [k9];rfl);unfold Wo.fT Wd.fT;have tA:=R.aV (ok x.a);rw [←R.aX ha] at tA;by_cases h3:¬ (W.rt x.a).1=3
  ·rw [if_neg h3] at tA;rw [tA,if_pos (by decide),if_pos (.inl ((Wd.ey R.hw).2 h3))];exact ⟨rfl,φ,R⟩
  have h3:(W.rt x.a).1=3:=Decidable.not_not.1 h3;rw [if_pos h3] at tA;rw [tA];dsimp only;rw [if_neg (show ¬ (0:Int)≠0 by decide)];by_cases c:W.guard x.b<0
  ·rw [if_pos ((R.j5 hb).2 c),if_pos (.inr c)];exact ⟨rfl,φ,R⟩
  have hna:¬ W.ai x.a<0:=fun h=>(Wd.ey R.hw).1 h h3;have n1:¬ O.j5 (O.aX x.b)=false:=fun h=>c ((R.j5 hb).1 h);have n2:¬ (W.ai x.a<0∨W.guard x.b<0):=fun h=>by rcases h with h | h;exact hna h;exact c h
  rw [if_neg n1,if_neg n2];have e1:O.rg.length=W.ah.length:=by rw [R.rg];simp
  have e2:O.wt.length=W.wait.length:=by rw [R.wt];simp
  rw [e1,e2];by_cases c2:24≤W.ah.length+W.wait.length
  ·rw [if_pos c2,if_pos c2];exact ⟨rfl,φ,R⟩
  rw [if_neg c2,if_neg c2];have hg:=Wd.qy R.hw c;have hla:=Wd.eQ R.hw hna;have hE:W.dD (W.guard x.b,W.ai x.a):=⟨hg.1,hg.2.1,hla⟩;have eA:O.aX x.a=4*φ (W.ai x.a)+1:=by rw [R.aX ha,bF φ h3];unfold Wd.ai;rw [if_pos h3]
  have eB:O.aX x.b=4*φ (W.guard x.b)+1:=by
   rw [R.aX hb];have hne:¬ (W.ai x.b<0∨(W.th (W.ai x.b)).k≠5):=fun h=>by unfold Wd.guard at c;rw [if_pos h] at c;omega
   have h3:(W.rt x.b).1=3:=Decidable.byContradiction fun h=>hne (.inl ((Wd.ey R.hw).2 h));have:W.guard x.b=(W.rt x.b).2:=by unfold Wd.guard;rw [if_neg hne];unfold Wd.ai;rw [if_pos h3]
   rw [this,bF φ h3]
  refine ⟨rfl,φ,?_⟩;rw [eA,eB];exact aH.fT R hE (by omega)
 rw [if_neg k9,if_neg k9];by_cases k10:x.k=10
 ·rw [if_pos k10,if_pos k10];exact R.pop (hu.2.2.1 (by rw [k10];rfl))
 rw [if_neg k10,if_neg k10];have h3t:∀ k,(W.rt k).1=3→W.ai k=(W.rt k).2:=fun k h=>if_pos h;have hfc:(if (W.rt x.a).1≠3∨(W.th (W.rt x.a).2).k=5 then (2:Int) else if x.i<0∨((W.th (W.rt x.a).2).fs.length:Int)≤x.i then 1 else 0)=W.cz x:=by
  unfold Wd.cz;by_cases h3:(W.rt x.a).1=3
  ·have hna:¬ W.ai x.a<0:=fun h=>(Wd.ey R.hw).1 h h3;rw [h3t _ h3];rw [h3t _ h3] at hna;by_cases c:(W.th (W.rt x.a).2).k=5
   ·rw [if_pos (.inr c),if_pos (.inr c)]
   ·have n1:¬ ((W.rt x.a).1≠3∨(W.th (W.rt x.a).2).k=5):=fun h=>by rcases h with h | h;exact h h3;exact c h
    have n2:¬ ((W.rt x.a).2<0∨(W.th (W.rt x.a).2).k=5):=fun h=>by rcases h with h | h;exact hna h;exact c h
    rw [if_neg n1,if_neg n2]
  ·rw [if_pos (.inl h3),if_pos (.inl ((Wd.ey R.hw).2 h3))]
 by_cases k11:x.k=11
 ·rw [if_pos k11,if_pos k11];have ha:bJ x.a=true:=hu.2.2.1 (by rw [k11];rfl);rw [R.aX ha,R.get (ok x.a)];unfold Wo.ig Wd.get;rw [←hfc];by_cases c1:(W.rt x.a).1≠3∨(W.th (W.rt x.a).2).k=5
  ·simp only [if_pos c1];exact ⟨rfl,φ,R⟩
  ·simp only [if_neg c1];by_cases c2:x.i<0∨((W.th (W.rt x.a).2).fs.length:Int)≤x.i
   ·simp only [if_pos c2];exact ⟨rfl,φ,R⟩
   ·simp only [if_neg c2];have h3:(W.rt x.a).1=3:=Decidable.byContradiction fun h=>c1 (.inl h);rw [h3t _ h3];refine ⟨rfl,φ,R.cG ?_ _⟩;refine R.hw.tv _ (Wd.aY (ok x.a) h3) _ ?_;have hl:x.i.toNat<(W.th (W.rt x.a).2).fs.length:=by omega
    rw [Ld,Le hl];exact List.getElem_mem _
 rw [if_neg k11,if_neg k11];by_cases k12:x.k=12
 ·rw [if_pos k12,if_pos k12];have ha:bJ x.a=true:=hu.2.2.1 (by rw [k12];rfl);have hb:bJ x.b=true:=hu.2.2.2.1 (by rw [k12];rfl);rw [R.aX ha,R.aX hb];obtain ⟨s1,s2,s3⟩:=aH.set R (ok x.a) (ok x.b) x.i;unfold Wd.set;rw [hfc] at s1;by_cases c:W.cz x=0
  ·rw [if_pos c];have h3:(W.rt x.a).1=3:=Decidable.byContradiction fun h=>by rw [←hfc,if_pos (.inl h)] at c;cases c
   rw [h3t _ h3];exact ⟨s1.trans c,φ,s3 (s1.trans c)⟩
  ·rw [if_neg c];rw [s2 (by rw [s1];exact c)];exact ⟨s1,φ,R⟩
 rw [if_neg k12,if_neg k12];by_cases k13:x.k=13
 ·rw [if_pos k13,if_pos k13];have ha:bJ x.a=true:=hu.2.2.1 (by rw [k13];rfl);unfold Wo.pM Wd.len;rw [R.aX ha,R.aV (ok x.a)];by_cases h3:(W.rt x.a).1=3
  ·have hna:¬ W.ai x.a<0:=fun h=>(Wd.ey R.hw).1 h h3;have hlv:=Wd.aY (ok x.a) h3;rw [if_pos h3];by_cases c:(W.th (W.rt x.a).2).k=5
   ·have n2:W.ai x.a<0∨(W.th (W.ai x.a)).k=5:=.inr (by rw [h3t _ h3];exact c);rw [if_pos n2];dsimp only;rw [if_pos ⟨rfl,c⟩];exact ⟨rfl,φ,R⟩
   ·have n2:¬ (W.ai x.a<0∨(W.th (W.ai x.a)).k=5):=fun h=>by rcases h with h | h;exact hna h;rw [h3t _ h3] at h;exact c h
    rw [if_neg n2];dsimp only;rw [if_neg (fun h=>c h.2)];unfold Wo.ig;rw [if_pos rfl,h3t _ h3];have hfl:=(bK (R.hw.tk _ hlv)).2;have hbg:cN=1152921504606846976:=rfl;have hn1:-cN≤((W.th (W.rt x.a).2).fs.length:Int):=by omega
    have hn2:((W.th (W.rt x.a).2).fs.length:Int)<cN:=by omega
    exact ⟨rfl,φ,R.cG (Wd.mh hn1 hn2) _⟩
  ·have n2:W.ai x.a<0∨(W.th (W.ai x.a)).k=5:=.inl ((Wd.ey R.hw).2 h3);rw [if_neg h3,if_pos n2];exact ⟨rfl,φ,R⟩
 rw [if_neg k13,if_neg k13];by_cases k14:x.k=14
 ·rw [if_pos k14,if_pos k14];have ha:bJ x.a=true:=hu.2.2.1 (by rw [k14];rfl);have hb:bJ x.b=true:=hu.2.2.2.1 (by rw [k14];rfl);rw [R.aX ha,R.aX hb];unfold Wd.same;have key:(ay φ (W.rt x.a)=ay φ (W.rt x.b))↔W.rt x.a=W.rt x.b:=by
   refine ⟨fun h=>?_,fun h=>by rw [h]⟩;have h1:=ok x.a;have h2:=ok x.b;generalize W.rt x.a=u at *;generalize W.rt x.b=v at *;obtain ⟨u1,u2⟩:=u;obtain ⟨v1,v2⟩:=v;unfold ay at h;rcases h1 with a | a | a | a <;> rcases h2 with b | b | b | b
   all_goals (obtain ⟨a1,a2⟩:=a;obtain ⟨b1,b2⟩:=b;dsimp only at a1 a2 b1 b2 h;subst a1;subst b1)
   all_goals simp at h
   all_goals first | omega | skip
   ·rw [a2,b2]
   ·rw [show u2=v2 by omega]
   ·rw [a2,b2]
   ·rw [R.inj _ _ a2 b2 (by omega)]
  by_cases c:W.rt x.a=W.rt x.b
  ·rw [if_pos (key.2 c),if_pos c];exact ⟨rfl,φ,R.cG (Wd.mh (n:=1) (by decide) (by decide)) _⟩
  ·rw [if_neg (fun h=>c (key.1 h)),if_neg c];exact ⟨rfl,φ,R.cG (Wd.mh (n:=0) (by decide) (by decide)) _⟩
 rw [if_neg k14,if_neg k14];by_cases k15:x.k=15
 ·rw [if_pos k15,if_pos k15];exact aH.minor R
 ·rw [if_neg k15,if_neg k15];exact aH.major R
end
end
section
open Go.RowKit
structure HH where
 p:Nat
 a:WH
def HH.Own (h:HH) (k:Nat):Prop:=k=h.p∨h.a.Own k
structure a6 (w:World) (h:HH) (O:Wo):Prop where
 hp:aj w h.p [.pointer (some ⟨h.a.p,0,none⟩)] 71
 H:bh w h.a O
def aU (w:World) (h:HH) (w':World) (O:Wo):Prop:=∃ h',a6 w' h' O∧h'.p=h.p∧aa h.Own w w'∧∀ k,h'.Own k→h.Own k∨w.heap.size≤k
section
variable {w w':World} {h:HH} {O O':Wo}
theorem a6.Be (B:a6 w h O):¬ h.a.Own h.p:=fun h1=>by
 obtain ⟨c,T,hc,hT⟩:=B.H.bB h1;rcases hT with rfl | rfl | rfl | rfl | rfl | rfl | rfl <;> exact hc.ne B.hp (by decide) rfl
theorem a6.a5 (B:a6 w h O) {k:Nat} (hk:h.Own k):k<w.heap.size:=by
 rcases hk with rfl | hk
 ·exact B.hp.lt
 ·exact B.H.a5 hk
theorem a6.ab {S:Nat→Prop} (B:a6 w h O) (k:aa S w w') (hn:∀ b,h.Own b→¬ S b):a6 w' h O:=⟨k.aq B.hp (hn _ (.inl rfl)),B.H.ab k (fun b hb=>hn b (.inr hb))⟩
theorem a6.same (B:a6 w h O) (k:aa (fun _=>False) w w'):a6 w' h O:=B.ab k (fun _ _ h=>h)
theorem aU.same (B:a6 w h O) (k:aa (fun _=>False) w w'):aU w h w' O:=⟨h,B.same k,rfl,k.mono (fun _ _ h=>h.elim),fun k hk=>.inl hk⟩
theorem aU.rD (B:a6 w h O) (t:fQ w h.a w' O'):aU w h w' O':=by
 obtain ⟨h',H',e',k',o'⟩:=t;refine ⟨⟨h.p,h'⟩,⟨?_,H'⟩,rfl,k'.mono (fun b _ hb=>.inr hb),fun k hk=>?_⟩
 ·have:=k'.aq B.hp B.Be;rw [←e'] at this;exact this
 ·rcases hk with hk | hk
  ·exact .inl (.inl hk)
  ·exact (o' k hk).imp (fun h=>.inr h) id
theorem aU.aK {w1:World} (k:aa (fun _=>False) w w1) (t:aU w1 h w' O'):aU w h w' O':=by
 obtain ⟨h1,H1,e1,k1,o1⟩:=t;exact ⟨h1,H1,e1,(k.mono (fun _ _ h=>h.elim)).trans k1,fun b hb=>(o1 b hb).imp id (fun h=>Nat.le_trans k.size h)⟩
theorem a6.Bf (B:a6 w h O) (t:j4 w h.a w' O'):a6 w' h O'∧aa h.Own w w':=by
 have kk:=t.2.mono (fun k _ hk=>hk.own);exact ⟨⟨kk.aq B.hp B.Be,t.1⟩,kk.mono (fun b _ hb=>.inr hb)⟩
theorem a6.zv (B:a6 w h O) {g o cap k:Nat} {x:Int} (e:h.a.ro=.slice (some ⟨g,o,none⟩) 12 cap) (hk:k<12) (hx:a9 x) :
  a6 (w.setCell ⟨g,o+k,none⟩ (.int .i64 x)) h (O.jS k x)∧aa h.Own w (w.setCell ⟨g,o+k,none⟩ (.int .i64 x)):=by
 have h12:=B.H.ok.h12;obtain ⟨H',k'⟩:=B.H.rA (k:=k) (x:=x) (by rw [h12];exact e) (by rw [h12];exact hk) hx;have kk:aa h.a.Own w (w.setCell ⟨g,o+k,none⟩ (.int .i64 x)):=k'.mono (fun b _ hb=>.inr (.inr (.inr (.inr hb))));refine ⟨⟨kk.aq B.hp B.Be,?_⟩,kk.mono (fun b _ hb=>.inr hb)⟩;unfold Wo.jS;rw [Int.toNat_natCast];exact H'
theorem a6.pc (B:a6 w h O):w.cell? ⟨h.p,0,none⟩=some (.pointer (some ⟨h.a.p,0,none⟩))∧h.p<w.heap.size:=⟨B.hp.cell 0,B.hp.lt⟩
theorem a6.roots (B:a6 w h O):∃ g o cap,h.a.ro=.slice (some ⟨g,o,none⟩) 12 cap∧ak h.a.ro g∧w.cell? ⟨h.a.p,0,none⟩=some (.pointer (some ⟨h.a.pa,0,none⟩))∧w.cell? ⟨h.a.p,3,none⟩=some (.slice (some ⟨g,o,none⟩) 12 cap)∧h.a.p<w.heap.size ∧
  g<w.heap.size∧(∀ k,w.frozen? ⟨g,k,none⟩=false)∧∀ k:Nat,k<12→w.cell? ⟨g,o+k,none⟩=some (.int .i64 (O.aX k)):=by
 have h12:=B.H.ok.h12;obtain ⟨g',o',cap',hro,hown,hgl,q3,fz,rcs⟩:=B.H.roots;rw [h12] at hro q3;refine ⟨g',o',cap',hro,hown,B.H.dY.1,q3,B.H.hp.lt,hgl,fz,fun k hk=>?_⟩;have:=rcs k (by omega);unfold Wo.aX;rw [Int.toNat_natCast];exact this
theorem kO (h:O.ok) (k:Int):a9 (O.aX k):=by
 unfold Wo.aX;rw [Ld];by_cases hk:k.toNat<O.rt.length
 ·rw [Le hk];exact h.hR _ (List.getElem_mem hk)
 ·rw [List.getElem?_eq_none (by omega)];unfold a9;decide
def Aa (w:World) (n o:Int) (e:Ending) (w':World):Prop:=
 ∃ h:HH,e=.returned (.tuple #[.pointer (some ⟨h.p,0,none⟩), .agg #[.int .i64 0, .int .i64 0]])∧a6 w' h (Wo.new n o)∧aa (fun _=>False) w w'∧∀ k,h.Own k→w.heap.size≤k
theorem tH (n o:Int) (w:World) (h:Ar.fits n o=true) :
  Calls Tryz.prog 30 #[.int .i64 n, .int .i64 o] w fun e w'=>Aa w n o e w':=by
 go_enter Tryz.func30,Tryz.ntmps30;go_wp2_with fail;refine (yq n o _ h).mono ?_;rintro e w1 ⟨h,rfl,H1,k1,o1⟩;have ax:aj w1 w.heap.size [.int .i64 0, .int .i64 0] 28:=k1.aq (aj.newAt _ rfl rfl) (fun h=>h);have ka0:=(Kz w).alloc (.cells #[.int .i64 0, .int .i64 0] 28);have HK:=Hz (ka0.trans k1);have HA:=Hz H1;have HB:=Hz ax;have HO:Hid (∀ k,h.Own k→w.heap.size+1≤k):=fun k hk=>by have:=o1 k hk;simpa using this
 clear H1 k1 o1 ax ka0;generalize hb0:w.heap.size=b0 at HB HO ⊢;have HSB:=Hz (Nat.le_of_eq hb0);have HB0:=Hz hb0.symm;clear hb0;go_upto_region 2 with (fail)
 have kb:=(Kz w1).alloc (.cells #[.int .i64 0, .int .i64 0] 28);have d0:(w1.alloc (.cells #[.int .i64 0, .int .i64 0] 28)).cell? ⟨w1.heap.size,0,none⟩=some (.int .i64 0):=(aj.new w1 [.int .i64 0, .int .i64 0] 28).cell 0;have dl:w1.heap.size<(w1.alloc (.cells #[.int .i64 0, .int .i64 0] 28)).heap.size:=by simp
 have HK2:=Hz (HK.out.trans kb);have HA2:=Hz (HA.out.ab kb (fun _ _ h=>h));have HB2:=Hz (kb.aq HB.out (fun h=>h));clear kb HK HA HB;generalize w1.alloc (.cells #[.int .i64 0, .int .i64 0] 28)=w2 at *;have f0:=HB2.out.free 0;have f1:=HB2.out.free 1;have c0:=HB2.out.cell 0;have c1:=HB2.out.cell 1;have cl:=HB2.out.lt;simp only [Lz,aC] at c0 c1;go_wp2_with fail;have set:=((aa.refl (·=b0) w2).setCell (p:=⟨b0,0,none⟩) (.inl rfl) (.int .i64 0)).setCell (p:=⟨b0,1,none⟩) (.inl rfl) (.int .i64 0);have ka:=(Kz ((w2.setCell ⟨b0,0,none⟩ (.int .i64 0)).setCell ⟨b0,1,none⟩ (.int .i64 0))).alloc (.cells #[.pointer (some ⟨h.p,0,none⟩)] 71);have hbN:=((HB2.out.aG 0 (.int .i64 0)).aG 1 (.int .i64 0)).alloc (.cells #[.pointer (some ⟨h.p,0,none⟩)] 71);have x0':=hbN.cell 0;have x1':=hbN.cell 1;simp only [List.set_cons_zero,List.set_cons_succ,Lz,aC] at x0' x1';refine bodyPost_ret (v:=.tuple #[.pointer (some ⟨w2.heap.size,0,none⟩), .agg #[.int .i64 0, .int .i64 0]]) (by simp [results,Tryz.results30,go_sem,x0',x1']) rfl ?_;refine ⟨⟨w2.heap.size,h⟩,rfl,⟨aj.newAt _ (by simp) rfl,(HA2.out.ab set (fun b hb e=>by have:=HO.out b hb;omega)).ab ka (fun _ _ h=>h)⟩,?_,fun k hk=>?_⟩
 ·refine (HK2.out.then set (fun k hk=>.inr ?_)).trans ka;rw [hk];exact HSB.out
 ·rcases hk with rfl | hk
  ·exact HK2.out.size
  ·have:=HO.out k hk;have:=HSB.out;have:=HB0.out;omega
theorem Ab (n o:Int) (w:World) (h:Ar.fits n o=false) :
  Calls Tryz.prog 30 #[.int .i64 n, .int .i64 o] w fun e w'=>e=.returned (.tuple #[.pointer none, .agg #[.int .i64 1, .int .i64 (-1)]])∧aa (fun _=>False) w w':=by
 go_enter Tryz.func30,Tryz.ntmps30;go_wp2_with fail;refine (zT n o _ h).mono ?_;rintro e w1 ⟨rfl,hk⟩;have ka0:=(Kz w).alloc (.cells #[.int .i64 0, .int .i64 0] 28);have ax:aj w1 w.heap.size [.int .i64 0, .int .i64 0] 28:=hk.aq (aj.newAt _ rfl rfl) (fun h=>h);have HK:=Hz (ka0.trans hk);have HB:=Hz ax;clear hk ax ka0;generalize hb0:w.heap.size=b0 at HB ⊢;have HSB:=Hz (Nat.le_of_eq hb0);clear hb0;go_upto_region 2 with (fail)
 have kb:=(Kz w1).alloc (.cells #[.int .i64 1, .int .i64 (-1)] 28);have hn:=aj.new w1 [.int .i64 1, .int .i64 (-1)] 28;have d0:(w1.alloc (.cells #[.int .i64 1, .int .i64 (-1)] 28)).cell? ⟨w1.heap.size,0,none⟩=some (.int .i64 1):=hn.cell 0;have d1:(w1.alloc (.cells #[.int .i64 1, .int .i64 (-1)] 28)).cell? ⟨w1.heap.size,1,none⟩=some (.int .i64 (-1)):=hn.cell 1;have dl:w1.heap.size<(w1.alloc (.cells #[.int .i64 1, .int .i64 (-1)] 28)).heap.size:=by simp
 have HK2:=Hz (HK.out.trans kb);have HB2:=Hz (kb.aq HB.out (fun h=>h));clear kb HK HB hn;generalize w1.alloc (.cells #[.int .i64 1, .int .i64 (-1)] 28)=w2 at *;have f0:=HB2.out.free 0;have f1:=HB2.out.free 1;have c0:=HB2.out.cell 0;have c1:=HB2.out.cell 1;have cl:=HB2.out.lt;simp only [Lz,aC] at c0 c1;go_wp2_with fail;refine a8 (.free 1 (.pure 0 (.run 2 (.swi [] (.fin))))) [2] (Fz d0 (Fa d1)) ?_
 iterate 2 refine Wz ?_
 refine aA rfl rfl rfl (fun K hK=>?_);unfold aw;go_simp;refine hK _ _ ?_;clear hK K;refine aB (fun _=>True) trivial (av ?_);go_wp2_with fail;have hbN:=(HB2.out.aG 0 (.int .i64 1)).aG 1 (.int .i64 (-1));have x0':=hbN.cell 0;have x1':=hbN.cell 1;simp only [List.set_cons_zero,List.set_cons_succ,Lz,aC] at x0' x1';refine bodyPost_ret (v:=.tuple #[.pointer none, .agg #[.int .i64 1, .int .i64 (-1)]]) (by simp [results,Tryz.results30,go_sem,c0,c1,x0',x1']) rfl ⟨rfl,?_⟩;exact (HK2.out.drew.setCell (p:=⟨b0,0,none⟩) (.inr HSB.out) _).setCell (p:=⟨b0,1,none⟩) (.inr HSB.out) _
end
end
section
open Go.RowKit
theorem oh (A:Ar):∀ (l:List Int) (p x:Int),storesA A p (l ++ [x])=(storesA A p l).store (p+l.length) x
 | [],p,x=>by simp [storesA]
 | y :: l,p,x=>by
  show storesA (A.store p y) (p+1) (l ++ [x])=(storesA (A.store p y) (p+1) l).store _ x
  rw [oh _ l (p+1) x,List.length_cons];congr 1
  push_cast
  omega
def qJ (w:World) (h:HH) (w':World) (O:Wo):Prop:=a6 w' h O∧aa h.Own w w'
theorem qJ.to {w w':World} {h:HH} {O:Wo} (t:qJ w h w' O):aU w h w' O:=⟨h,t.1,rfl,t.2,fun k hk=>.inl hk⟩
theorem Bg {w:World} {ao:Option Addr} {l:List Nat} (h:Rd w ao (l.map fun (k:Nat)=>Value.int .i64 (k:Int))) (i:Nat) (hi:i<l.length) :
  ∃ g o,ao=some ⟨g,o,none⟩∧g<w.heap.size∧w.cell? ⟨g,o+i,none⟩=some (.int .i64 ((l.getD i 0:Nat):Int)):=by
 obtain ⟨g,o,rfl,hg,hc⟩:=h (by intro e;simp at e;subst e;simp at hi);refine ⟨g,o,rfl,hg,?_⟩;rw [hc i (by simpa using hi)];simp [List.getD,hi]
section
variable {w w':World} {h:HH} {O O':Wo}
theorem iD (r:Nat) (x c:Int) (B:a6 w h O) (hr:r<12) (hx:a9 x) :
  Calls Tryz.prog 92 #[.pointer (some ⟨h.p,0,none⟩), .int .i64 r, .int .i64 x, .int .i64 c] w fun e w'=>e=.returned (.int .i64 (O.ig r (x,c)).1)∧qJ w h w' (O.ig r (x,c)).2:=by
 have HB:=Hz B;obtain ⟨b0,bl⟩:=B.pc;obtain ⟨g,o,cap,hro,hown,q0,q3,ql,gl,fz,rc⟩:=B.roots;have hf:=fz (o+r);have hc:=rc r hr;have hri:(r:Int)<12:=by omega
 have hin:=B.zv (x:=x) hro hr hx;have HIN:=Hz hin;clear hro hown fz rc hin B;by_cases h0:c=0
 ·subst h0;have HE:=Hz (show O.ig r (x,0)=(0,O.jS r x) from rfl);go_enter Tryz.func92,Tryz.ntmps92;go_wp2_with fail;go_ret;rw [HE.out];exact ⟨rfl,HIN.out⟩
 ·have hd:(c == 0)=false:=by simpa using h0
  have HE:=Hz (show O.ig r (x,c)=(c,O) by unfold Wo.ig;rw [if_neg h0]);clear h0;go_enter Tryz.func92,Tryz.ntmps92;go_wp2_with fail;go_ret;rw [HE.out];exact ⟨rfl,HB.out,aa.refl _ _⟩
def gq (w:World) (h:HH) (O:Wo) (n:Int) (e:Ending) (w':World):Prop:=e=.returned (.int .i64 (O.room n).1)∧aU w h w' (O.room n).2
theorem xw (n:Int) (B:a6 w h O) (hn:n≤(O.ar.nur:Int)-O.ar.yng) :
  Calls Tryz.prog 144 #[.pointer (some ⟨h.p,0,none⟩), .int .i64 n] w (gq w h O n):=by
 have HB:=Hz B;have HE:=Hz (show O.room n=(0,O) by unfold Wo.room;rw [if_pos hn]);have o1:=B.H.ok.ha.h1;have hn2:n≤((O.ar.nur-O.ar.yng:Nat):Int):=by omega
 obtain ⟨b0,bl⟩:=B.pc;have q0:=B.H.dY.1;have ql:=B.H.hp.lt;clear B hn o1;go_enter Tryz.func144,Tryz.ntmps144;go_wp2_with fail;refine (jY _ HB.out.H.ha).mono ?_;rintro e w1 ⟨rfl,hk⟩;have B1:=Hz (HB.out.same hk);have K1:=Hz hk;clear hk b0 bl q0 ql;obtain ⟨b0,bl⟩:=B1.out.pc;have q0:=B1.out.H.dY.1;have ql:=B1.out.H.hp.lt;generalize ((O.ar.nur-O.ar.yng:Nat):Int)=fr at *;generalize ((O.ar.ws.length-O.ar.grn:Nat):Int)=fo at *;go_wp2_with fail;refine (kT _ B1.out.H.ha).mono ?_;rintro e w2 ⟨rfl,hk⟩;have K2:=Hz (K1.out.trans hk);clear hk b0 bl q0 ql;go_wp2_with fail;go_ret;unfold gq;rw [HE.out];exact ⟨rfl,aU.same HB.out K2.out⟩
theorem ml (r:Nat) (kd:Int) (l:List Nat) (ao:Option Addr) (cap:Nat) (B:a6 w h O) (hr:r<12) (hl:∀ k ∈ l,k<12) (hf:bm kd l.length=true)
  (hrd:Rd w ao (l.map fun (k:Nat)=>Value.int .i64 (k:Int))) (ha:∀ a,ao=some a→a.block<w.heap.size→¬ h.Own a.block)
  (hroom:Calls Tryz.prog 144 #[.pointer (some ⟨h.p,0,none⟩), .int .i64 (1+(l.length:Int))] w (gq w h O (1+l.length)))
  (hfree:(O.room (1+l.length)).1=0→(1+(l.length:Int))≤((O.room (1+l.length)).2.ar.nur:Int)-(O.room (1+l.length)).2.ar.yng) :
  Calls Tryz.prog 93 #[.pointer (some ⟨h.p,0,none⟩), .int .i64 r, .int .i64 kd, .slice ao l.length cap] w fun e w'=>e=.returned (.int .i64 (O.bU r kd (l.map fun (k:Nat)=>(k:Int))).1)∧aU w h w' (O.bU r kd (l.map fun (k:Nat)=>(k:Int))).2:=by
 have HB:=Hz B;have HL:=Hz hl;have HF:=Hz hf;have HRD:=Hz hrd;have HA:=Hz ha;have HR:=Hz hroom;have hl12:=(bK hf).2.2.2;have HNO:=Hz (show (O.room (1+(l.length:Int))).1≠0→O.bU r kd (l.map fun (k:Nat)=>(k:Int))=O.room (1+(l.length:Int)) from fun h0=>by
  unfold Wo.bU;rw [List.length_map,if_neg h0])
 have HYES:=Hz (show (O.room (1+(l.length:Int))).1=0→O.bU r kd (l.map fun (k:Nat)=>(k:Int))=(0,(O.room (1+(l.length:Int))).2.lay r kd (l.map fun (k:Nat)=>(k:Int))) from fun h0=>by
  unfold Wo.bU;rw [List.length_map,if_pos h0])
 obtain ⟨⟨c,P⟩,hP⟩:∃ t,O.room (1+(l.length:Int))=t:=⟨_,rfl⟩;unfold gq at HR;rw [hP] at HR HNO HYES hfree;dsimp only at HR HNO HYES hfree;have hw1:IntKind.i64.wrap (1+(l.length:Int))=1+l.length:=IntWalk.i64_in _ (by omega);clear B hl hf hrd ha hroom hP;go_enter Tryz.func93,Tryz.ntmps93;go_wp2_with fail;refine HR.out.mono ?_;rintro e w1 ⟨rfl,ht⟩;by_cases h0:c=0
 ·subst h0;have HE:=Hz (HYES.out rfl);obtain ⟨h1,B1',ep,k1,o1⟩:=ht;have RD1:=Hz (HRD.out.ab k1 (fun a e hb=>HA.out a e hb));have HA1:=Hz (show ∀ a,ao=some a→a.block<w.heap.size→¬ h1.Own a.block from fun a e hb hn=>by
   rcases o1 _ hn with h2 | h2
   ·exact HA.out a e hb h2
   ·omega)
  have RDL:=Hz (show ∀ a,ao=some a→l≠[]→a.block<w.heap.size from fun a e hne=>by
   obtain ⟨g,o,e2,hg,_⟩:=HRD.out (by simpa using hne)
   rw [e] at e2;cases e2;exact hg)
  have B1:=Hz B1';have EP:=Hz ep;have K1:=Hz k1;have O1:=Hz o1;have hfr:=hfree rfl;have hfit:bm kd (l.length:Int)=true∧1+(l.length:Int)≤(P.ar.nur:Int)-P.ar.yng:=⟨HF.out,hfr⟩;have HMK:=Hz (Ar.pt hfit);have hmk1:(P.ar.make kd l.length).1=(P.ar.yng:Int):=by rw [HMK.out]
  have HNU:=Hz (show (P.ar.make kd l.length).2.nur=P.ar.nur by rw [HMK.out]);have q1:=B1'.H.ok.ha.h1;have q2:=B1'.H.ok.ha.h2;have q3:=B1'.H.ok.ha.h3;have q4:=B1'.H.ok.ha.h4;have yl:(P.ar.yng:Int)≤1280:=by omega
  rw [←ep];obtain ⟨b0,bl⟩:=B1'.pc;have p0:=B1'.H.dY.1;have pl:=B1'.H.hp.lt;clear B1' k1 o1 hfree HNO HYES hfr hfit q1 q2 q3 q4 ep hw1;go_wp2_with fail;have hmc:=AW kd l.length w1 B1.out.H.ha (by unfold a9;omega);rw [hmk1] at hmc;refine hmc.mono ?_;rintro e w2 ⟨rfl,ht2⟩;have hin:=B1.out.Bf (j4.bT B1.out.H ht2 HNU.out);have B2:=Hz hin.1;have K2:=Hz hin.2;clear ht2 hin b0 bl p0 pl hmc hmk1;generalize hA2:(P.ar.make kd l.length).2=A2 at *;have HA2:=Hz hA2;clear hA2;go_wp2_with fail;go_loopw [34] (fun u wr=>∃ k:Nat,k≤l.length∧u=.int .i64 k∧a6 wr h1 { P with ar:=storesA A2 ((P.ar.yng:Int)+1) ((l.take k).map fun (j:Nat)=>P.aX j) }∧aa h1.Own w2 wr) (fun u _=>l.length-(intOf u).toNat)
  case atStart=>exact ⟨0,Nat.zero_le _,rfl,B2.out,aa.refl _ _⟩
  case round=>
   obtain ⟨k,hk,rfl,hB,hK⟩:=hrel;have BR:=Hz hB;have KR:=Hz hK;clear hB hK;by_cases hlt:k<l.length
   ·have RDR:=(RD1.out.ab K2.out (fun a e hb hn=>by
     by_cases hne:l=[]
     ·subst hne;simp at hlt
     ·exact HA1.out a e (RDL.out a e hne) hn)).ab KR.out (fun a e hb hn=>by
     by_cases hne:l=[]
     ·subst hne;simp at hlt
     ·exact HA1.out a e (RDL.out a e hne) hn)
    obtain ⟨gl,ol,rfl,hgl,l0⟩:=Bg RDR k hlt;have hm:=HL.out (l.getD k 0) (by rw [Ld,Le hlt];exact List.getElem_mem _);have htk:((l.take (k+1)).map fun (j:Nat)=>P.aX (j:Int))=((l.take k).map fun (j:Nat)=>P.aX (j:Int)) ++ [P.aX ((l.getD k 0:Nat):Int)]:=by
     rw [List.take_add_one,Le hlt,List.map_append,Ld,Le hlt];rfl
    have HST:=Hz (show storesA A2 ((P.ar.yng:Int)+1) ((l.take (k+1)).map fun (j:Nat)=>P.aX j)=(storesA A2 ((P.ar.yng:Int)+1) ((l.take k).map fun (j:Nat)=>P.aX j)).store ((P.ar.yng:Int)+1+k) (P.aX ((l.getD k 0:Nat):Int)) by
     rw [htk,oh,List.length_map,List.length_take,Nat.min_eq_left hk])
    have HXR:=Hz (kO B1.out.H.ok ((l.getD k 0:Nat):Int));generalize l.getD k 0=m at *;obtain ⟨g,o,cap2,hro,hown,p0,p3,pl,gl2,fz,rc⟩:=BR.out.roots;have r0:=rc m hm;have r0:wr.cell? ⟨g,o+m,none⟩=some (.int .i64 (P.aX (m:Int))):=r0;generalize P.aX (m:Int)=x at *;obtain ⟨b0,bl⟩:=BR.out.pc;have hmi:(m:Int)<12:=by omega
    have hw1:IntKind.i64.wrap ((P.ar.yng:Int)+1)=P.ar.yng+1:=IntWalk.i64_in _ (by omega);have hw2:IntKind.i64.wrap ((P.ar.yng:Int)+1+(k:Int))=P.ar.yng+1+k:=IntWalk.i64_in _ (by omega);clear hro hown fz rc htk RDR;go_wp2_with fail;refine a8 (.free 0 (.free 1 (.free 2 (.free 7 (.free 8 (.free 9 (.free 10 (.free 11 (.free 12 (.free 13 (.free 18 (.pure 3 (.free 4 (.free 5 (.pure 6 (.pure 14 (.free 15 (.free 16 (.pure 17 (.free 19 (.pure 20 (.run 21 (.swi [] (.fin)))))))))))))))))))))))) [21] (Fz b0 (Fz p0 (Fz p3 (Fa r0)))) ?_
    iterate 21 refine Wz ?_
    refine aA rfl rfl rfl (fun K hK=>?_);unfold aw;go_simp;refine (gI _ x _ (BR.out.same ((Kz wr).drew)).H.ha HXR.out).mono ?_;rintro e w3 ⟨rfl,ht3⟩;refine hK _ _ ?_;clear hK K;refine aB (fun _=>True) trivial (av ?_);have hin:=(BR.out.same ((Kz wr).drew)).Bf (j4.bT (BR.out.same ((Kz wr).drew)).H ht3 (Ar.cU _ _ _));have BN:=Hz hin.1;have KN:=Hz ((KR.out.drew).trans hin.2);clear ht3 hin b0 bl p0 p3 pl gl2 r0 l0 hgl hw1 hw2;go_wp2_with fail;go_roundw
    case rel=>exact ⟨k+1,hlt,by go_num,by rw [HST.out];exact BN.out,KN.out⟩
    case measure=>simp [intOf];omega
   ·obtain rfl:k=l.length:=by omega
    rw [List.take_length] at BR;obtain ⟨g,o,cap2,hro,hown,p0,p3,pl,gl2,fz,rc⟩:=BR.out.roots;obtain ⟨b0,bl⟩:=BR.out.pc;have hf:=fz (o+r);have hc:=rc r hr;have hri:(r:Int)<12:=by omega
    have HRO:=Hz hro;clear hro hown fz rc;go_wp2_with fail;refine a8 (.free 0 (.free 1 (.free 2 (.free 7 (.free 8 (.pure 3 (.free 4 (.free 5 (.pure 6 (.run 9 (.free 10 (.run 11 (.swi [] (.fin)))))))))))))) [11] (Fz b0 (Fa p3)) ?_
    iterate 9 refine Wz ?_
    refine aM rfl rfl (fun K hK=>?_);unfold aw;go_simp;refine (zn (P.ar.yng:Int) _ (by omega) (by omega)).mono ?_;rintro e w5 ⟨rfl,rfl⟩;refine hK _ _ (fun hg=>hg) ?_;clear hK K;refine Wz ?_;refine aA rfl rfl rfl (fun K hK=>?_);unfold aw;go_simp;refine hK _ _ ?_;clear hK K;refine aB (fun _=>True) trivial (av ?_);have hin:=BR.out.zv (k:=r) (x:=4*(P.ar.yng:Int)+1) HRO.out hr (by unfold a9;omega);have hlay:P.lay r kd (l.map fun (k:Nat)=>(k:Int))=Wo.jS { P with ar:=storesA A2 ((P.ar.yng:Int)+1) (l.map fun (j:Nat)=>P.aX j) } r (4*(P.ar.yng:Int)+1):=by
     have h1:(P.ar.make kd l.length).1=(P.ar.yng:Int):=by rw [HMK.out]
     unfold Wo.lay Wo.jS;rw [List.length_map,HA2.out,h1,vq (by omega) (by omega),List.map_map]
     rfl
    have TO:=Hz (show aU w h (wr.setCell ⟨g,o+r,none⟩ (.int .i64 (4*(P.ar.yng:Int)+1))).drew (P.lay r kd (l.map fun (k:Nat)=>(k:Int))) by
     rw [hlay]
     exact ⟨h1,hin.1.same ((Kz _).drew),EP.out,K1.out.then (((K2.out.trans KR.out).trans hin.2).drew) O1.out,O1.out⟩)
    clear hin b0 bl p0 p3 pl gl2 hf hc hlay;go_wp2_with fail;go_ret;refine ⟨by rw [HE.out];rfl,?_⟩;rw [HE.out];exact TO.out
 ·have HE:=Hz (HNO.out h0);have hd:(c != 0)=true:=by simpa using h0
  have TO:=Hz ht;clear h0 ht;go_wp2_with fail;go_ret;exact ⟨by rw [HE.out];rfl,by rw [HE.out];exact TO.out⟩
end
end
section
open Go.RowKit
def bO (w:World) (h:HH) (O:Wo) (x:St) (e:Ending) (w':World):Prop:=e=.returned (.int .i64 (O.do x).1)∧aU w h w' (O.do x).2
section
variable {w w':World} {h:HH} {O O':Wo}
theorem xx {A:Ar} (h:A.ok) (x i:Int):a9 (A.get x i).1:=by
 unfold Ar.get;split
 ·unfold a9;decide
 ·split
  ·unfold a9;decide
  ·exact h.load _
theorem xy (n:Int) (h:-cN≤n∧n<cN):fK 1 n=(4*n,0):=by unfold fK;rw [if_neg (by decide),if_neg (by decide),if_pos rfl,if_pos h]
theorem yF (xr xa xb xi xn:Int) (B:a6 w h O) :
  Calls Tryz.prog 32 #[.pointer (some ⟨h.p,0,none⟩), .agg #[.int .i64 1, .int .i64 xr, .int .i64 xa, .int .i64 xb, .int .i64 xi, .int .i64 xn]] w (bO w h O ⟨1,xr,xa,xb,xi,xn⟩):=by
 unfold bO;have HB0:=Hz B;have ax:aj (w.alloc (.cells #[.int .i64 1, .int .i64 xr, .int .i64 xa, .int .i64 xb, .int .i64 xi, .int .i64 xn] 69)) w.heap.size [.int .i64 1, .int .i64 xr, .int .i64 xa, .int .i64 xb, .int .i64 xi, .int .i64 xn] 69:=aj.newAt _ rfl rfl;have ka:=(Kz w).alloc (.cells #[.int .i64 1, .int .i64 xr, .int .i64 xa, .int .i64 xb, .int .i64 xi, .int .i64 xn] 69);have s0:=ax.cell 0;have s1:=ax.cell 1;have s2:=ax.cell 2;have s3:=ax.cell 3;have s4:=ax.cell 4;have s5:=ax.cell 5;have sl:=ax.lt;simp only [Lz,aC] at s0 s1 s2 s3 s4 s5;have HSF:=Hz (fun w=>dx ⟨1,xr,xa,xb,xi,xn⟩ w);obtain ⟨c,hc⟩:∃ c,bz ⟨1,xr,xa,xb,xi,xn⟩=c:=⟨_,rfl⟩;rw [hc] at HSF;have HC:=Hz hc;have HB:=Hz ax;have KA:=Hz ka;clear ax hc ka B;go_enter Tryz.func32,Tryz.ntmps32;go_wp2_with (refine bA rfl 69 (.tmp 3) rfl [.int .i64 1, .int .i64 xr, .int .i64 xa, .int .i64 xb, .int .i64 xi, .int .i64 xn] (by kernel_rfl) w.heap.size 0 rfl (ae s0 (ae s1 (ae s2 (ae s3 (ae s4 (ae s5 a7)))))) ?_);refine (HSF.out _).mono ?_;rintro e w1 ⟨rfl,hk⟩;have HB1:=Hz ((HB0.out.same KA.out).same hk);have K1:=Hz (KA.out.trans hk);have SB1:=Hz (hk.aq HB.out (fun h=>h));have SFR:=Hz (show ¬ h.Own w.heap.size from fun e=>by have:=HB0.out.a5 e;omega);clear hk s0 s1 s2 s3 s4 s5 sl HSF KA HB;generalize w.heap.size=sb at *;have s0:=SB1.out.cell 0;have s1:=SB1.out.cell 1;have s2:=SB1.out.cell 2;have s3:=SB1.out.cell 3;have s4:=SB1.out.cell 4;have s5:=SB1.out.cell 5;have sl:=SB1.out.lt;simp only [Lz,aC] at s0 s1 s2 s3 s4 s5;by_cases h0:¬ c=0
 ·have HE:=Hz (show O.do ⟨1,xr,xa,xb,xi,xn⟩=(c,O) by unfold Wo.do;rw [HC.out,if_neg h0]);have hd:(c != 0)=true:=by simpa using h0
  clear h0;go_wp2_with fail;go_ret;exact ⟨by rw [HE.out];rfl,by rw [HE.out];exact aU.same HB0.out K1.out⟩
 have h0:c=0:=Classical.not_not.1 h0;subst h0;have hr:0≤xr∧xr<12:=(aJ _).1 ((aD HC.out).2.1 (show aP 1%2=1 by decide));obtain ⟨r,rfl⟩:∃ r:Nat,xr=r:=⟨xr.toNat,by omega⟩;have hr12:r<12:=by omega
 clear hr;have hn:-cN≤xn∧xn<cN:=(aD HC.out).2.2.2.2.1 rfl;have HE:=Hz (show O.do ⟨1,r,xa,xb,xi,xn⟩=O.ig r (4*xn,0) by unfold Wo.do;rw [if_pos HC.out];rfl);have HEN:=Hz (xy xn hn);have hx:a9 (4*xn):=by unfold a9;have:=hn.1;have:=hn.2;unfold cN at *;omega
 have hn64:a9 xn:=by unfold a9;have:=hn.1;have:=hn.2;unfold cN at *;omega
 have HX:=Hz hx;have HN64:=Hz hn64;clear hn hx hn64;go_wp2_with fail;refine (sL 1 xn _ HN64.out.1 HN64.out.2).mono ?_;rintro e w2 ⟨rfl,hk⟩;rw [HEN.out];have HB2:=Hz (HB1.out.same hk);have K2:=Hz (K1.out.trans hk);have SB2:=Hz (hk.aq SB1.out (fun h=>h));clear hk s0 s1 s2 s3 s4 s5 sl HB1 K1 SB1;have s1:=SB2.out.cell 1;have sl:=SB2.out.lt;simp only [Lz,aC] at s1;go_wp2_with fail;refine (iD r (4*xn) 0 HB2.out hr12 HX.out).mono ?_;rintro e w3 ⟨rfl,ht⟩;have TO:=Hz (aU.aK K2.out ht.to);clear ht s1 sl;go_wp2_with fail;go_ret;exact ⟨by rw [HE.out];rfl,by rw [HE.out];exact TO.out⟩
theorem yG (xr xa xb xi xn:Int) (B:a6 w h O) :
  Calls Tryz.prog 32 #[.pointer (some ⟨h.p,0,none⟩), .agg #[.int .i64 11, .int .i64 xr, .int .i64 xa, .int .i64 xb, .int .i64 xi, .int .i64 xn]] w (bO w h O ⟨11,xr,xa,xb,xi,xn⟩):=by
 unfold bO;have HB0:=Hz B;have ax:aj (w.alloc (.cells #[.int .i64 11, .int .i64 xr, .int .i64 xa, .int .i64 xb, .int .i64 xi, .int .i64 xn] 69)) w.heap.size [.int .i64 11, .int .i64 xr, .int .i64 xa, .int .i64 xb, .int .i64 xi, .int .i64 xn] 69:=aj.newAt _ rfl rfl;have ka:=(Kz w).alloc (.cells #[.int .i64 11, .int .i64 xr, .int .i64 xa, .int .i64 xb, .int .i64 xi, .int .i64 xn] 69);have s0:=ax.cell 0;have s1:=ax.cell 1;have s2:=ax.cell 2;have s3:=ax.cell 3;have s4:=ax.cell 4;have s5:=ax.cell 5;have sl:=ax.lt;simp only [Lz,aC] at s0 s1 s2 s3 s4 s5;have HSF:=Hz (fun w=>dx ⟨11,xr,xa,xb,xi,xn⟩ w);obtain ⟨c,hc⟩:∃ c,bz ⟨11,xr,xa,xb,xi,xn⟩=c:=⟨_,rfl⟩;rw [hc] at HSF;have HC:=Hz hc;have HB:=Hz ax;have KA:=Hz ka;clear ax hc ka B;go_enter Tryz.func32,Tryz.ntmps32;go_wp2_with (refine bA rfl 69 (.tmp 3) rfl [.int .i64 11, .int .i64 xr, .int .i64 xa, .int .i64 xb, .int .i64 xi, .int .i64 xn] (by kernel_rfl) w.heap.size 0 rfl (ae s0 (ae s1 (ae s2 (ae s3 (ae s4 (ae s5 a7)))))) ?_);refine (HSF.out _).mono ?_;rintro e w1 ⟨rfl,hk⟩;have HB1:=Hz ((HB0.out.same KA.out).same hk);have K1:=Hz (KA.out.trans hk);have SB1:=Hz (hk.aq HB.out (fun h=>h));have SFR:=Hz (show ¬ h.Own w.heap.size from fun e=>by have:=HB0.out.a5 e;omega);clear hk s0 s1 s2 s3 s4 s5 sl HSF KA HB;generalize w.heap.size=sb at *;have s0:=SB1.out.cell 0;have s1:=SB1.out.cell 1;have s2:=SB1.out.cell 2;have s3:=SB1.out.cell 3;have s4:=SB1.out.cell 4;have s5:=SB1.out.cell 5;have sl:=SB1.out.lt;simp only [Lz,aC] at s0 s1 s2 s3 s4 s5;by_cases h0:¬ c=0
 ·have HE:=Hz (show O.do ⟨11,xr,xa,xb,xi,xn⟩=(c,O) by unfold Wo.do;rw [HC.out,if_neg h0]);have hd:(c != 0)=true:=by simpa using h0
  clear h0;go_wp2_with fail;go_ret;exact ⟨by rw [HE.out];rfl,by rw [HE.out];exact aU.same HB0.out K1.out⟩
 have h0:c=0:=Classical.not_not.1 h0;subst h0;have hr:0≤xr∧xr<12:=(aJ _).1 ((aD HC.out).2.1 (show aP 11%2=1 by decide));obtain ⟨r,rfl⟩:∃ r:Nat,xr=r:=⟨xr.toNat,by omega⟩;have hr12:r<12:=by omega
 clear hr;have ha:0≤xa∧xa<12:=(aJ _).1 ((aD HC.out).2.2.1 (show aP 11/2%2=1 by decide));obtain ⟨a,rfl⟩:∃ a:Nat,xa=a:=⟨xa.toNat,by omega⟩;have ha12:a<12:=by omega
 clear ha;have HE:=Hz (show O.do ⟨11,r,a,xb,xi,xn⟩=O.ig r (O.ar.get (O.aX a) xi) by unfold Wo.do;rw [if_pos HC.out];rfl);obtain ⟨b0,bl⟩:=HB1.out.pc;obtain ⟨g,o,cap,hro,hown,q0,q3,ql,gl,fz,rc⟩:=HB1.out.roots;have ra:=rc a ha12;have ha12i:(a:Int)<12:=by omega
 clear hro hown fz rc;have hget:=qq (O.aX a) xi (HB1.out.same ((Kz w1).drew)).H;have HYR:=Hz (xx HB1.out.H.ok.ha (O.aX a) xi);generalize O.aX (a:Int)=va at *;obtain ⟨⟨y,e⟩,hS⟩:∃ t,O.ar.get va xi=t:=⟨_,rfl⟩;rw [hS] at hget HE HYR;have HGET:=Hz hget;clear hS hget;go_wp2_with fail;refine a8 (.free 0 (.free 1 (.free 2 (.free 4 (.free 5 (.free 6 (.free 11 (.free 15 (.pure 3 (.pure 7 (.free 8 (.free 9 (.pure 10 (.pure 12 (.free 13 (.pure 14 (.pure 16 (.run 17 (.swi [] (.free 18 (.free 19 (.free 20 (.free 21 (.free 22 (.fin))))))))))))))))))))))))) [17,18,19,20,21,22] (Fz b0 (Fz q3 (Fz ra (Fz s2 (Fa s4))))) ?_
 iterate 17 refine Wz ?_
 refine aA rfl rfl rfl (fun K hK=>?_);unfold aw;go_simp;refine HGET.out.mono ?_;rintro e3 w3 ⟨rfl,rfl⟩;refine hK _ _ ?_;clear hK K;refine aB (fun _=>True) trivial ?_
 iterate 5 refine Wz ?_
 refine av ?_;have kd:=(Kz w1).drew;have HB2:=Hz (HB1.out.same kd);have K2:=Hz (K1.out.trans kd);have SB2:=Hz (kd.aq SB1.out (fun h=>h));clear kd s0 s1 s2 s3 s4 s5 sl HB1 K1 SB1 b0 bl q0 q3 ql gl ra HGET;have s1:=SB2.out.cell 1;have sl:=SB2.out.lt;simp only [Lz,aC] at s1;go_wp2_with fail;refine (iD r y e HB2.out hr12 HYR.out).mono ?_;rintro e' w3 ⟨rfl,ht⟩;have TO:=Hz (aU.aK K2.out ht.to);clear ht s1 sl;go_wp2_with fail;go_ret;exact ⟨by rw [HE.out];rfl,by rw [HE.out];exact TO.out⟩
def gF (h:HH) (O:Wo) (n:Int):Prop:=(∀ w',a6 w' h O→Calls Tryz.prog 144 #[.pointer (some ⟨h.p,0,none⟩), .int .i64 n] w' (gq w' h O n))∧((O.room n).1=0→n≤((O.room n).2.ar.nur:Int)-(O.room n).2.ar.yng)
theorem xz (xr xa xb xi xn:Int) (B:a6 w h O) (hroom:gF h O 3) :
  Calls Tryz.prog 32 #[.pointer (some ⟨h.p,0,none⟩), .agg #[.int .i64 4, .int .i64 xr, .int .i64 xa, .int .i64 xb, .int .i64 xi, .int .i64 xn]] w (bO w h O ⟨4,xr,xa,xb,xi,xn⟩):=by
 unfold bO;have HRM:=Hz hroom;clear hroom;have HB0:=Hz B;have ax:aj (w.alloc (.cells #[.int .i64 4, .int .i64 xr, .int .i64 xa, .int .i64 xb, .int .i64 xi, .int .i64 xn] 69)) w.heap.size [.int .i64 4, .int .i64 xr, .int .i64 xa, .int .i64 xb, .int .i64 xi, .int .i64 xn] 69:=aj.newAt _ rfl rfl;have ka:=(Kz w).alloc (.cells #[.int .i64 4, .int .i64 xr, .int .i64 xa, .int .i64 xb, .int .i64 xi, .int .i64 xn] 69);have s0:=ax.cell 0;have s1:=ax.cell 1;have s2:=ax.cell 2;have s3:=ax.cell 3;have s4:=ax.cell 4;have s5:=ax.cell 5;have sl:=ax.lt;simp only [Lz,aC] at s0 s1 s2 s3 s4 s5;have HSF:=Hz (fun w=>dx ⟨4,xr,xa,xb,xi,xn⟩ w);obtain ⟨c,hc⟩:∃ c,bz ⟨4,xr,xa,xb,xi,xn⟩=c:=⟨_,rfl⟩;rw [hc] at HSF;have HC:=Hz hc;have HB:=Hz ax;have KA:=Hz ka;clear ax hc ka B;go_enter Tryz.func32,Tryz.ntmps32;go_wp2_with (refine bA rfl 69 (.tmp 3) rfl [.int .i64 4, .int .i64 xr, .int .i64 xa, .int .i64 xb, .int .i64 xi, .int .i64 xn] (by kernel_rfl) w.heap.size 0 rfl (ae s0 (ae s1 (ae s2 (ae s3 (ae s4 (ae s5 a7)))))) ?_);refine (HSF.out _).mono ?_;rintro e w1 ⟨rfl,hk⟩;have HB1:=Hz ((HB0.out.same KA.out).same hk);have K1:=Hz (KA.out.trans hk);have SB1:=Hz (hk.aq HB.out (fun h=>h));have SFR:=Hz (show ¬ h.Own w.heap.size from fun e=>by have:=HB0.out.a5 e;omega);clear hk s0 s1 s2 s3 s4 s5 sl HSF KA HB;generalize w.heap.size=sb at *;have s0:=SB1.out.cell 0;have s1:=SB1.out.cell 1;have s2:=SB1.out.cell 2;have s3:=SB1.out.cell 3;have s4:=SB1.out.cell 4;have s5:=SB1.out.cell 5;have sl:=SB1.out.lt;simp only [Lz,aC] at s0 s1 s2 s3 s4 s5;by_cases h0:¬ c=0
 ·have HE:=Hz (show O.do ⟨4,xr,xa,xb,xi,xn⟩=(c,O) by unfold Wo.do;rw [HC.out,if_neg h0]);have hd:(c != 0)=true:=by simpa using h0
  clear h0;go_wp2_with fail;go_ret;exact ⟨by rw [HE.out];rfl,by rw [HE.out];exact aU.same HB0.out K1.out⟩
 have h0:c=0:=Classical.not_not.1 h0;subst h0;have hr:0≤xr∧xr<12:=(aJ _).1 ((aD HC.out).2.1 (show aP 4%2=1 by decide));obtain ⟨r,rfl⟩:∃ r:Nat,xr=r:=⟨xr.toNat,by omega⟩;have hr12:r<12:=by omega
 clear hr;have ha:0≤xa∧xa<12:=(aJ _).1 ((aD HC.out).2.2.1 (show aP 4/2%2=1 by decide));obtain ⟨a,rfl⟩:∃ a:Nat,xa=a:=⟨xa.toNat,by omega⟩;have ha12:a<12:=by omega
 clear ha;have hb:0≤xb∧xb<12:=(aJ _).1 ((aD HC.out).2.2.2.1 (show aP 4/4%2=1 by decide));obtain ⟨b,rfl⟩:∃ b:Nat,xb=b:=⟨xb.toNat,by omega⟩;have hb12:b<12:=by omega
 clear hb;have HE:=Hz (show O.do ⟨4,r,a,b,xi,xn⟩=O.bU r 1 ([a,b].map fun (k:Nat)=>(k:Int)) by unfold Wo.do;rw [if_pos HC.out];rfl);have ka:=(Kz w1).alloc (.cells #[.int .i64 a, .int .i64 b] 3);have hbl:aj (w1.alloc (.cells #[.int .i64 a, .int .i64 b] 3)) w1.heap.size [.int .i64 a, .int .i64 b] 3:=aj.newAt _ rfl rfl;have hmk:=ml r 1 [a,b] (some ⟨w1.heap.size,0,none⟩) 2 (HB1.out.same ka) hr12 (by intro k hk;simp at hk;omega) (show bm 1 2=true by decide) (Rd.aq hbl 0 _ rfl) (fun ad e hb hn=>by cases e;have:=HB1.out.a5 hn;simp at this) (HRM.out.1 _ (HB1.out.same ka)) HRM.out.2;have HMK:=Hz hmk;have HKA:=Hz ka;clear ka hbl hmk;go_wp2_with fail;refine HMK.out.mono ?_;rintro e w3 ⟨rfl,ht⟩;have TO:=Hz (aU.aK (K1.out.trans HKA.out) ht);clear ht s0 s1 s2 s3 s4 s5 sl;go_wp2_with fail;go_ret;exact ⟨by rw [HE.out];rfl,by rw [HE.out];exact TO.out⟩
end
end
section
open Go.RowKit
def ez (F:Nat→Prop) (p:Nat) (rv wv:Value):Prop:=∀ k,¬ (F k∧aF p rv wv k)
structure eH (P:Program) (p:Nat) (τ:Type) where
 J:World→τ→(Nat→Prop)→Prop
 D:τ→Int→Prop
 DK:τ→Int→Prop
 alive:τ→Int→Bool
 ab:τ→List (Int × Int)→Int→τ × List (Int × Int) × Int
 now:τ→Int→Int
 fa:FuncId
 fk:FuncId
 fn:FuncId
 a1:Array Value
 a2:Array Value
 k1:Array Value
 k2:Array Value
 n1:Array Value
 n2:Array Value
 ea:∀ (args:Array Value) (w:World),(callFunc fa args).run P w=.ok (.enter fa args) w
 ek:∀ (args:Array Value) (w:World),(callFunc fk args).run P w=.ok (.enter fk args) w
 en:∀ (args:Array Value) (w:World),(callFunc fn args).run P w=.ok (.enter fn args) w
 J_keep:∀ {w w' t F S},J w t F→aa S w w'→(∀ k,F k→¬ S k)→J w' t F
 J_lt:∀ {w t F k},J w t F→F k→k<w.heap.size
 cS:∀ (w t F x),J w t F→D t x→Calls P fa (a1.push (.int .i64 x) ++ a2) w fun e w'=>e=.returned (.bool (alive t x))∧aa (fun _=>False) w w'
 now_c:∀ (w t F x),J w t F→D t x→Calls P fn (n1.push (.int .i64 x) ++ n2) w fun e w'=>e=.returned (.int .i64 (now t x))∧aa (fun _=>False) w w'
 keep_c:∀ (w t F rv wv ah wait x),J w t F→aZ w p rv wv ah wait→ez F p rv wv→DK t x→(∀ e ∈ wait,D t e.1∧D t e.2)→wait.length≤1000000 →
  Calls P fk (k1.push (.int .i64 x) ++ k2) w fun e w'=>e=.returned (.int .i64 (ab t wait x).2.2)∧∃ F',J w' (ab t wait x).1 F'∧aZ w' p rv wv ah (ab t wait x).2.1∧ez F' p rv wv ∧
   aa (fun k=>F k∨aF p rv wv k) w w'∧∀ k,F' k→F k∨w.heap.size≤k
 DK_D:∀ {t x},DK t x→D t x
 DK_keep:∀ {t wait x y},DK t x→DK t y→DK (ab t wait x).1 y
 D_keep:∀ {t wait x y},DK t x→D t y→D (ab t wait x).1 y
 D_new:∀ {t wait x},DK t x→D (ab t wait x).1 (ab t wait x).2.2
 D_wait:∀ {t wait x},DK t x→(∀ e ∈ wait,D t e.1∧D t e.2)→∀ e ∈ (ab t wait x).2.1,D (ab t wait x).1 e.1∧D (ab t wait x).1 e.2
 keep_len:∀ {t wait x},(ab t wait x).2.1.length=wait.length
def eH.val {P:Program} {p:Nat} {τ:Type} (L:eH P p τ):Value:=
 .agg #[.func (.func L.fa) L.a1 L.a2, .func (.func L.fk) L.k1 L.k2, .func (.func L.fn) L.n1 L.n2]
variable {τ:Type}
theorem tI (a b:List (Int × Int)):aE (a ++ b)=aE a ++ aE b:=by simp [aE]
theorem yH (pre rest:List (Int × Int)) (v:Int × Int) (x:Int):aE (pre ++ (v.1,x) :: rest)=(aE (pre ++ v :: rest)).set (pre.length*2+1) (.int .i64 x):=by
 rw [tI,tI,fw,fw,List.set_append_right _ _ (by rw [cD];omega),cD,show pre.length*2+1-pre.length*2=1 by omega]
 rfl
theorem aZ.tJ {w:World} {p g o cap n:Nat} {rv:Value} {ah pre rest:List (Int × Int)} {v:Int × Int} (x:Int) (h:aZ w p rv (.slice (some ⟨g,o,none⟩) n cap) ah (pre ++ v :: rest)) :
  aZ (w.setCell ⟨g,o+pre.length*2+1,none⟩ (.int .i64 x)) p rv (.slice (some ⟨g,o,none⟩) n cap) ah (pre ++ (v.1,x) :: rest):=by
 have hpg:p≠g:=fun e=>h.pw (by subst e;rfl);have hk:=(aa.refl (·=g) w).setCell (p:=⟨g,o+pre.length*2+1,none⟩) (.inl rfl) (.int .i64 x);refine ⟨h.hp.dO (a:=⟨g,_,none⟩) hpg _,h.hr.ab hk (by rintro b hb rfl;exact h.ap b ⟨hb,rfl⟩),?_,h.ap⟩;have hlen:(pre ++ (v.1,x) :: rest).length=(pre ++ v :: rest).length:=by simp
 obtain ⟨g',o',cap',cur,e,hb,h1,h2,h3,h4⟩:=h.hw.laid (by simp;omega);cases e;rw [hlen];refine ⟨by rw [cD,hlen], .inr ⟨g,o,cap,_,rfl,hb.aG _ _,h1,h2,by simpa using h3,?_⟩⟩;rw [yH,←h4];apply List.ext_getElem?;intro j;simp only [List.getElem?_take,List.getElem?_drop,List.getElem?_set,List.length_set,List.length_take,List.length_drop];by_cases hj:j<(pre ++ v :: rest).length*2
 ·rw [if_pos hj,if_pos hj];by_cases e:pre.length*2+1=j
  ·subst e;have hl:(pre ++ v :: rest).length=pre.length+1+rest.length:=by simp;omega
   rw [if_pos (by omega),if_pos rfl,if_pos (by omega),if_pos (by omega)]
  ·rw [if_neg (by omega),if_neg e]
 ·rw [if_neg hj];by_cases e:pre.length*2+1=j
  ·rw [if_pos e,if_neg (by omega)]
  ·rw [if_neg e,if_neg hj]
def fF {P:Program} {p:Nat} (L:eH P p τ) (kp:τ→Int→τ × Int) (t:τ) (F:Nat→Prop) (rv wv:Value) (ah wait:List (Int × Int)) (w wr:World) (k:Nat) (woke:Bool):Prop:=
 ∃ tk Fk pre,pre.length=k∧L.J wr tk Fk∧aZ wr p rv wv ah (pre ++ wait.drop k)∧ez Fk p rv wv∧aa (fun b=>F b∨aF p rv wv b) w wr∧(∀ b,Fk b→F b∨w.heap.size≤b) ∧
  (∀ e ∈ pre ++ wait.drop k,L.D tk e.1∧L.D tk e.2) ∧
  wakeM L.alive kp t wait=((wakeM L.alive kp tk (wait.drop k)).1,pre ++ (wakeM L.alive kp tk (wait.drop k)).2.1,woke || (wakeM L.alive kp tk (wait.drop k)).2.2)
def xA {P:Program} {p:Nat} (L:eH P p τ) (kp:τ→Int→τ × Int) (t:τ) (F:Nat→Prop) (rv wv:Value) (ah wait:List (Int × Int)) (w:World) (e:Ending) (w':World):Prop:=
 e=.returned (.bool (wakeM L.alive kp t wait).2.2)∧∃ F',L.J w' (wakeM L.alive kp t wait).1 F'∧aZ w' p rv wv ah (wakeM L.alive kp t wait).2.1∧ez F' p rv wv∧aa (fun b=>F b∨aF p rv wv b) w w'∧(∀ b,F' b→F b∨w.heap.size≤b) ∧
  (∀ e ∈ (wakeM L.alive kp t wait).2.1,L.D (wakeM L.alive kp t wait).1 e.1∧L.D (wakeM L.alive kp t wait).1 e.2)
theorem fF.skip {P:Program} {p:Nat} {L:eH P p τ} {kp:τ→Int→τ × Int} {t tk:τ} {F Fk:Nat→Prop} {rv wv:Value} {ah wait pre:List (Int × Int)} {v:Int × Int} {w wr w2:World} {k:Nat} {woke:Bool}
  (hpk:pre.length=k) (hdr:wait.drop k=v :: wait.drop (k+1)) (hJ:L.J wr tk Fk) (hS:aZ wr p rv wv ah (pre ++ v :: wait.drop (k+1))) (hA:ez Fk p rv wv) (hK:aa (fun b=>F b∨aF p rv wv b) w wr) (hF:∀ b,Fk b→F b∨w.heap.size≤b)
  (hD:∀ e ∈ pre ++ v :: wait.drop (k+1),L.D tk e.1∧L.D tk e.2)
  (hM:wakeM L.alive kp t wait=((wakeM L.alive kp tk (v :: wait.drop (k+1))).1,pre ++ (wakeM L.alive kp tk (v :: wait.drop (k+1))).2.1,woke || (wakeM L.alive kp tk (v :: wait.drop (k+1))).2.2))
  (hk2:aa (fun _=>False) wr w2) (hc:(L.alive tk v.1 && !L.alive tk v.2)=false):fF L kp t F rv wv ah wait w w2 (k+1) woke:=by
 have e:pre ++ v :: wait.drop (k+1)=(pre ++ [v]) ++ wait.drop (k+1):=by simp
 refine ⟨tk,Fk,pre ++ [v],by simp [hpk],L.J_keep hJ hk2 (fun _ _ h=>h),?_,hA,hK.trans (hk2.mono fun _ _ h=>h.elim),hF,?_,?_⟩
 ·rw [←e];exact hS.ab hk2 (fun _ _ h=>h)
 ·rw [←e];exact hD
 ·rw [hM];simp only [wakeM,hc,if_neg (show ¬ (false=true) by decide),List.append_assoc,List.cons_append,List.nil_append]
theorem fF.kept {P:Program} {p:Nat} {L:eH P p τ} {kp:τ→Int→τ × Int} {t tk:τ} {F Fk F2:Nat→Prop} {rv wv:Value} {ah wait pre:List (Int × Int)} {v:Int × Int} {w wr w2:World} {k:Nat} {woke:Bool}
  (hpk:pre.length=k) (hK:aa (fun b=>F b∨aF p rv wv b) w wr) (hF:∀ b,Fk b→F b∨w.heap.size≤b)
  (hM:wakeM L.alive kp t wait=((wakeM L.alive kp tk (v :: wait.drop (k+1))).1,pre ++ (wakeM L.alive kp tk (v :: wait.drop (k+1))).2.1,woke || (wakeM L.alive kp tk (v :: wait.drop (k+1))).2.2))
  (hJ:L.J w2 (kp tk v.2).1 F2) (hS:aZ w2 p rv wv ah (pre ++ (v.1,(kp tk v.2).2) :: wait.drop (k+1))) (hA:ez F2 p rv wv) (hk2:aa (fun b=>Fk b∨aF p rv wv b) wr w2) (hF2:∀ b,F2 b→Fk b∨wr.heap.size≤b)
  (hD:∀ e ∈ pre ++ (v.1,(kp tk v.2).2) :: wait.drop (k+1),L.D (kp tk v.2).1 e.1∧L.D (kp tk v.2).1 e.2)
  (hc:(L.alive tk v.1 && !L.alive tk v.2)=true):fF L kp t F rv wv ah wait w w2 (k+1) true:=by
 have e:pre ++ (v.1,(kp tk v.2).2) :: wait.drop (k+1)=(pre ++ [(v.1,(kp tk v.2).2)]) ++ wait.drop (k+1):=by simp
 refine ⟨_,F2,pre ++ [(v.1,(kp tk v.2).2)],by simp [hpk],hJ,?_,hA,hK.then hk2 ?_,?_,?_,?_⟩
 ·rw [←e];exact hS
 ·rintro b (h | h)
  ·rcases hF b h with h | h
   ·exact .inl (.inl h)
   ·exact .inr h
  ·exact .inl (.inr h)
 ·intro b hb;rcases hF2 b hb with h | h
  ·exact hF b h
  ·exact .inr (Nat.le_trans hK.size h)
 ·rw [←e];exact hD
 ·rw [hM];simp only [wakeM,hc,if_true,List.append_assoc,List.cons_append,List.nil_append,Bool.or_true,Bool.true_or]
theorem Bh (p:Nat) (L:eH Tryz.prog p τ) (kp:τ→Int→τ × Int) (hsame:∀ t l x,L.ab t l x=((kp t x).1,l,(kp t x).2)) (t:τ) (F:Nat→Prop) (rv wv:Value) (ah wait:List (Int × Int)) (w:World)
  (hdk:∀ t x,L.D t x→L.alive t x=false→L.DK t x) (hJ:L.J w t F) (h:aZ w p rv wv ah wait) (hap:ez F p rv wv) (hl:wait.length≤1000000) (hD:∀ e ∈ wait,L.D t e.1∧L.D t e.2) :
  Calls Tryz.prog 124 #[.pointer (some ⟨p,0,none⟩),L.val] w fun e w'=>xA L kp t F rv wv ah wait w e w':=by
 obtain ⟨wo,wc,rfl,hrd,_,_⟩:=h.hw.rd;have c1:=h.hp.cell 1;simp only [Lz,aC] at c1;have hpl:=h.hp.lt;have H:=Hz h;have HSM:=Hz hsame;have HDK:=Hz hdk;have HJ:=Hz hJ;have HA:=Hz hap;have HD:=Hz hD;clear h hrd hsame hdk hJ hap hD;have ea:=L.ea;have ek:=L.ek;have en:=L.en;generalize hbox:w.alloc (.cells #[.func (.func L.fa) L.a1 L.a2, .func (.func L.fk) L.k1 L.k2, .func (.func L.fn) L.n1 L.n2] 113)=wb;have hkb:aa (fun b=>F b∨aF p rv (.slice wo wait.length wc) b) w wb:=by rw [←hbox];exact (aa.refl _ _).alloc _
 have hbb:aj wb w.heap.size [.func (.func L.fa) L.a1 L.a2, .func (.func L.fk) L.k1 L.k2, .func (.func L.fn) L.n1 L.n2] 113:=by rw [←hbox];exact aj.newAt _ rfl rfl
 have hszb:wb.heap.size=w.heap.size+1:=by rw [←hbox];simp
 have hkb0:aa (fun _=>False) w wb:=by rw [←hbox];exact (aa.refl _ _).alloc _
 have HI:fF L kp t F rv (.slice wo wait.length wc) ah wait wb wb 0 false:=
  ⟨t,F,[],rfl,L.J_keep HJ.out hkb0 (fun _ _ h=>h),H.out.ab hkb0 (fun _ _ h=>h),HA.out,aa.refl _ _,fun b hb=>.inl hb,by simpa using HD.out,by simp⟩
 have HKB:=Hz hkb;have HBB:=Hz hbb;have HSZ:=Hz hszb;have HBX:=Hz hbox;clear hkb hbb hszb hkb0 hbox;unfold eH.val;go_enter Tryz.func124,Tryz.ntmps124;go_wp2_with fail;rw [HBX.out];go_loopw [5,14] (fun v i wr=>∃ (k:Nat) (woke:Bool),k≤wait.length∧i=.int .i64 k∧v=.bool woke∧fF L kp t F rv (.slice wo wait.length wc) ah wait wb wr k woke) (fun _ i _=>wait.length-(intOf i).toNat)
 case atStart=>exact ⟨0,false,Nat.zero_le _,rfl,rfl,HI⟩
 case round=>
  clear HI c1;obtain ⟨k,woke,hk,rfl,rfl,tk,Fk,pre,hpk,hJ,hS,hA,hK,hFk,hDk,hM⟩:=hrel;have GJ:=Hz hJ;have GS:=Hz hS;have GA:=Hz hA;have GK:=Hz hK;have GF:=Hz hFk;have GD:=Hz hDk;have GM:=Hz hM;have GP:=Hz hpk;clear hJ hS hA hK hFk hDk hM hpk;by_cases hlt:k<wait.length
  ·have hdr:wait.drop k=wait.getD k (0,0) :: wait.drop (k+1):=by
    rw [List.drop_eq_getElem_cons hlt];simp [List.getD,hlt]
   have hm:=GM.out;have hs:=GS.out;have hd:=GD.out;have HDR:=Hz hdr;rw [hdr] at hm hs hd;have hvd:=hd (wait.getD k (0,0)) (by simp);have hgt:(pre ++ wait.getD k (0,0) :: wait.drop (k+1)).getD k (0,0)=wait.getD k (0,0):=by
    simp [List.getD,GP.out]
   have hln:(pre ++ wait.getD k (0,0) :: wait.drop (k+1)).length=wait.length:=by simp [GP.out];omega
   generalize wait.getD k (0,0)=v at *;obtain ⟨g,o,cap,cur,he,hb,_,_,_,_⟩:=hs.hw.laid (by omega);rw [hln] at he;cases he;obtain ⟨_,_,e',hrd,_,_⟩:=hs.hw.rd;rw [hln] at e';cases e';obtain ⟨g',o',e',hgl,d0,d1⟩:=hrd.fP k (by omega);cases e';rw [hgt] at d0 d1;have hbw:w.heap.size<wb.heap.size:=by rw [HSZ.out];omega
   have hbn:∀ b,(F b∨aF p rv (.slice (some ⟨g,o,none⟩) wait.length wc) b)→¬ b=w.heap.size:=by
    rintro b (h | h) rfl
    ·have:=L.J_lt HJ.out h;omega
    ·have:=H.out.jN h;omega
   have hbx:aj wr w.heap.size _ _:=GK.out.aq HBB.out (fun h=>hbn _ h rfl);have HX:=Hz hbx;have HM:=Hz hm;have HS:=Hz hs;have HD:=Hz hd;have HV:=Hz hvd;have HN:=Hz hbn;have b0:=hbx.cell 0;have b1:=hbx.cell 1;have bl:=hbx.lt;simp only [Lz,aC] at b0 b1;clear hm hs hd hvd hbx hbn hb hrd hgt hdr;have ALL:Hid (∀ w2,aa (fun _=>False) wr w2→(L.alive tk v.1 && !L.alive tk v.2)=false→fF L kp t F rv (.slice (some ⟨g,o,none⟩) wait.length wc) ah wait wb w2 (k+1) woke):=fun w2 h1 h2=>fF.skip GP.out HDR.out GJ.out HS.out GA.out GK.out GF.out HD.out HM.out h1 h2;go_wp2_with fail;have hk0:=(Kz wr).alloc (.cells #[Value.int IntKind.i64 v.fst,Value.int IntKind.i64 v.snd] 101);refine (L.cS _ tk Fk v.1 (L.J_keep GJ.out hk0 (fun _ _ h=>h)) HV.out.1).mono ?_;rintro e w1 ⟨rfl,hk1⟩;have HK1:=Hz (hk0.trans hk1);have HE1:=Hz (hk1.aq (aj.newAt (w:=wr) _ rfl rfl) (fun h=>h));have x0:=(HK1.out.aq HX.out (fun h=>h)).cell 0;have xl:=(HK1.out.aq HX.out (fun h=>h)).lt;have e1:=HE1.out.cell 1;have el:=HE1.out.lt;simp only [Lz,aC] at x0 e1;clear hk0 hk1;cases ha:L.alive tk v.1
   ·go_wp2_with fail;go_roundw
    case rel=>exact ⟨k+1,woke,by omega,by go_num,rfl,ALL.out _ HK1.out (by rw [ha];rfl)⟩
    case measure=>simp [intOf];omega
   ·go_wp2_with fail;refine (L.cS _ tk Fk v.2 (L.J_keep GJ.out HK1.out (fun _ _ h=>h)) HV.out.2).mono ?_;rintro e w2 ⟨rfl,hk2⟩;have HK2:=Hz (HK1.out.trans hk2);have HE2:=Hz (hk2.aq HE1.out (fun h=>h));clear x0 xl e1 el;have x0:=(HK2.out.aq HX.out (fun h=>h)).cell 1;have xl:=(HK2.out.aq HX.out (fun h=>h)).lt;have e1:=HE2.out.cell 1;have el:=HE2.out.lt;simp only [Lz,aC] at x0 e1;clear hk2;cases hb:L.alive tk v.2
    ·go_wp2_with fail;refine (L.keep_c _ tk Fk rv _ ah _ v.2 (L.J_keep GJ.out HK2.out (fun _ _ h=>h)) (HS.out.ab HK2.out (fun _ _ h=>h)) GA.out (HDK.out _ _ HV.out.2 hb) HD.out (by omega)).mono ?_;rintro e w3 ⟨rfl,F3,hJ3,hS3,hA3,hk3,hF3⟩;have hdk:∀ e ∈ pre ++ v :: wait.drop (k+1),L.D (kp tk v.2).1 e.1∧L.D (kp tk v.2).1 e.2:=by
      intro e he;have:=HD.out e he;have a1:=L.D_keep (wait:=pre ++ v :: wait.drop (k+1)) (HDK.out _ _ HV.out.2 hb) this.1;have a2:=L.D_keep (wait:=pre ++ v :: wait.drop (k+1)) (HDK.out _ _ HV.out.2 hb) this.2;rw [HSM.out] at a1 a2;exact ⟨a1,a2⟩
     have hdn:=L.D_new (wait:=pre ++ v :: wait.drop (k+1)) (HDK.out _ _ HV.out.2 hb);have e3:(L.ab tk (pre ++ v :: wait.drop (k+1)) v.2).2.2=(kp tk v.2).2:=by rw [HSM.out]
     rw [e3];rw [HSM.out] at hJ3 hS3 hdn;replace hJ3:L.J w3 (kp tk v.2).1 F3:=hJ3;replace hS3:aZ w3 p rv (.slice (some ⟨g,o,none⟩) wait.length wc) ah (pre ++ v :: wait.drop (k+1)):=hS3;replace hdn:L.D (kp tk v.2).1 (kp tk v.2).2:=hdn;clear e3;have hpg:p≠g:=fun e=>hS3.pw (by subst e;rfl);obtain ⟨g3,o3,cap3,cur3,he3,dX,_,_,_,_⟩:=hS3.hw.laid (by omega);rw [hln] at he3;cases he3;have HS3:=Hz (hS3.tJ (kp tk v.2).2);have hk3':aa (fun b=>Fk b∨aF p rv (.slice (some ⟨g,o,none⟩) wait.length wc) b) wr w3:=(HK2.out.mono fun _ _ h=>h.elim).trans hk3;have HF3:Hid (∀ b,F3 b→Fk b∨wr.heap.size≤b):=fun b hb=>by
      rcases hF3 b hb with h | h
      ·exact .inl h
      ·exact .inr (Nat.le_trans HK2.out.size h)
     have hng:¬ F3 g:=fun h=>hA3 g ⟨h, .inr (.inr rfl)⟩;have HJ3:=Hz (L.J_keep hJ3 ((aa.refl (·=g) w3).setCell (p:=⟨g,o+pre.length*2+1,none⟩) (.inl rfl) (.int .i64 (kp tk v.2).2)) (by rintro b hb rfl;exact hng hb));have HK3:=Hz (hk3'.setCell (p:=⟨g,o+pre.length*2+1,none⟩) (.inl (.inr (.inr (.inr rfl)))) (.int .i64 (kp tk v.2).2));have HA3:=Hz hA3;have p1:=hS3.hp.cell 1;have fz:=dX.free (o+k*2+1);obtain ⟨_,_,e3,hrd3,_,_⟩:=hS3.hw.rd;rw [hln] at e3;cases e3;obtain ⟨g3,o3,e3,_,q0,q1⟩:=hrd3.fP k (by omega);cases e3;have gl:=dX.lt;have pl:=hS3.hp.lt;simp only [Lz,aC] at p1;rw [GP.out] at HJ3 HK3 HS3;have HDN:Hid (∀ e ∈ pre ++ (v.1,(kp tk v.2).2) :: wait.drop (k+1),L.D (kp tk v.2).1 e.1∧L.D (kp tk v.2).1 e.2):=by
      intro e he;simp only [List.mem_append,List.mem_cons] at he;rcases he with he | rfl | he
      ·exact hdk e (by simp [he])
      ·exact ⟨(hdk v (by simp)).1,hdn⟩
      ·exact hdk e (by simp [he])
     have HX3:Hid (w.heap.size<w3.heap.size):=Nat.lt_of_lt_of_le xl hk3.size;have hx3:=HX3.out;clear hrd3 hJ3 hS3 hA3 hk3 hF3 hdk hdn hk3' hng dX x0 xl e1 el;clear HX3;go_wp2_with fail;go_roundw
     case rel=>exact ⟨k+1,true,by omega,by go_num,rfl,fF.kept GP.out GK.out GF.out HM.out HJ3.out HS3.out HA3.out HK3.out HF3.out HDN.out (by rw [ha,hb];rfl)⟩
     case measure=>simp [intOf];omega
    ·go_wp2_with fail;go_roundw
     case rel=>exact ⟨k+1,woke,by omega,by go_num,rfl,ALL.out _ HK2.out (by rw [ha,hb];rfl)⟩
     case measure=>simp [intOf];omega
  ·obtain rfl:k=wait.length:=by omega
   go_wp2_with fail;go_ret;have hm:=GM.out;have hs:=GS.out;have hd:=GD.out;rw [List.drop_length] at hm hs hd;simp only [wakeM,List.append_nil,Bool.or_false] at hm hs hd;refine ⟨by rw [hm];rfl,Fk,by rw [hm];exact GJ.out,by rw [hm];exact hs,GA.out,HKB.out.trans GK.out,fun b hb=>?_,by rw [hm];exact hd⟩;rcases GF.out b hb with h | h
   ·exact .inl h
   ·exact .inr (by rw [HSZ.out] at h;omega)
end
section
open Go.RowKit
variable {τ:Type}
def cntF (w:World) (b:Nat):Nat:=match w.heap[b]? with
 | some (.cells c _ _)=>(c.toList.filter fun v=>match v with | .bool false=>true | _=>false).length
 | _=>0
theorem mX {w:World} {b:Nat} {l:List It} {T:TypeId} (h:aj w b (l.map fun i=>.bool i.2.2) T):cntF w b=cH l:=by
 unfold aj at h;unfold cntF cH;rw [h];simp only [List.filter_map,List.length_map];congr 2
 funext i
 simp only [Function.comp];cases i.2.2 <;> rfl
def eH.cells {P:Program} {p:Nat} (L:eH P p τ):List Value:=[.func (.func L.fa) L.a1 L.a2, .func (.func L.fk) L.k1 L.k2, .func (.func L.fn) L.n1 L.n2]
structure ed {P:Program} {p:Nat} (L:eH P p τ) (w:World) (F:Nat→Prop) (rv wv:Value) (b0 b1 b2:Nat) (items:List It) (q:List (Int × Int)) (t':τ) (F':Nat→Prop) (wv':Value) (wr:World):Prop where
 hJ:L.J wr t' F'
 hS:aZ wr p rv wv' (items.map (·.1)) q
 hA:ez F' p rv wv'
 hK:aa (fun b=>F b∨aF p rv wv b) w wr
 hF:∀ b,F' b→F b∨w.heap.size≤b
 hO:∀ b,ak wv' b→ak wv b∨w.heap.size≤b
 h0:aj wr b0 L.cells 113
 h1:aj wr b1 (items.map fun i=>.bool i.2.1) 4
 h2:aj wr b2 (items.map fun i=>.bool i.2.2) 4
 n0:¬ F' b0
 n1:¬ F' b1
 n2:¬ F' b2
 g0:w.heap.size≤b0
 g1:w.heap.size≤b1
 g2:w.heap.size≤b2
 b12:b1≠b2
 hq:∀ e ∈ q,L.D t' e.1∧L.D t' e.2
 hr:∀ i ∈ items,L.D t' i.1.1∧L.DK t' i.1.2
theorem aZ.nI {w:World} {p b:Nat} {rv wv:Value} {ah wait:List (Int × Int)} {c:List Value} {T:TypeId} (h:aZ w p rv wv ah wait) (hb:aj w b c T) (h1:T≠133) (h2:T≠101):¬ aF p rv wv b:=by
 rintro (rfl | h' | h')
 ·exact hb.ne h.hp h1 rfl
 ·obtain ⟨_,cur,hc⟩:=h.hr.own h';exact hb.ne hc h2 rfl
 ·obtain ⟨_,cur,hc⟩:=h.hw.own h';exact hb.ne hc h2 rfl
section
variable {P:Program} {p:Nat} {L:eH P p τ} {w:World} {F:Nat→Prop} {rv wv:Value} {b0 b1 b2:Nat} {items:List It} {q:List (Int × Int)} {t':τ} {F':Nat→Prop} {wv':Value} {wr:World}
theorem ed.ab {w2:World} (h:ed L w F rv wv b0 b1 b2 items q t' F' wv' wr) (k:aa (fun _=>False) wr w2):ed L w F rv wv b0 b1 b2 items q t' F' wv' w2:=
 ⟨L.J_keep h.hJ k (fun _ _ h=>h),h.hS.ab k (fun _ _ h=>h),h.hA,h.hK.trans (k.mono fun _ _ h=>h.elim),h.hF,h.hO,k.aq h.h0 (fun h=>h),k.aq h.h1 (fun h=>h),k.aq h.h2 (fun h=>h),h.n0,h.n1,h.n2,h.g0,h.g1,h.g2,h.b12,h.hq,h.hr⟩
theorem ed.move {i:It} {a b:List It} (h:ed L w F rv wv b0 b1 b2 (a ++ i :: b) q t' F' wv' wr):ed L w F rv wv b0 b1 b2 (a ++ (i.1,i.2.1,true) :: b) q t' F' wv' (wr.setCell ⟨b2,a.length,none⟩ (.bool true)):=by
 have k:=(aa.refl (·=b2) wr).setCell (p:=⟨b2,a.length,none⟩) (.inl rfl) (.bool true);have hn:¬ aF p rv wv' b2:=h.hS.nI h.h2 (by decide) (by decide);refine ⟨L.J_keep h.hJ k (by rintro b hb rfl;exact h.n2 hb),?_,h.hA,h.hK.setCell (p:=⟨b2,a.length,none⟩) (.inr h.g2) _,h.hF,h.hO,k.aq h.h0 (fun e=>?_),?_,?_,h.n0,h.n1,h.n2,h.g0,h.g1,h.g2,h.b12,h.hq,?_⟩
 ·have:=h.hS.ab k (by rintro b hb rfl;exact hn hb);simpa using this
 ·subst e;exact h.h0.ne h.h2 (by decide) rfl
 ·have:=k.aq h.h1 h.b12;simpa using this
 ·have:=h.h2.aG a.length (.bool true);simpa using this
 ·intro j hj;simp only [List.mem_append,List.mem_cons] at hj;rcases hj with hj | rfl | hj
  ·exact h.hr j (by simp [hj])
  ·exact h.hr i (by simp)
  ·exact h.hr j (by simp [hj])
theorem ed.kept {x:Int} {w2:World} {F2:Nat→Prop} (h:ed L w F rv wv b0 b1 b2 items q t' F' wv' wr) (hx:L.DK t' x)
  (hJ:L.J w2 (L.ab t' q x).1 F2) (hS:aZ w2 p rv wv' (items.map (·.1)) (L.ab t' q x).2.1) (hA:ez F2 p rv wv') (hk:aa (fun k=>F' k∨aF p rv wv' k) wr w2) (hF2:∀ k,F2 k→F' k∨wr.heap.size≤k) :
  ed L w F rv wv b0 b1 b2 items (L.ab t' q x).2.1 (L.ab t' q x).1 F2 wv' w2:=by
 have out:∀ {b:Nat} {c:List Value} {T:TypeId},aj wr b c T→¬ F' b→T≠133→T≠101→aj w2 b c T∧¬ F2 b:=fun {b c T} hb hn h1 h2=>
  ⟨hk.aq hb (by rintro (h3 | h3);exact hn h3;exact h.hS.nI hb h1 h2 h3),fun h3=>by
   rcases hF2 _ h3 with h4 | h4
   ·exact hn h4
   ·have:=hb.lt;omega⟩
 refine ⟨hJ,hS,hA,h.hK.then hk ?_,?_,h.hO,(out h.h0 h.n0 (by decide) (by decide)).1,(out h.h1 h.n1 (by decide) (by decide)).1,(out h.h2 h.n2 (by decide) (by decide)).1,
  (out h.h0 h.n0 (by decide) (by decide)).2,(out h.h1 h.n1 (by decide) (by decide)).2,(out h.h2 h.n2 (by decide) (by decide)).2,h.g0,h.g1,h.g2,h.b12,L.D_wait hx h.hq,fun i hi=>⟨L.D_keep hx (h.hr i hi).1,L.DK_keep hx (h.hr i hi).2⟩⟩
 ·rintro b (hb | hb | hb | hb)
  ·rcases h.hF b hb with h1 | h1
   ·exact .inl (.inl h1)
   ·exact .inr h1
  ·exact .inl (.inr (.inl hb))
  ·exact .inl (.inr (.inr (.inl hb)))
  ·rcases h.hO b hb with h1 | h1
   ·exact .inl (.inr (.inr (.inr h1)))
   ·exact .inr h1
 ·intro b hb;rcases hF2 b hb with h1 | h1
  ·exact h.hF b h1
  ·exact .inr (Nat.le_trans h.hK.size h1)
theorem ed.app {e:Int × Int} {w2:World} {v2:Value} (h:ed L w F rv wv b0 b1 b2 items q t' F' wv' wr) (he:L.D t' e.1∧L.D t' e.2)
  (hs:Sl w2 101 2 v2 (q ++ [e]).length (aE (q ++ [e]))) (hk:aa (ak wv') wr w2) (ho:∀ k,ak v2 k→ak wv' k∨wr.heap.size≤k) :
  ed L w F rv wv b0 b1 b2 items (q ++ [e]) t' F' v2 (w2.setCell ⟨p,1,none⟩ v2):=by
 have hkp:=(aa.refl (·=p) w2).setCell (p:=⟨p,1,none⟩) (.inl rfl) v2;have hpw:=h.hS.pw;have hp2:=hk.aq h.hS.hp hpw;have hFp:¬ F' p:=fun hb=>h.hA p ⟨hb, .inl rfl⟩;have out:∀ {b:Nat} {c:List Value} {T:TypeId},aj wr b c T→T≠133→T≠101→aj (w2.setCell ⟨p,1,none⟩ v2) b c T:=fun {b c T} hb h1 h2=>by
  have hn:=h.hS.nI hb h1 h2;exact hkp.aq (hk.aq hb (fun h3=>hn (.inr (.inr h3)))) (fun h3=>hn (.inl h3))
 have hv2p:¬ ak v2 p:=fun hb=>by
  obtain ⟨_,cur,hc⟩:=hs.own hb;exact hp2.ne hc (by decide) rfl
 refine ⟨L.J_keep (L.J_keep h.hJ hk (fun b hb h1=>h.hA b ⟨hb, .inr (.inr h1)⟩)) hkp (by rintro b hb rfl;exact hFp hb),⟨by simpa using hp2.aG 1 v2,?_,?_,?_⟩,?_,?_,h.hF,?_,out h.h0 (by decide) (by decide),out h.h1 (by decide) (by decide),out h.h2 (by decide) (by decide),
  h.n0,h.n1,h.n2,h.g0,h.g1,h.g2,h.b12,?_,h.hr⟩
 ·exact (h.hS.hr.ab hk (fun b hb h1=>h.hS.ap b ⟨hb,h1⟩)).ab hkp (by rintro b hb rfl;exact h.hS.pr hb)
 ·exact hs.ab hkp (by rintro b hb rfl;exact hv2p hb)
 ·rintro b ⟨h1,h2⟩;rcases ho b h2 with h3 | h3
  ·exact h.hS.ap b ⟨h1,h3⟩
  ·have:=(h.hS.hr.own h1).1;omega
 ·rintro b ⟨h1,h2 | h2 | h2⟩
  ·exact h.hA b ⟨h1, .inl h2⟩
  ·exact h.hA b ⟨h1, .inr (.inl h2)⟩
  ·rcases ho b h2 with h3 | h3
   ·exact h.hA b ⟨h1, .inr (.inr h3)⟩
   ·have:=L.J_lt h.hJ h1;omega
 ·refine (h.hK.then hk (fun b hb=>?_)).setCell (p:=⟨p,1,none⟩) (.inl (.inr (.inl rfl))) _;rcases h.hO b hb with h1 | h1
  ·exact .inl (.inr (.inr (.inr h1)))
  ·exact .inr h1
 ·intro b hb;rcases ho b hb with h1 | h1
  ·exact h.hO b h1
  ·exact .inr (Nat.le_trans h.hK.size h1)
 ·intro e' he';simp only [List.mem_append,List.mem_singleton] at he';rcases he' with he' | rfl
  ·exact h.hq _ he'
  ·exact he
end
def iE {P:Program} {p:Nat} (L:eH P p τ) (w:World) (F:Nat→Prop) (rv wv:Value) (b0 b1 b2:Nat) (t1:τ) (q1:List (Int × Int)) (items:List It) (N:Nat) (wr:World) (k:Nat) (more:Bool):Prop:=
 ∃ t' q' F' wv' done,done.length=k∧ed L w F rv wv b0 b1 b2 (done ++ items.drop k) q' t' F' wv' wr∧q'.length+cH (done ++ items.drop k)≤N ∧
  scanM L.alive L.ab t1 q1 items=((scanM L.alive L.ab t' q' (items.drop k)).1,(scanM L.alive L.ab t' q' (items.drop k)).2.1,done ++ (scanM L.alive L.ab t' q' (items.drop k)).2.2.1,more || (scanM L.alive L.ab t' q' (items.drop k)).2.2.2)
theorem iE.skip {P:Program} {p:Nat} {L:eH P p τ} {w:World} {F:Nat→Prop} {rv wv:Value} {b0 b1 b2:Nat} {t1:τ} {q1:List (Int × Int)} {items:List It} {N:Nat} {wr w2:World} {k:Nat} {more:Bool}
  {t':τ} {q':List (Int × Int)} {F':Nat→Prop} {wv':Value} {done:List It} {i:It} (hd:done.length=k) (hdr:items.drop k=i :: items.drop (k+1)) (hm:ed L w F rv wv b0 b1 b2 (done ++ i :: items.drop (k+1)) q' t' F' wv' wr) (hN:q'.length+cH (done ++ i :: items.drop (k+1))≤N)
  (he:scanM L.alive L.ab t1 q1 items=((scanM L.alive L.ab t' q' (i :: items.drop (k+1))).1,(scanM L.alive L.ab t' q' (i :: items.drop (k+1))).2.1,done ++ (scanM L.alive L.ab t' q' (i :: items.drop (k+1))).2.2.1,more || (scanM L.alive L.ab t' q' (i :: items.drop (k+1))).2.2.2))
  (hk2:aa (fun _=>False) wr w2) (hc:((i.2.1 && !i.2.2) && L.alive t' i.1.1)=false):iE L w F rv wv b0 b1 b2 t1 q1 items N w2 (k+1) more:=by
 have e:done ++ i :: items.drop (k+1)=(done ++ [i]) ++ items.drop (k+1):=by simp
 refine ⟨t',q',F',wv',done ++ [i],by simp [hd],?_,?_,?_⟩
 ·rw [←e];exact hm.ab hk2
 ·rw [←e];exact hN
 ·rw [he];simp only [scanM,hc,if_neg (show ¬ (false=true) by decide),List.append_assoc,List.cons_append,List.nil_append]
theorem iE.yI {P:Program} {p:Nat} {L:eH P p τ} {w:World} {F:Nat→Prop} {rv wv:Value} {b0 b1 b2:Nat} {t1:τ} {q1:List (Int × Int)} {items:List It} {N:Nat} {w2:World} {k:Nat} {more:Bool}
  {t':τ} {q':List (Int × Int)} {F2:Nat→Prop} {v2:Value} {done:List It} {i:It} (hd:done.length=k) (hN:q'.length+cH (done ++ i :: items.drop (k+1))≤N)
  (he:scanM L.alive L.ab t1 q1 items=((scanM L.alive L.ab t' q' (i :: items.drop (k+1))).1,(scanM L.alive L.ab t' q' (i :: items.drop (k+1))).2.1,done ++ (scanM L.alive L.ab t' q' (i :: items.drop (k+1))).2.2.1,more || (scanM L.alive L.ab t' q' (i :: items.drop (k+1))).2.2.2))
  (hm:ed L w F rv wv b0 b1 b2 (done ++ (i.1,i.2.1,true) :: items.drop (k+1)) ((L.ab t' q' i.1.2).2.1 ++ [(i.1.1,(L.ab t' q' i.1.2).2.2)]) (L.ab t' q' i.1.2).1 F2 v2 w2)
  (hc:((i.2.1 && !i.2.2) && L.alive t' i.1.1)=true):iE L w F rv wv b0 b1 b2 t1 q1 items N w2 (k+1) true:=by
 have e:done ++ (i.1,i.2.1,true) :: items.drop (k+1)=(done ++ [(i.1,i.2.1,true)]) ++ items.drop (k+1):=by simp
 refine ⟨(L.ab t' q' i.1.2).1,(L.ab t' q' i.1.2).2.1 ++ [(i.1.1,(L.ab t' q' i.1.2).2.2)],F2,v2,done ++ [(i.1,i.2.1,true)],by simp [hd],?_,?_,?_⟩
 ·rw [←e];exact hm
 ·rw [←e];simp only [Bool.and_eq_true,Bool.not_eq_true'] at hc;simp only [List.length_append,L.keep_len,vd,iL,hc.1.2] at hN ⊢;simp at hN ⊢;omega
 ·rw [he];simp only [scanM,hc,if_true,List.append_assoc,List.cons_append,List.nil_append,Bool.or_true,Bool.true_or]
end
section
structure kf (s:Ms) (L:Int):Prop where
 len:(s.wk.length:Int)+s.ep.length≤L
 wb:∀ i ∈ s.wk,0≤i∧i≤1300
 eb:∀ i ∈ s.ep,0≤i∧i≤1300
theorem kf.bT {s:Ms} {L:Int} (h:kf s L) (A:Ar):kf { s with A:=A } L:=⟨h.len,h.wb,h.eb⟩
theorem kf.more {s:Ms} {L M:Int} (h:kf s L) (hl:L≤M):kf s M:=⟨by have:=h.len;omega,h.wb,h.eb⟩
theorem kf.look {s:Ms} {L:Int} (h:kf s L) {i:Int} (h0:0≤i) (h1:i≤1300):kf (eu s i) (L+1):=by
 have hl:=h.len;have mem:∀ {l:List Int},(∀ j ∈ l,0≤j∧j≤1300)→∀ j ∈ l ++ [i],0≤j∧j≤1300:=fun hl j hj=>by
  rcases List.mem_append.1 hj with h | h
  ·exact hl j h
  ·rw [List.mem_singleton] at h;omega
 unfold eu;split
 ·exact ⟨by dsimp only;omega,h.wb,h.eb⟩
 ·split
  ·exact ⟨by simp;omega,mem h.wb,h.eb⟩
  ·split
   ·exact ⟨by simp;omega,h.wb,mem h.eb⟩
   ·exact ⟨by omega,h.wb,h.eb⟩
structure gu (s:Ms) (c:Int):Prop where
 ok:s.A.ok
 ms:kf s (1300+c)
 c0:0≤c
 c1:c≤1300
theorem gu.bT {s:Ms} {c:Int} {A:Ar} (h:gu s c) (hA:A.ok):gu { s with A:=A } c:=⟨hA,h.ms.bT A,h.c0,h.c1⟩
theorem qK {s:Ms} {c:Int} (n:Nat) (h:¬ c<s.A.grn):mScan n s c=(s,c):=by
 cases n with
 | zero=>rfl
 | succ n=>unfold mScan;rw [if_neg h]
theorem qL {s:Ms} {c:Int} (n:Nat) (h:c<s.A.grn):mScan (n+1) s c=mScan n (eu s c) (c+(1+(s.A.ai c).2.1)):=by
 rw [mScan,if_pos h]
theorem gu.look {s:Ms} {c:Int} (h:gu s c) (hc:c<s.A.grn):gu (eu s c) (c+(1+(s.A.ai c).2.1)):=by
 have hf:=s.A.aO c;have h3:=h.ok.h3;have h4:=h.ok.h4;have:=h.c0;exact ⟨(Sm.look h.ok c).ok,(h.ms.look h.c0 h.c1).more (by omega),by omega,by omega⟩
theorem gu.scan:∀ (n:Nat) {s:Ms} {c:Int},gu s c→gu (mScan n s c).1 (mScan n s c).2∧c≤(mScan n s c).2∧(0<n→c<s.A.grn→c+1≤(mScan n s c).2)
 | 0,s,c,h=>⟨h,Int.le_refl _,fun h=>by omega⟩
 | n+1,s,c,h=>by
  have hf:=s.A.aO c;by_cases hc:c<s.A.grn
  ·rw [qL n hc];have ih:=gu.scan n (h.look hc);exact ⟨ih.1,by omega,fun _ _=>by omega⟩
  ·rw [qK _ hc];exact ⟨h,Int.le_refl _,fun _ h=>(hc h).elim⟩
def j6 (q:List (Int × Int)):Prop:=∀ e ∈ q,rn e
theorem j6.e6:∀ (l:List (Int × Int)) {A:Ar},j6 l→j6 (wakeM aW i3 A l).2.1
 | [],A,h=>h
 | e :: l,A,h=>by
  have h1:j6 l:=fun x hx=>h x (by simp [hx]);have h2:=h e (by simp);unfold wakeM;split
  ·intro x hx;rcases List.mem_cons.1 hx with rfl | hx
   ·exact ⟨h2.1,hH h2.2⟩
   ·exact j6.e6 l h1 x hx
  ·intro x hx;rcases List.mem_cons.1 hx with rfl | hx
   ·exact h2
   ·exact j6.e6 l h1 x hx
theorem gu.round {d:Md} (h:gu d.s d.c):gu (bE d).s (bE d).c∧d.c≤(bE d).c∧(d.c<d.s.A.grn→d.c+1≤(bE d).c):=by
 have h1:=gu.scan 2000 h;have h2:=Sm.qD (mScan 2000 d.s d.c).1.ep h1.1.ok;have h3:=Sm.e6 d.q h2.ok;exact ⟨h1.1.bT h3.ok,h1.2.1,h1.2.2 (by decide)⟩
theorem j6.round {d:Md} (h:j6 d.q):j6 (bE d).q:=j6.e6 d.q h
theorem j6.drain:∀ (n:Nat) {d:Md},j6 d.q→j6 (mDrain n d).q
 | 0,d,h=>h
 | n+1,d,h=>by
  unfold mDrain;split
  ·exact j6.drain n h.round
  ·exact h.round
theorem uA {d:Md} (n:Nat) (h:(bE d).c<(bE d).s.A.grn):mDrain (n+1) d=mDrain n (bE d):=by rw [mDrain,if_pos h]
theorem uB {d:Md} (n:Nat) (h:¬ (bE d).c<(bE d).s.A.grn):mDrain (n+1) d=bE d:=by rw [mDrain,if_neg h]
theorem xB {d:Md} {s1:Ms} {c1:Int} {A2 A3:Ar} {q3:List (Int × Int)} {b:Bool} (h1:mScan 2000 d.s d.c=(s1,c1)) (h2:gm s1.A s1.ep=A2) (h3:wakeM aW i3 A2 d.q=(A3,q3,b)):bE d=⟨{ s1 with A:=A3 },c1,q3⟩:=by
 unfold bE;rw [h1];dsimp only;rw [h2,h3]
end
section
structure dK (A:Ar) (T:Int→Prop):Prop where
 ok:A.ok
 bd:∀ i,T i→0≤i∧i<A.ws.length
 fd:∀ i,T i→∀ x ∈ A.fields i,x%4=1→T (x/4)
 two:∀ i,T i→((A.ai i).1=3∨(A.ai i).1=4)→A.load (i+1) ∈ A.fields i∧A.load (i+2) ∈ A.fields i
def Dm (T:Int→Prop) (x:Int):Prop:=x%4=1→T (x/4)
structure bG (A:Ar) (T:Int→Prop) (s:Gs) (L:Nat):Prop where
 len:s.lv.length=A.ws.length
 st:∀ i ∈ s.st,T i
 ep:∀ i ∈ s.ep,T i∧(A.ai i).1=4
 sum:s.st.length+s.ep.length+bN s.lv≤L
section
variable {A:Ar} {T:Int→Prop} {s:Gs} {L:Nat} {q:List (Int × Int)}
theorem bG.more {M:Nat} (h:bG A T s L) (hl:L≤M):bG A T s M:=⟨h.len,h.st,h.ep,by have:=h.sum;omega⟩
theorem sd {x:Int} (h:¬ aR s x=true):x%4=1∧au s.lv (x/4)=false:=by
 unfold aR at h;by_cases h1:x%4=1
 ·refine ⟨h1,?_⟩;simpa [h1] using h
 ·exact absurd (by simp [h1]) h
theorem bG.mark {x:Int} (h:bG A T s L) (H:dK A T) (hx:Dm T x):bG A T (cJ s x) L∧jM (cJ s x)=jM s∧(cJ s x).ep=s.ep:=by
 unfold cJ;split
 ·exact ⟨h,rfl,rfl⟩
 ·rename_i hn;obtain ⟨h1,h2⟩:=sd hn;have hT:=hx h1;obtain ⟨b0,b1⟩:=H.bd _ hT;have hf:s.lv.getD (x/4).toNat false=false:=by
   unfold au at h2;simpa [b0] using h2
  have hs:=mS (l:=s.lv) (i:=(x/4).toNat) (by rw [h.len];omega) hf;refine ⟨⟨by simp [h.len],fun i hi=>?_,h.ep,?_⟩,?_,rfl⟩
  ·rcases List.mem_append.1 hi with hi | hi
   ·exact h.st i hi
   ·rw [List.mem_singleton.1 hi];exact hT
  ·have:=h.sum;simp only [List.length_append,List.length_cons,List.length_nil];omega
  ·unfold jM;simp only [List.length_append,List.length_cons,List.length_nil];omega
theorem bG.marks (H:dK A T):∀ (l:List Int) {s:Gs},bG A T s L→(∀ x ∈ l,Dm T x)→bG A T (eE s l) L∧jM (eE s l)=jM s∧(eE s l).ep=s.ep
 | [],s,h,_=>⟨h,rfl,rfl⟩
 | x :: l,s,h,hl=>by
  obtain ⟨h1,e1,p1⟩:=h.mark H (hl x (by simp));obtain ⟨h2,e2,p2⟩:=bG.marks H l h1 (fun y hy=>hl y (by simp [hy]));exact ⟨h2,e2.trans e1,p2.trans p1⟩
theorem bG.look {i:Int} (h:bG A T s L) (H:dK A T) (hi:T i):bG A T (jq A s i) (L+1)∧jM (jq A s i)=jM s:=by
 unfold jq;split
 ·obtain ⟨h1,e1,-⟩:=bG.marks H (A.fields i) h (fun x hx=>H.fd i hi x hx);exact ⟨h1.more (by omega),e1⟩
 ·split
  ·rename_i h3;obtain ⟨h1,e1,-⟩:=h.mark H (x:=A.load (i+2)) (H.fd i hi _ (H.two i hi (.inl h3)).2);exact ⟨h1.more (by omega),e1⟩
  ·split
   ·rename_i h4;refine ⟨⟨h.len,h.st,fun j hj=>?_,?_⟩,rfl⟩
    ·rcases List.mem_append.1 hj with hj | hj
     ·exact h.ep j hj
     ·rw [List.mem_singleton.1 hj];exact ⟨hi,h4⟩
    ·have:=h.sum;simp only [List.length_append,List.length_cons,List.length_nil];omega
   ·exact ⟨h.more (by omega),rfl⟩
theorem bG.drop (h:bG A T s L) (hne:s.st≠[]):bG A T { s with st:=s.st.dropLast } (L-1)∧jM { s with st:=s.st.dropLast } + 1=jM s∧T (s.st.getLastD 0):=by
 obtain ⟨hm,he⟩:=nZ hne;have hl:s.st.dropLast.length+1=s.st.length:=by
  rw [List.length_dropLast];have:=List.length_pos_iff.2 hne;omega
 refine ⟨⟨h.len,fun i hi=>h.st i (List.dropLast_subset _ hi),h.ep,?_⟩,?_,h.st _ hm⟩
 ·have:=h.sum;dsimp only;omega
 ·unfold jM;dsimp only;omega
theorem bG.pop (h:bG A T s L) (H:dK A T) (hne:s.st≠[]):bG A T (iS A s) L∧jM (iS A s)+1=jM s:=by
 obtain ⟨h1,e1,hT⟩:=h.drop hne;obtain ⟨h2,e2⟩:=h1.look H hT;have:=h.sum;have hp:=List.length_pos_iff.2 hne;exact ⟨h2.more (by omega),by unfold iS;omega⟩
theorem bG.n8 (H:dK A T):∀ (n:Nat) {s:Gs},bG A T s L→jM s<n→bG A T (jPops A n s) L∧(jPops A n s).st=[]∧jM (jPops A n s)≤jM s
 | 0,s,h,hm=>by omega
 | n+1,s,h,hm=>by
  unfold jPops;split
  ·rename_i he;exact ⟨h,he,Nat.le_refl _⟩
  ·rename_i hne;obtain ⟨h1,e1⟩:=h.pop H hne;obtain ⟨h2,e2,e3⟩:=bG.n8 H n h1 (by omega);exact ⟨h2,e2,by omega⟩
theorem bG.tr {i:Int} (h:bG A T s L) (H:dK A T) (hi:T i∧(A.ai i).1=4):bG A T (fC A s i) L∧jM (fC A s i)=jM s∧(fC A s i).ep=s.ep:=by
 unfold fC;split
 ·exact h.mark H (H.fd i hi.1 _ (H.two i hi.1 (.inr hi.2)).2)
 ·exact ⟨h,rfl,rfl⟩
theorem bG.mR (H:dK A T):∀ (l:List Int) {s:Gs},bG A T s L→(∀ i ∈ l,T i∧(A.ai i).1=4)→bG A T (ic A s l) L∧jM (ic A s l)=jM s
 | [],s,h,_=>⟨h,rfl⟩
 | i :: l,s,h,hl=>by
  obtain ⟨h1,e1,-⟩:=h.tr H (hl i (by simp));obtain ⟨h2,e2⟩:=bG.mR H l h1 (fun j hj=>hl j (by simp [hj]));exact ⟨h2,e2.trans e1⟩
theorem bG.e6 (H:dK A T):∀ (q:List (Int × Int)) {s:Gs},bG A T s L→(∀ e ∈ q,Dm T e.1∧Dm T e.2)→bG A T (wakeM aR lx s q).1 L∧jM (wakeM aR lx s q).1=jM s
 | [],s,h,_=>⟨h,rfl⟩
 | e :: q,s,h,hq=>by
  unfold wakeM;split
  ·obtain ⟨h1,e1,-⟩:=h.mark H (hq e (by simp)).2;obtain ⟨h2,e2⟩:=bG.e6 H q (s:=(lx s e.2).1) h1 (fun f hf=>hq f (by simp [hf]));exact ⟨h2,e2.trans e1⟩
  ·exact bG.e6 H q h (fun f hf=>hq f (by simp [hf]))
theorem xC {l:List Int} {k:Nat} (h:k<l.length):ic A s (l.take (k+1))=fC A (ic A s (l.take k)) (l.getD k 0):=by
 unfold ic;rw [←List.take_append_getElem h,List.foldl_append,Ld,Le h];rfl
theorem oZ {l:List Int} {k:Nat} (h:k<l.length):eE s (l.take (k+1))=cJ (eE s (l.take k)) (l.getD k 0):=by
 unfold eE;rw [←List.take_append_getElem h,List.foldl_append,Ld,Le h];rfl
theorem bG.round (h:bG A T s L) (H:dK A T) (hq:∀ e ∈ q,Dm T e.1∧Dm T e.2) (hm:jM s<2000):bG A T (di A q s) L∧jM (di A q s)≤jM s∧((di A q s).st≠[]→bN (di A q s).lv<bN (jPops A 2000 s).lv)∧jM (jPops A 2000 s)≤jM s:=by
 obtain ⟨h1,e1,m1⟩:=bG.n8 H 2000 h hm;obtain ⟨h2,m2⟩:=bG.mR H (jPops A 2000 s).ep h1 h1.ep;obtain ⟨h3,m3⟩:=bG.e6 H q h2 hq;refine ⟨h3,?_,fun hne=>?_,m1⟩
 ·unfold di;omega
 ·have:=List.length_pos_iff.2 hne;have e0:(jPops A 2000 s).st.length=0:=by rw [e1];rfl
  have m4:(di A q s).st.length+bN (di A q s).lv=(jPops A 2000 s).st.length+bN (jPops A 2000 s).lv:=m3.trans m2;clear m1 m2 m3;omega
theorem qM (x:Int) (h:bG A T s L) (H:dK A T) (hx:Dm T x):bN (cJ s x).lv≤bN s.lv:=by
 have:=(h.mark H hx).2.1;unfold cJ at this ⊢;split
 ·exact Nat.le_refl _
 ·rename_i hn;rw [if_neg hn] at this;unfold jM at this;simp only [List.length_append,List.length_cons,List.length_nil] at this;dsimp only;omega
theorem o0 (H:dK A T):∀ (l:List Int) {s:Gs},bG A T s L→(∀ x ∈ l,Dm T x)→bN (eE s l).lv≤bN s.lv
 | [],s,h,_=>Nat.le_refl _
 | x :: l,s,h,hl=>Nat.le_trans (o0 H l (h.mark H (hl x (by simp))).1 (fun y hy=>hl y (by simp [hy]))) (qM x h H (hl x (by simp)))
theorem vZ {i:Int} (h:bG A T s L) (H:dK A T) (hi:T i):bN (jq A s i).lv≤bN s.lv:=by
 unfold jq;split
 ·exact o0 H _ h (fun x hx=>H.fd i hi x hx)
 ·split
  ·rename_i h3;exact qM _ h H (H.fd i hi _ (H.two i hi (.inl h3)).2)
  ·split
   ·exact Nat.le_refl _
   ·exact Nat.le_refl _
theorem xD (h:bG A T s L) (H:dK A T) (hne:s.st≠[]):bN (iS A s).lv≤bN s.lv:=by
 obtain ⟨h1,e1,hT⟩:=h.drop hne;exact vZ h1 H hT
theorem mY (H:dK A T):∀ (n:Nat) {s:Gs},bG A T s L→bN (jPops A n s).lv≤bN s.lv
 | 0,s,h=>Nat.le_refl _
 | n+1,s,h=>by
  unfold jPops;split
  ·exact Nat.le_refl _
  ·rename_i hne;exact Nat.le_trans (mY H n (h.pop H hne).1) (xD h H hne)
theorem uC (h:bG A T s L) (H:dK A T) (hq:∀ e ∈ q,Dm T e.1∧Dm T e.2) (hm:jM s<2000):bN (di A q s).lv≤bN s.lv:=by
 obtain ⟨h1,e1,m1⟩:=bG.n8 H 2000 h hm;obtain ⟨h2,m2⟩:=bG.mR H (jPops A 2000 s).ep h1 h1.ep;obtain ⟨h3,m3⟩:=bG.e6 H q h2 hq;have e0:(jPops A 2000 s).st.length=0:=by rw [e1];rfl
 have m4:(di A q s).st.length+bN (di A q s).lv=(jPops A 2000 s).st.length+bN (jPops A 2000 s).lv:=m3.trans m2;have:=mY H 2000 h;omega
theorem yJ (s:Gs) (x:Int):(cJ s x).ep=s.ep:=by unfold cJ;split <;> rfl
theorem vr (A:Ar):∀ (l:List Int) (s:Gs),(ic A s l).ep=s.ep
 | [],s=>rfl
 | i :: l,s=>by
  show (ic A (fC A s i) l).ep=_
  rw [vr A l];unfold fC;split
  ·exact yJ _ _
  ·rfl
end
theorem aH.shut {O:Wo} {W:Wd} {φ:Int→Int} (R:aH O W φ):dK O.ar (fun p=>∃ i,W.live i∧φ i=p):=by
 have key:∀ i,W.live i→∀ x ∈ O.ar.fields (φ i), ∃ v ∈ (W.th i).fs,x=ay φ v:=fun i hi x hx=>by
  unfold Ar.fields at hx;rw [R.th i hi] at hx;simp only [List.mem_map,List.mem_range] at hx;obtain ⟨j,hj,rfl⟩:=hx;have hj':j<(W.th i).fs.length:=by omega
  exact ⟨(W.th i).fs[j],List.getElem_mem _,R.fl i hi j _ (Le hj')⟩
 refine ⟨R.ho.ha,?_,?_,?_⟩
 ·rintro p ⟨i,hi,rfl⟩;have h1:=R.ho.ha.h1;have h2:=R.ho.ha.h2;have h3:=R.ho.ha.h3;cases ho:(W.th i).aI
  ·have:=Tile.mem R.ty _ (R.iny i hi ho);have:=O.ar.aO (φ i);omega
  ·have:=Tile.mem R.tz _ (R.ino i hi ho);have:=O.ar.aO (φ i);omega
 ·rintro p ⟨i,hi,rfl⟩ x hx h1;obtain ⟨v,hv,rfl⟩:=key i hi x hx;have hok:=R.hw.tv i hi v hv;have h3:=(fM hok).1 h1;refine ⟨v.2,Wd.aY hok h3,?_⟩;rw [bF φ h3];omega
 ·rintro p ⟨i,hi,rfl⟩ h34;rw [R.th i hi] at h34;have hf:=R.hw.tk i hi;have h2:(W.th i).fs.length=2:=by
   unfold bm at hf;simp at hf;dsimp only at h34;rcases hf with (hf | hf) | hf <;> omega
  unfold Ar.fields;rw [R.th i hi];simp only [h2];exact ⟨List.mem_map.2 ⟨0,by simp,by simp⟩,List.mem_map.2 ⟨1,by simp,by congr 1;omega⟩⟩
end
section
open Go.RowKit
variable {τ:Type}
theorem Ac (p:Nat) (L:eH Tryz.prog p τ) (kp:τ→Int→τ × Int) (hsame:∀ t l x,L.ab t l x=((kp t x).1,l,(kp t x).2)) (t:τ) (F:Nat→Prop) (rv wv:Value) (ah wait:List (Int × Int)) (w:World)
  (hdk:∀ t x,L.D t x→L.alive t x=false→L.DK t x) (hJ:L.J w t F) (h:aZ w p rv wv ah wait) (hap:ez F p rv wv) (hl:wait.length≤1000000) (hD:∀ e ∈ wait,L.D t e.1∧L.D t e.2) :
  Calls Tryz.prog 124 #[.pointer (some ⟨p,0,none⟩), .agg #[.func (.func L.fa) L.a1 L.a2, .func (.func L.fk) L.k1 L.k2, .nilFunc]] w fun e w'=>xA L kp t F rv wv ah wait w e w':=by
 obtain ⟨wo,wc,rfl,hrd,_,_⟩:=h.hw.rd;have c1:=h.hp.cell 1;simp only [Lz,aC] at c1;have hpl:=h.hp.lt;have H:=Hz h;have HSM:=Hz hsame;have HDK:=Hz hdk;have HJ:=Hz hJ;have HA:=Hz hap;have HD:=Hz hD;clear h hrd hsame hdk hJ hap hD;have ea:=L.ea;have ek:=L.ek;have en:=L.en;generalize hbox:w.alloc (.cells #[.func (.func L.fa) L.a1 L.a2, .func (.func L.fk) L.k1 L.k2, .nilFunc] 113)=wb;have hkb:aa (fun b=>F b∨aF p rv (.slice wo wait.length wc) b) w wb:=by rw [←hbox];exact (aa.refl _ _).alloc _
 have hbb:aj wb w.heap.size [.func (.func L.fa) L.a1 L.a2, .func (.func L.fk) L.k1 L.k2, .nilFunc] 113:=by rw [←hbox];exact aj.newAt _ rfl rfl
 have hszb:wb.heap.size=w.heap.size+1:=by rw [←hbox];simp
 have hkb0:aa (fun _=>False) w wb:=by rw [←hbox];exact (aa.refl _ _).alloc _
 have HI:fF L kp t F rv (.slice wo wait.length wc) ah wait wb wb 0 false:=
  ⟨t,F,[],rfl,L.J_keep HJ.out hkb0 (fun _ _ h=>h),H.out.ab hkb0 (fun _ _ h=>h),HA.out,aa.refl _ _,fun b hb=>.inl hb,by simpa using HD.out,by simp⟩
 have HKB:=Hz hkb;have HBB:=Hz hbb;have HSZ:=Hz hszb;have HBX:=Hz hbox;clear hkb hbb hszb hkb0 hbox;go_enter Tryz.func124,Tryz.ntmps124;go_wp2_with fail;rw [HBX.out];go_loopw [5,14] (fun v i wr=>∃ (k:Nat) (woke:Bool),k≤wait.length∧i=.int .i64 k∧v=.bool woke∧fF L kp t F rv (.slice wo wait.length wc) ah wait wb wr k woke) (fun _ i _=>wait.length-(intOf i).toNat)
 case atStart=>exact ⟨0,false,Nat.zero_le _,rfl,rfl,HI⟩
 case round=>
  clear HI c1;obtain ⟨k,woke,hk,rfl,rfl,tk,Fk,pre,hpk,hJ,hS,hA,hK,hFk,hDk,hM⟩:=hrel;have GJ:=Hz hJ;have GS:=Hz hS;have GA:=Hz hA;have GK:=Hz hK;have GF:=Hz hFk;have GD:=Hz hDk;have GM:=Hz hM;have GP:=Hz hpk;clear hJ hS hA hK hFk hDk hM hpk;by_cases hlt:k<wait.length
  ·have hdr:wait.drop k=wait.getD k (0,0) :: wait.drop (k+1):=by
    rw [List.drop_eq_getElem_cons hlt];simp [List.getD,hlt]
   have hm:=GM.out;have hs:=GS.out;have hd:=GD.out;have HDR:=Hz hdr;rw [hdr] at hm hs hd;have hvd:=hd (wait.getD k (0,0)) (by simp);have hgt:(pre ++ wait.getD k (0,0) :: wait.drop (k+1)).getD k (0,0)=wait.getD k (0,0):=by
    simp [List.getD,GP.out]
   have hln:(pre ++ wait.getD k (0,0) :: wait.drop (k+1)).length=wait.length:=by simp [GP.out];omega
   generalize wait.getD k (0,0)=v at *;obtain ⟨g,o,cap,cur,he,hb,_,_,_,_⟩:=hs.hw.laid (by omega);rw [hln] at he;cases he;obtain ⟨_,_,e',hrd,_,_⟩:=hs.hw.rd;rw [hln] at e';cases e';obtain ⟨g',o',e',hgl,d0,d1⟩:=hrd.fP k (by omega);cases e';rw [hgt] at d0 d1;have hbw:w.heap.size<wb.heap.size:=by rw [HSZ.out];omega
   have hbn:∀ b,(F b∨aF p rv (.slice (some ⟨g,o,none⟩) wait.length wc) b)→¬ b=w.heap.size:=by
    rintro b (h | h) rfl
    ·have:=L.J_lt HJ.out h;omega
    ·have:=H.out.jN h;omega
   have hbx:aj wr w.heap.size _ _:=GK.out.aq HBB.out (fun h=>hbn _ h rfl);have HX:=Hz hbx;have HM:=Hz hm;have HS:=Hz hs;have HD:=Hz hd;have HV:=Hz hvd;have HN:=Hz hbn;have b0:=hbx.cell 0;have b1:=hbx.cell 1;have bl:=hbx.lt;simp only [Lz,aC] at b0 b1;clear hm hs hd hvd hbx hbn hb hrd hgt hdr;have ALL:Hid (∀ w2,aa (fun _=>False) wr w2→(L.alive tk v.1 && !L.alive tk v.2)=false→fF L kp t F rv (.slice (some ⟨g,o,none⟩) wait.length wc) ah wait wb w2 (k+1) woke):=fun w2 h1 h2=>fF.skip GP.out HDR.out GJ.out HS.out GA.out GK.out GF.out HD.out HM.out h1 h2;go_wp2_with fail;have hk0:=(Kz wr).alloc (.cells #[Value.int IntKind.i64 v.fst,Value.int IntKind.i64 v.snd] 101);refine (L.cS _ tk Fk v.1 (L.J_keep GJ.out hk0 (fun _ _ h=>h)) HV.out.1).mono ?_;rintro e w1 ⟨rfl,hk1⟩;have HK1:=Hz (hk0.trans hk1);have HE1:=Hz (hk1.aq (aj.newAt (w:=wr) _ rfl rfl) (fun h=>h));have x0:=(HK1.out.aq HX.out (fun h=>h)).cell 0;have xl:=(HK1.out.aq HX.out (fun h=>h)).lt;have e1:=HE1.out.cell 1;have el:=HE1.out.lt;simp only [Lz,aC] at x0 e1;clear hk0 hk1;cases ha:L.alive tk v.1
   ·go_wp2_with fail;go_roundw
    case rel=>exact ⟨k+1,woke,by omega,by go_num,rfl,ALL.out _ HK1.out (by rw [ha];rfl)⟩
    case measure=>simp [intOf];omega
   ·go_wp2_with fail;refine (L.cS _ tk Fk v.2 (L.J_keep GJ.out HK1.out (fun _ _ h=>h)) HV.out.2).mono ?_;rintro e w2 ⟨rfl,hk2⟩;have HK2:=Hz (HK1.out.trans hk2);have HE2:=Hz (hk2.aq HE1.out (fun h=>h));clear x0 xl e1 el;have x0:=(HK2.out.aq HX.out (fun h=>h)).cell 1;have xl:=(HK2.out.aq HX.out (fun h=>h)).lt;have e1:=HE2.out.cell 1;have el:=HE2.out.lt;simp only [Lz,aC] at x0 e1;clear hk2;cases hb:L.alive tk v.2
    ·go_wp2_with fail;refine (L.keep_c _ tk Fk rv _ ah _ v.2 (L.J_keep GJ.out HK2.out (fun _ _ h=>h)) (HS.out.ab HK2.out (fun _ _ h=>h)) GA.out (HDK.out _ _ HV.out.2 hb) HD.out (by omega)).mono ?_;rintro e w3 ⟨rfl,F3,hJ3,hS3,hA3,hk3,hF3⟩;have hdk:∀ e ∈ pre ++ v :: wait.drop (k+1),L.D (kp tk v.2).1 e.1∧L.D (kp tk v.2).1 e.2:=by
      intro e he;have:=HD.out e he;have a1:=L.D_keep (wait:=pre ++ v :: wait.drop (k+1)) (HDK.out _ _ HV.out.2 hb) this.1;have a2:=L.D_keep (wait:=pre ++ v :: wait.drop (k+1)) (HDK.out _ _ HV.out.2 hb) this.2;rw [HSM.out] at a1 a2;exact ⟨a1,a2⟩
     have hdn:=L.D_new (wait:=pre ++ v :: wait.drop (k+1)) (HDK.out _ _ HV.out.2 hb);have e3:(L.ab tk (pre ++ v :: wait.drop (k+1)) v.2).2.2=(kp tk v.2).2:=by rw [HSM.out]
     rw [e3];rw [HSM.out] at hJ3 hS3 hdn;replace hJ3:L.J w3 (kp tk v.2).1 F3:=hJ3;replace hS3:aZ w3 p rv (.slice (some ⟨g,o,none⟩) wait.length wc) ah (pre ++ v :: wait.drop (k+1)):=hS3;replace hdn:L.D (kp tk v.2).1 (kp tk v.2).2:=hdn;clear e3;have hpg:p≠g:=fun e=>hS3.pw (by subst e;rfl);obtain ⟨g3,o3,cap3,cur3,he3,dX,_,_,_,_⟩:=hS3.hw.laid (by omega);rw [hln] at he3;cases he3;have HS3:=Hz (hS3.tJ (kp tk v.2).2);have hk3':aa (fun b=>Fk b∨aF p rv (.slice (some ⟨g,o,none⟩) wait.length wc) b) wr w3:=(HK2.out.mono fun _ _ h=>h.elim).trans hk3;have HF3:Hid (∀ b,F3 b→Fk b∨wr.heap.size≤b):=fun b hb=>by
      rcases hF3 b hb with h | h
      ·exact .inl h
      ·exact .inr (Nat.le_trans HK2.out.size h)
     have hng:¬ F3 g:=fun h=>hA3 g ⟨h, .inr (.inr rfl)⟩;have HJ3:=Hz (L.J_keep hJ3 ((aa.refl (·=g) w3).setCell (p:=⟨g,o+pre.length*2+1,none⟩) (.inl rfl) (.int .i64 (kp tk v.2).2)) (by rintro b hb rfl;exact hng hb));have HK3:=Hz (hk3'.setCell (p:=⟨g,o+pre.length*2+1,none⟩) (.inl (.inr (.inr (.inr rfl)))) (.int .i64 (kp tk v.2).2));have HA3:=Hz hA3;have p1:=hS3.hp.cell 1;have fz:=dX.free (o+k*2+1);obtain ⟨_,_,e3,hrd3,_,_⟩:=hS3.hw.rd;rw [hln] at e3;cases e3;obtain ⟨g3,o3,e3,_,q0,q1⟩:=hrd3.fP k (by omega);cases e3;have gl:=dX.lt;have pl:=hS3.hp.lt;simp only [Lz,aC] at p1;rw [GP.out] at HJ3 HK3 HS3;have HDN:Hid (∀ e ∈ pre ++ (v.1,(kp tk v.2).2) :: wait.drop (k+1),L.D (kp tk v.2).1 e.1∧L.D (kp tk v.2).1 e.2):=by
      intro e he;simp only [List.mem_append,List.mem_cons] at he;rcases he with he | rfl | he
      ·exact hdk e (by simp [he])
      ·exact ⟨(hdk v (by simp)).1,hdn⟩
      ·exact hdk e (by simp [he])
     have HX3:Hid (w.heap.size<w3.heap.size):=Nat.lt_of_lt_of_le xl hk3.size;have hx3:=HX3.out;clear hrd3 hJ3 hS3 hA3 hk3 hF3 hdk hdn hk3' hng dX x0 xl e1 el;clear HX3;go_wp2_with fail;go_roundw
     case rel=>exact ⟨k+1,true,by omega,by go_num,rfl,fF.kept GP.out GK.out GF.out HM.out HJ3.out HS3.out HA3.out HK3.out HF3.out HDN.out (by rw [ha,hb];rfl)⟩
     case measure=>simp [intOf];omega
    ·go_wp2_with fail;go_roundw
     case rel=>exact ⟨k+1,woke,by omega,by go_num,rfl,ALL.out _ HK2.out (by rw [ha,hb];rfl)⟩
     case measure=>simp [intOf];omega
  ·obtain rfl:k=wait.length:=by omega
   go_wp2_with fail;go_ret;have hm:=GM.out;have hs:=GS.out;have hd:=GD.out;rw [List.drop_length] at hm hs hd;simp only [wakeM,List.append_nil,Bool.or_false] at hm hs hd;refine ⟨by rw [hm];rfl,Fk,by rw [hm];exact GJ.out,by rw [hm];exact hs,GA.out,HKB.out.trans GK.out,fun b hb=>?_,by rw [hm];exact hd⟩;rcases GF.out b hb with h | h
   ·exact .inl h
   ·exact .inr (by rw [HSZ.out] at h;omega)
end
section
theorem tK {f:List Int} {sz:Int→Int}:∀ {l:List Int} {a b:Int} {A:Ar} (k:Nat),fE sz (ew f) l a b→tB sz A.ws.length l a→(∀ p ∈ l,A.aL p=true∧1+(A.ai p).2.1=sz p)→l.Nodup→(∀ p,0≤sz p)→k<l.length →
  ((l.take k).foldl (bt f) A).ai (l.getD k 0)=A.ai (l.getD k 0)∧((l.take k).foldl (bt f) A).ws.length=A.ws.length∧(∀ x ∈ ((l.take k).foldl (bt f) A).ws,x ∈ A.ws) ∧
   ((l.take k).foldl (bt f) A).nur=A.nur∧((l.take k).foldl (bt f) A).yng=A.yng∧((l.take k).foldl (bt f) A).grn=A.grn ∧
   0≤ew f (l.getD k 0)∧ew f (l.getD k 0)+sz (l.getD k 0)≤A.ws.length∧0≤l.getD k 0∧l.getD k 0+sz (l.getD k 0)≤A.ws.length
 | [],_,_,_,k,_,_,_,_,_,hk=>by simp at hk
 | p :: l,a,b,A,0,hs,hd,hz,hn,h0,_=>by
  obtain ⟨d0,dp,d1,d2,d3,d4⟩:=hd;have e:ew f p=a:=hs.1;simp only [List.take_zero,List.foldl_nil,List.getD_cons_zero];exact ⟨by trivial,by trivial,fun _ h=>h,by trivial,by trivial,by trivial,by omega,by omega,dp,d1⟩
 | p :: l,a,b,A,k+1,hs,hd,hz,hn,h0,hk=>by
  obtain ⟨d0,dp,d1,d2,d3,d4⟩:=hd;have hp:=hz p (by simp);rw [List.nodup_cons] at hn;obtain ⟨k1,k2,k3,k4,k5,k6⟩:=oY (A:=A) (f:=f) (p:=p) (a:=a) hs.1 d0 dp (by rw [hp.2];exact d1) (by rw [hp.2];exact d2);rw [hp.2] at k2;have huse:∀ x,(bt f A p).aL x=A.aL x:=fun x=>by unfold Ar.aL Ar.az Ar.aI;rw [k4,k5,k6]
  have same:∀ q ∈ l,(bt f A p).ai q=A.ai q:=fun q hq=>by
   have h:=hz q (by simp [hq]);have hq0:0≤q:=by
    have:=h.1;unfold Ar.aL at this;rw [Bool.or_eq_true,bP,c6] at this;omega
   have e:(bt f A p).load q=A.load q:=by
    rw [jF h.1,jF (by rw [huse];exact h.1),k2 q hq0,if_neg];have:=d3 q hq;have:=h0 q;have h1:=A.aO q;omega
   exact cL e
  have hz':∀ q ∈ l,(bt f A p).aL q=true∧1+((bt f A p).ai q).2.1=sz q:=fun q hq=>by
   have h:=hz q (by simp [hq]);exact ⟨by rw [huse];exact h.1,by rw [same q hq];exact h.2⟩
  have hk':k<l.length:=by simpa using hk
  obtain ⟨m1,m2,m3,m4,m5,m6,m7,m8,m9,m10⟩:=tK (f:=f) (sz:=sz) (l:=l) (a:=a+sz p) (b:=b) (A:=bt f A p) k hs.2 (by rw [k1];exact d4) hz' hn.2 h0 hk';have hm:l.getD k 0 ∈ l:=by rw [Ld,Le hk'];exact List.getElem_mem _
  simp only [List.take_succ_cons,List.foldl_cons,List.getD_cons_succ];rw [k1] at m2 m8 m10;exact ⟨m1.trans (same _ hm),m2,fun x hx=>k3 x (m3 x hx),m4.trans k4,m5.trans k5,m6.trans k6,m7,m8,m9,m10⟩
section
variable {O:Wo} {W:Wd} {φ:Int→Int}
def Wo.dm (O:Wo) (x:Int):Prop:=x%4=1→0≤x/4∧x/4<O.ar.ws.length
theorem aH.oO (R:aH O W φ) {i:Int} (hi:W.live i):0≤φ i∧φ i+1+(W.th i).fs.length≤O.ar.ws.length:=by
 have h1:=R.ho.ha.h1;have h2:=R.ho.ha.h2;have h3:=R.ho.ha.h3;cases ho:(W.th i).aI
 ·have:=Tile.mem R.ty _ (R.iny i hi ho);rw [R.th i hi] at this;dsimp only at this;omega
 ·have:=Tile.mem R.tz _ (R.ino i hi ho);rw [R.th i hi] at this;dsimp only at this;omega
theorem aH.Bi (R:aH O W φ) {v:Vl} (hv:W.cC v):O.dm (ay φ v):=fun h=>by
 have h3:=(fM hv).1 h;have:=R.oO (Wd.aY hv h3);rw [bF φ h3,show (4*φ v.2+1)/4=φ v.2 by omega];omega
theorem aH.tL (R:aH O W φ) {v:Vl} (hv:W.cC v):Dm (fun p=>∃ i,W.live i∧φ i=p) (ay φ v):=fun h=>by
 have h3:=(fM hv).1 h;refine ⟨v.2,Wd.aY hv h3,?_⟩;rw [bF φ h3];omega
theorem aH.zw (R:aH O W φ):∀ x ∈ O.rt,Dm (fun p=>∃ i,W.live i∧φ i=p) x:=fun x hx=>by
 rw [R.rt] at hx;obtain ⟨v,hv,rfl⟩:=List.mem_map.1 hx;exact R.tL (R.hw.rv v hv)
theorem aH.v8 (R:aH O W φ) {e:Int × Int} (he:W.dD e):Dm (fun p=>∃ i,W.live i∧φ i=p) (bp φ e).1∧Dm (fun p=>∃ i,W.live i∧φ i=p) (bp φ e).2:=by
 rw [dI];exact ⟨R.tL (v:=(3,e.1)) (.inr (.inr (.inr ⟨rfl,he.1⟩))),R.tL (v:=(3,e.2)) (.inr (.inr (.inr ⟨rfl,he.2.2⟩)))⟩
theorem aH.Cj (R:aH O W φ):∀ e ∈ O.rg,Dm (fun p=>∃ i,W.live i∧φ i=p) e.1∧Dm (fun p=>∃ i,W.live i∧φ i=p) e.2:=fun e he=>by
 rw [R.rg] at he;obtain ⟨g,hg,rfl⟩:=List.mem_map.1 he;exact R.v8 (R.hw.gv g hg)
theorem aH.Ck (R:aH O W φ):∀ e ∈ O.wt,Dm (fun p=>∃ i,W.live i∧φ i=p) e.1∧Dm (fun p=>∃ i,W.live i∧φ i=p) e.2:=fun e he=>by
 rw [R.wt] at he;obtain ⟨g,hg,rfl⟩:=List.mem_map.1 he;exact R.v8 (R.hw.wv g hg)
theorem Dm.dm (R:aH O W φ) {x:Int} (h:Dm (fun p=>∃ i,W.live i∧φ i=p) x):O.dm x:=fun h1=>by
 obtain ⟨i,hi,e⟩:=h h1;have:=R.oO hi;omega
theorem aH.Bj (R:aH O W φ) {e:Int × Int} (he:W.dD e):O.dm (bp φ e).1∧O.dm (bp φ e).2:=⟨(R.v8 he).1.dm R,(R.v8 he).2.dm R⟩
theorem aH.Ad (R:aH O W φ):∀ e ∈ bq aR fD (bV O).1 (bV O).2.2,O.dm e.1∧O.dm e.2:=fun e he=>by
 obtain ⟨P,hq,hI⟩:=R.i9;obtain ⟨m,hfst,hcnt,hits⟩:=Wd.g6 R.hw true;unfold bq at he;obtain ⟨i,hi,rfl⟩:=List.mem_map.1 he;have hi:=(List.mem_filter.1 hi).1;rw [hI] at hi;obtain ⟨j,hj,rfl⟩:=List.mem_map.1 hi;have h1:(j.1,j.2.1) ∈ (W.pass true).2.2.map (fun i=>(i.1,i.2.1)):=List.mem_map.2 ⟨j,hj,rfl⟩;rw [hits] at h1;obtain ⟨g,hg,e2⟩:=List.mem_map.1 h1;have e3:g=j.1:=congrArg (fun p:(Int × Int) × Bool=>p.1) e2;have:=R.hw.gv g hg;rw [e3] at this;exact R.Bj this
theorem aH.Ae (R:aH O W φ):∀ e ∈ bs aR fD (bV O).1 (bV O).2.1,O.dm e.1∧O.dm e.2:=fun e he=>by
 obtain ⟨P,hq,hI⟩:=R.i9;unfold bs at he;obtain ⟨i,hi,rfl⟩:=List.mem_map.1 he;have hi:=(List.mem_filter.1 hi).1;rw [hq] at hi;obtain ⟨j,hj,rfl⟩:=List.mem_map.1 hi;exact R.Bj (P.ok j hj)
theorem aH.Cl (R:aH O W φ):∀ x ∈ O.rt,O.dm x:=fun x hx=>(R.zw x hx).dm R
structure CM (O:Wo):Prop where
 all0:0≤(dE O).2
 all1:(O.ar.nur:Int)+(dE O).2≤O.ar.ws.length
 turn:∀ k,k<(bQ O).length→∀ A i,((bQ O).take k).foldl (dT (bV O).1 (dE O).1) O.ar=A→(bQ O).getD k 0=i →
  A.ok∧0≤i∧i<O.ar.ws.length∧(∀ j:Int,0≤j→j<(A.ai i).2.1→A.aL (i+1+j)=true)∧((A.ai i).1=4→0<(A.ai i).2.1)∧∀ j:Int,0≤j→j<(A.ai i).2.1→O.dm (A.load (i+1+j))
 tok:(dJ O).ok
 tlen:(dJ O).ws.length=O.ar.ws.length
 slide:∀ k,k<(bQ O).length→∀ A i,((bQ O).take k).foldl (bt (dE O).1) (dJ O)=A→(bQ O).getD k 0=i →
  A.ok∧A.ws.length=O.ar.ws.length∧0≤i∧i+1+(A.ai i).2.1≤O.ar.ws.length∧0≤ew (dE O).1 i∧ew (dE O).1 i+1+(A.ai i).2.1≤O.ar.ws.length
theorem aH.half (R:aH O W φ) (hno:¬ (dU O).1≠0):CM O:=by
 have hsy:=R.sy;have hso:=R.so;have hnur:=R.nur;have hlen:=R.len;obtain ⟨P,hq,hI⟩:=R.i9;have PL:=R.yE;generalize Exists.choose _=N at PL;have hokO:=R.ho.ha;have b1:=hokO.h1;have b2:=hokO.h2;have b3:=hokO.h3;have b4:=hokO.h4;have hallN:(dE O).2≤(O.ar.ws.length:Int)-O.ar.nur:=by
  unfold dU at hno;by_cases h:(dE O).2 > ((O.ar.grn:Int)-O.ar.nur)+((O.ar.ws.length:Int)-O.ar.grn)
  ·rw [if_pos h] at hno;exact (hno (show (3:Int)≠0 by decide)).elim
  ·omega
 have h0:∀ p,0≤(fun p=>1+(O.ar.ai p).2.1) p:=fun p=>by have:=O.ar.aO p;dsimp only;omega
 have hall0:=fE.le h0 PL.sit;have hsl:=PL.slid hallN;have hsit:=PL.sit;have hTu:dJ O=(bQ O).foldl (dT (bV O).1 (dE O).1) O.ar:=rfl;generalize hf:(dE O).1=f at *;generalize hall:(dE O).2=all at *;generalize hs:(bV O).1=s at *;generalize his:(W.pass true).1=is at *;have lvN:∀ {i},i ∈ N→W.live i:=fun hi=>P.M.sl _ ((PL.nm _).1 hi);have thN:∀ {i},i ∈ N→(O.ar.ai (φ i))=((W.th i).k,((W.th i).fs.length:Int),0):=fun hi=>R.th _ (lvN hi);have place:∀ {i},i ∈ N→(O.ar.nur:Int)≤cZ f φ i∧cZ f φ i+(1+(W.th i).fs.length)≤O.ar.nur+all:=fun {i} hi=>by
  have:=fE.mem h0 hsit (φ i) (by rw [←PL.eq];exact List.mem_map.2 ⟨i,hi,rfl⟩);rw [thN hi] at this;exact this
 have T:Tn O W φ s f is:=⟨fun i hi=>P.M.sl i hi,fun v hv=>P.M.alive R hv,fun i hi=>by have:=place ((PL.nm i).2 hi);omega⟩;have hlenN:N.length=(bQ O).length:=by rw [←PL.eq,List.length_map]
 obtain ⟨t1,t2,t3,t4,t5,t6,-⟩:=T.turns R N PL.nd (fun i hi=>(PL.nm i).1 hi) hokO rfl rfl rfl rfl (fun _ _ _ _ _=>rfl);rw [PL.eq,←hTu] at t1 t2 t3 t4 t5 t6;have use0:∀ q,(dJ O).aL q=O.ar.aL q:=fun q=>by unfold Ar.aL Ar.az Ar.aI;rw [t2,t3,t4]
 refine ⟨by omega,by omega,fun k hk A i hA hi=>?_,t1,t5,fun k hk A i hA hi=>?_⟩
 all_goals (try rw [hs] at hA);rw [hf] at hA
 ·have hkN:k<N.length:=by omega
  have hgi:i=φ (N.getD k 0):=by
   rw [←hi,←PL.eq,Ld,List.getElem?_map,Le hkN,Ld,Le hkN];rfl
  have hmN:N.getD k 0 ∈ N:=by rw [Ld,Le hkN];exact List.getElem_mem _
  have hnot:¬ N.getD k 0 ∈ N.take k:=fun h=>by
   have e:N=N.take k ++ N.drop k:=(List.take_append_drop k N).symm;have hnd:=PL.nd;rw [e,List.nodup_append] at hnd;refine hnd.2.2 _ h _ ?_ rfl;rw [List.drop_eq_getElem_cons hkN,Ld,Le hkN];exact List.mem_cons_self
  obtain ⟨u1,u2,u3,u4,u5,-,u7⟩:=T.turns R (N.take k) (PL.nd.sublist (List.take_sublist k N)) (fun i hi=>(PL.nm i).1 (List.mem_of_mem_take hi)) hokO rfl rfl rfl rfl (fun _ _ _ _ _=>rfl);rw [List.map_take,PL.eq,hA] at u1 u2 u3 u4 u5 u7;generalize N.getD k 0=n at *;subst hgi;have hl:=lvN hmN;have hld:=u7 n hl hnot;have h00:=hld 0 (by omega) (by omega);rw [Int.add_zero] at h00;have hth:A.ai (φ n)=((W.th n).k,((W.th n).fs.length:Int),0):=by rw [iy h00];exact thN hmN
  have hbd:=R.oO hl;rw [hth];dsimp only;refine ⟨u1,hbd.1,by omega,fun j j0 j1=>?_,fun h4=>?_,fun j j0 j1=>?_⟩
  ·have:A.aL (φ n+1+j)=O.ar.aL (φ n+1+j):=by unfold Ar.aL Ar.az Ar.aI;rw [u2,u3,u4]
   rw [this,Int.add_assoc];exact R.use hl (by omega) (by omega)
  ·obtain ⟨a,b,e⟩:=iQ (Wd.two R.hw hl (.inr (.inl h4)));rw [e];simp
  ·have hv:(W.th n).fs[j.toNat]? = some (W.th n).fs[j.toNat]:=Le (by omega);have hlv:=hld (1+j) (by omega) (by omega);rw [←Int.add_assoc] at hlv;rw [hlv];have:=R.fl n hl _ _ hv;rw [show ((j.toNat:Nat):Int)=j by omega] at this;rw [this];exact R.Bi (R.hw.tv n hl _ (List.mem_of_getElem? hv))
 ·have hus:∀ {i},i ∈ N→(dJ O).aL (φ i)=true:=fun {i} hi=>by
   rw [use0];have:=R.use (lvN hi) (j:=0) (by omega) (by omega);rwa [Int.add_zero] at this
  obtain ⟨m1,m2,m3,m4,m5,m6,m7,m8,m9,m10⟩:=tK (f:=f) (sz:=fun p=>1+(O.ar.ai p).2.1) (l:=bQ O) (A:=dJ O) k hsit (by rw [t5];exact hsl) (fun p hp=>by
   rw [←PL.eq] at hp;obtain ⟨i,hi,rfl⟩:=List.mem_map.1 hp;refine ⟨hus hi,?_⟩
   rw [cL (t6 i hi).1]) ((mW R).filter _) h0 hk
  rw [hA] at m1 m2 m3 m4 m5 m6;rw [hi] at m1 m7 m8 m9 m10;rw [t5] at m2 m8 m10
  try dsimp only at m8 m10
  have hthi:(dJ O).ai i=O.ar.ai i:=by
   have hmem:i ∈ bQ O:=by rw [←hi,Ld,Le hk];exact List.getElem_mem _
   rw [←PL.eq] at hmem;obtain ⟨n,hn,rfl⟩:=List.mem_map.1 hmem;exact cL (t6 n hn).1
  rw [m1,hthi];have hokA:A.ok:=⟨by rw [m5,m4,t3,t2];exact b1,by rw [m4,m6,t2,t4];exact b2,by rw [m6,t4,m2];exact b3,by rw [m2];exact b4,fun x hx=>t1.hw x (m3 x hx)⟩;rw [hf];exact ⟨hokA,m2,m9,by omega,m7,by omega⟩
end
end
section
open Go.RowKit
inductive qN where
 | free (i:Nat) (r:qN)
 | three (i:Nat) (t1:RO) (j:Nat) (t2:RO) (k:Nat) (t3:RO)
def qN.size:qN→Nat
 | .free _ r=>r.size+1
 | .three _ t _ _ _ _=>t.size+1
section
variable {P:Program} {ops:Array Oper} {md:Region.Mode}
def ro3B (md:Region.Mode) (ops:Array Oper):qN→Array Bool→Bool
 | .free i r,listed=>(Region.ready md ops listed).contains i && Region.free md ops listed i && ro3B md ops r (listed.setIfInBounds i true)
 | .three i t1 j t2 k t3,listed=>Region.ready md ops listed == [i,j,k] && t1.size == t2.size && t1.size == t3.size && roB md ops t1 [] (listed.setIfInBounds i true) && roB md ops t2 [] (listed.setIfInBounds j true) && roB md ops t3 [] (listed.setIfInBounds k true)
def qO (P:Program) (ops:Array Oper) (Q:Act→World→Prop):qN→Act→World→Prop
 | .free i r,a,w=>∃ o v,ops[i]? = some o∧eX P ops (fun _=>True) o v a∧qO P ops Q r (a.put o.dst v) w
 | .three i t1 j t2 k t3,a,w=>gOp P ops i (fun a' w'=>jv P ops Q t1 [] (fun _=>True) a' w') a w∧gOp P ops j (fun a' w'=>jv P ops Q t2 [] (fun _=>True) a' w') a w∧gOp P ops k (fun a' w'=>jv P ops Q t3 [] (fun _=>True) a' w') a w
theorem qP {Q:Act→World→Prop} (hs:Region.noSelect ops=true):∀ (t:qN) (listed:Array Bool) (a:Act) (w:World),ju md ops listed →
  ro3B md ops t listed=true→qO P ops Q t a w→wpAnyH P md ops (fun _=>True) [] (fun _=>True) Q t.size listed a w
 | .free i r,listed,a,w,hS,hB,h=>by
  simp only [ro3B,Bool.and_eq_true] at hB;obtain ⟨⟨hr,hf⟩,hB'⟩:=hB;obtain ⟨o,v,ho,hy,hn⟩:=h;have hr':i ∈ Region.ready md ops listed:=by simpa using hr
  refine wpAnyH_first ho (Region.noSelect_spec hs) (.inr (.inr fun _=>trivial)) r.size listed a w trivial hS (Region.free_spec ho hf) hr' hy ?_;exact qP hs r _ _ w (hS.next hr') hB' hn
 | .three i t1 j t2 k t3,listed,a,w,hS,hB,h=>by
  simp only [ro3B,Bool.and_eq_true,beq_iff_eq] at hB;obtain ⟨⟨⟨⟨⟨hr,h12⟩,h13⟩,rI⟩,uL⟩,Bk⟩:=hB;refine ⟨(fun h0=>by rw [hr] at h0;cases h0),fun m hm=>?_⟩;have hin:m ∈ Region.ready md ops listed:=hm;rw [hr] at hm;have hm:m=i∨m=j∨m=k:=by simpa using hm
  rcases hm with rfl | rfl | rfl
  ·exact eI (fun a' w' hn=>⟨fun h=>h,fun _ h=>h,eC hs t1 [] _ _ a' w' (hS.next hin) trivial (.inl trivial) rI hn.raw⟩) h.1
  ·show gOp P ops m (fun a' w'=>(True→True)∧(([]:List Nat).contains m=false→True→True)∧wpAnyH P md ops (fun _=>True) [] (fun _=>True) Q t1.size (listed.setIfInBounds m true) a' w') a w
   rw [h12];exact eI (fun a' w' hn=>⟨fun h=>h,fun _ h=>h,eC hs t2 [] _ _ a' w' (hS.next hin) trivial (.inl trivial) uL hn.raw⟩) h.2.1
  ·show gOp P ops m (fun a' w'=>(True→True)∧(([]:List Nat).contains m=false→True→True)∧wpAnyH P md ops (fun _=>True) [] (fun _=>True) Q t1.size (listed.setIfInBounds m true) a' w') a w
   rw [h13];exact eI (fun a' w' hn=>⟨fun h=>h,fun _ h=>h,eC hs t3 [] _ _ a' w' (hS.next hin) trivial (.inl trivial) Bk hn.raw⟩) h.2.2
structure sC (P:Program) (ops:Array Oper) (Q:Act→World→Prop) (t:qN) (a:Act) (w:World):Prop where
 raw:qO P ops Q t a w
theorem sw {id:Nat} {Q:Exit→Act→World→Prop} {a:Act} {w:World} {l:List Oper} (t:qN) (hm:P.follows .mixedOrders=true)
  (hB:(Region.noSelect l.toArray && t.size == l.toArray.size && ro3B .any l.toArray t (Array.replicate l.toArray.size false))=true)
  (h:sC P l.toArray (fun a' w'=>Q .normal a' w') t a w.drew):(Code.region id l.toArray true).wp P Q a w:=by
 simp only [Bool.and_eq_true,beq_iff_eq] at hB;obtain ⟨⟨hs,hl⟩,hB⟩:=hB;refine wp_region_any hm ?_;have hshut:ju .any l.toArray (Array.replicate l.toArray.size false):=by
  intro j o ho hx;have h0:(Array.replicate l.toArray.size false).getD j false=false:=by
   rw [Array.getD_eq_getD_getElem?,Array.getElem?_replicate];split <;> rfl
  rw [h0] at hx;cases hx
 have:=qP (md:=.any) hs t _ a w.drew hshut hB h.raw;rw [hl] at this;exact mB (fun _ _ h=>h) _ _ _ _ this
variable {Q:Act→World→Prop} {i:Nat} {r:qN} {a:Act} {w:World} {o:Oper}
theorem wg (ho:ops[i]? = some o) (hw:Region.wanted o (yielded ops a.tmps)=true) (v:Value)
  (h:∀ w',bu v w' ((execOp a.eval o).run P w')) (hn:∀ K:Act→Prop,(∀ a',sC P ops Q r a' w→K a')→K (a.put o.dst v)):sC P ops Q (.free i r) a w:=
 ⟨⟨o,v,ho, .inl ⟨hw,fun w' _=>h w'⟩,hn (fun a'=>qO P ops Q r a' w) (fun _ h=>h.raw)⟩⟩
theorem uD {j k:Nat} {t1 t2 t3:RO} {o2 o3:Oper} (h1:ops[i]? = some o) (w1:Region.wanted o (yielded ops a.tmps)=true) (h2:ops[j]? = some o2) (w2:Region.wanted o2 (yielded ops a.tmps)=true) (h3:ops[k]? = some o3) (w3:Region.wanted o3 (yielded ops a.tmps)=true)
  (g1:∀ K:Act→World→Prop,(∀ a' w',jv P ops Q t1 [] (fun _=>True) a' w'→K a' w')→aw P o a w K)
  (g2:∀ K:Act→World→Prop,(∀ a' w',jv P ops Q t2 [] (fun _=>True) a' w'→K a' w')→aw P o2 a w K)
  (g3:∀ K:Act→World→Prop,(∀ a' w',jv P ops Q t3 [] (fun _=>True) a' w'→K a' w')→aw P o3 a w K):sC P ops Q (.three i t1 j t2 k t3) a w:=
 ⟨⟨jw h1 w1 (g1 _ (fun _ _ h=>h)),jw h2 w2 (g2 _ (fun _ _ h=>h)),jw h3 w3 (g3 _ (fun _ _ h=>h))⟩⟩
end
end
section
section
variable {O:Wo} {W:Wd} {φ:Int→Int}
theorem aH.yK (R:aH O W φ):(O.ar.nur:Int)-O.ar.yng=W.most-W.az:=by rw [R.nur,R.sy]
end
section
variable {W:Wd}
end
end
section
section
variable {O:Wo} {W:Wd} {φ:Int→Int}
theorem pN (W:Wd) (r:Int) (v:Vl):(W.cG r v).T.length=W.T.length:=rfl
theorem yL (W:Wd) (i:Int) (fs:List Vl):(W.dg i fs).T.length=W.T.length:=by simp [Wd.dg]
def gw (l:List Nd):Int:=(l.map fun n=>1+if n.1=5 then 0 else (n.2.length:Int)).sum
theorem Wd.yM (hok:W.ok):gw W.view.2=(W.met.map fun i=>(W.th i).words).sum:=by
 have S:=Wd.seen hok;rw [S.eq];unfold gw;dsimp only;rw [List.map_map];congr 1;refine List.map_congr_left fun i hi=>?_;have hl:=S.lv i hi;have hf:=hok.tk i hl;simp only [Function.comp];unfold pI Wd.gr Th.words;dsimp only;by_cases h5:(W.th i).k=5
 ·rw [if_pos h5];have:(W.th i).fs.length=0:=by
   rw [h5] at hf;simp [bm] at hf;rw [hf];rfl
  omega
 ·rw [if_neg h5,if_neg h5,List.append_nil,List.length_map]
theorem tM (t:Th):0≤t.words:=by unfold Th.words;omega
end
end
section
section
variable {O:Wo} {W:Wd} {φ:Int→Int}
theorem Wd.mZ (W:Wd) (major:Bool):(W.cut major).2.most=W.most∧(W.cut major).2.grow=W.grow:=by
 unfold Wd.cut;split
 ·exact ⟨rfl,rfl⟩
 ·split <;> exact ⟨rfl,rfl⟩
theorem Wd.Af (W:Wd) (major:Bool):(W.cut major).2.T.length=W.T.length:=by
 unfold Wd.cut;split
 ·rfl
 ·split
  ·rfl
  ·exact Wd.lK
theorem aH.vs (R:aH O W φ):((O.ar.grn-O.ar.nur:Nat):Int)=W.cm:=by
 have h:=R.ho.ha.h2;rw [←R.so];omega
end
end
section
open Go.RowKit
structure BH where
 p:Nat
 a:WH
 b:RW
section
variable {w w':World} {h:BH} {O O':Wo} {W W':Wd}
end
end
section
open Go.ChangeShapes Go.WideShapes Go.ChangeAt Go.RowKit Go.Joins
section
variable {H:Type} {enc:TypeId × Value→H} {w:World} {base:Nat} {spare:Nat→Bool} {held:Bool}
theorem yN {P:Program} {r:Reach} {b0:Nat} {t:TypeId} {fs:Array Field} {v:Value} {d:DataW H} {p:List MemPlace} (hs:P.underlying t=some (.struct fs)) (hfl:Flat enc P w base spare held t)
  (hv:Value.okWide P w r b0 t v) (h:DataW.Trod enc P w base spare held t v d p) :
  ∃ l:List Int,v=.agg (l.map (Value.int .i64)).toArray∧l.length=P.cellsOf t∧∀ x ∈ l,a9 x:=by
 obtain ⟨cs,rfl,hsz⟩:=okWide_struct hs hv;obtain ⟨fuel,hf⟩:=h;obtain ⟨h1,h2⟩:=hfl fuel _ _ hf;obtain ⟨l,hl,hb⟩:=mA h2;refine ⟨l,?_,?_,hb⟩
 ·rw [←hl];simp [Value.cells]
 ·have:=congrArg List.length hl;rw [h1] at this;simpa using this.symm
theorem xE:Flat enc Tryz.prog w base spare held 69:=by
 refine lV Tryz.underlying69 (by kernel_rfl) ?_;intro i f hf
 match i with
 | 0=>simp at hf;subst hf;exact (cY Tryz.underlying3 (by kernel_rfl))
 | 1=>simp at hf;subst hf;exact (cY Tryz.underlying3 (by kernel_rfl))
 | 2=>simp at hf;subst hf;exact (cY Tryz.underlying3 (by kernel_rfl))
 | 3=>simp at hf;subst hf;exact (cY Tryz.underlying3 (by kernel_rfl))
 | 4=>simp at hf;subst hf;exact (cY Tryz.underlying3 (by kernel_rfl))
 | 5=>simp at hf;subst hf;exact (cY Tryz.underlying2 (by kernel_rfl))
 | i+6=>simp at hf
theorem CO {r:Reach} {b0:Nat} {v:Value} {d:DataW H} {p:List MemPlace} (hv:Value.okWide Tryz.prog w r b0 69 v) (h:DataW.Trod enc Tryz.prog w base spare held 69 v d p) :
  ∃ x:St,v=.agg #[.int .i64 x.k, .int .i64 x.r, .int .i64 x.a, .int .i64 x.b, .int .i64 x.i, .int .i64 x.n]∧a9 x.n:=by
 obtain ⟨l,e,hl,hb⟩:=yN Tryz.underlying69 xE hv h;have hc:Tryz.prog.cellsOf 69=6:=by kernel_rfl
 rw [hc] at hl
 match l,hl with
 | [k,r,a,b,i,n],_=>exact ⟨⟨k,r,a,b,i,n⟩,e,hb n (by simp)⟩
end
end
section
open Go.RowKit
def rI:Wo:=((Wo.new 16 8).do ⟨1,0,0,0,0,7⟩).2
def uL:Wo:=(rI.do ⟨4,1,0,0,0,0⟩).2
def Bk:Wo:=(uL.do ⟨11,2,1,0,2,0⟩).2
theorem ax:((Wo.new 16 8).do ⟨1,0,0,0,0,7⟩).1=0:=by decide +kernel
theorem bH:(rI.do ⟨4,1,0,0,0,0⟩).1=0:=by decide +kernel
theorem dX:(uL.do ⟨11,2,1,0,2,0⟩).1=1:=by decide +kernel
theorem Cy:3≤(rI.ar.nur:Int)-rI.ar.yng:=by decide +kernel
theorem dV:Bk.view.2=[(1,[(1,7),(1,7)])]:=by decide +kernel
section
variable {w w':World}
structure HM (w0 w:World) (p:Nat) (h:HH) (O:Wo):Prop where
 B:a6 w h O
 e:h.p=p
 K:aa (fun _=>False) w0 w
 own:∀ k,h.Own k→w0.heap.size≤k
theorem HM.to {w0:World} {p:Nat} {h:HH} {O O':Wo} (M:HM w0 w p h O) (t:aU w h w' O'):∃ h',HM w0 w' p h' O':=by
 obtain ⟨h',H',e',k',o'⟩:=t;refine ⟨h',H',e'.trans M.e,M.K.then k' (fun b hb=>.inr (M.own b hb)),fun b hb=>?_⟩;rcases o' b hb with h1 | h1
 ·exact M.own b h1
 ·have:=M.K.size;omega
theorem HM.same {w0:World} {p:Nat} {h:HH} {O:Wo} (M:HM w0 w p h O) (k:aa (fun _=>False) w w'):HM w0 w' p h O:=⟨M.B.same k,M.e,M.K.trans k,M.own⟩
theorem HM.pc {w0:World} {p:Nat} {h:HH} {O:Wo} (M:HM w0 w p h O):w.cell? ⟨p,0,none⟩=some (.pointer (some ⟨h.a.p,0,none⟩))∧p<w.heap.size:=by
 have:=M.B.pc;rw [M.e] at this;exact this
end
end
end Go.Proofs.YtjifdalflepcoacGreat
