/-
  Parts of the proof, merged: what the functions do, and plain laws.
-/
import Derived.Test.YtjifdalflepcoacGreatMDesP2
import Derived.Test.YtjifdalflepcoacGreatMDesP1
set_option maxHeartbeats 16000000
set_option maxRecDepth 100000
set_option linter.unusedVariables false
set_option linter.unusedSimpArgs false
namespace Go.Proofs.YtjifdalflepcoacGreat
section
section
variable {O:Wo} {W:Wd} {φ ψ:Int→Int} {A B:Ar} {is:List Bool} {N:List Int} {qw:List (Int × Int)}
theorem sumL_le (h:W.ok) (hl:∀ i,atB is i=true→W.live i):sumL is W.T≤W.young+W.olds:=by
 have e:sumL is W.T=((((List.range W.T.length).map (Int.ofNat ·)).filter fun i=>atB is i).map fun i=>(W.th i).words).sum:=by
  rw [sum_filter]
  unfold sumL
  congr 1
  apply List.ext_getElem
  ·simp
  ·intro k h1 h2
   simp only [List.length_mapIdx] at h1
   simp only [List.getElem_mapIdx,List.getElem_map,List.getElem_range]
   have e1:W.th (Int.ofNat k)=W.T[k]:=by
    unfold Wd.th
    rw [List.getD_eq_getElem?_getD,show (Int.ofNat k).toNat=k from rfl,List.getElem?_eq_getElem h1];rfl
   have e2:atB is (Int.ofNat k)=is.getD k false:=atB_nat is k
   rw [e1,e2]
 have hnd:(((List.range W.T.length).map (Int.ofNat ·)).filter fun i=>atB is i).Nodup:=(nodup_range_int _).filter _
 have h1:=sum_sub (f:=fun i=>(W.th i).words) (fun i=>by unfold Th.words;omega) hnd (m:=W.idx false ++ W.idx true) (by
  intro i hi
  have hb:=(List.mem_filter.1 hi).2
  have hlv:=hl i (by simpa using hb)
  rw [List.mem_append]
  cases ho:(W.th i).old
  ·exact .inl (Wd.mem_idx.2 ⟨hlv,ho⟩)
  ·exact .inr (Wd.mem_idx.2 ⟨hlv,ho⟩))
 rw [List.map_append,List.sum_append,Wd.sum_idx,Wd.sum_idx] at h1
 have e1:(sumW W.T fun t=>!t.dead && (t.old == false))=W.young:=by unfold Wd.young;congr 1;funext t;cases t.old <;> rfl
 have e2:(sumW W.T fun t=>!t.dead && (t.old == true))=W.olds:=by unfold Wd.olds;congr 1;funext t;cases t.old <;> rfl
 rw [e1,e2] at h1
 rw [e];exact h1
theorem clear_load (A:Ar) {q:Int} (h:A.old q=true):A.clear.load q=A.load q:=by
 have h1:A.inUse q=true:=by unfold Ar.inUse;rw [h];simp
 have h2:A.clear.inUse q=true:=by
  unfold Ar.inUse
  rw [Bool.or_eq_true];right
  exact h
 unfold Ar.load
 rw [if_pos h1,if_pos h2];rfl
theorem Wd.cut_small (W:Wd) (h:¬ W.young > W.grow-W.olds) (h2:¬ sumL (W.pass false).1 W.T > W.grow):W.cut false=(0,W.after false):=by
 unfold Wd.cut
 rw [if_neg (fun h'=>h h'.2),if_neg h2]
theorem Rep.minor (R:Rep O W φ):(mCut O).1=(W.cut false).1∧∃ ψ,Rep (mCut O).2 (W.cut false).2 ψ:=by
 have hsy:=R.sy;have hso:=R.so;have hnur:=R.nur;have hlen:=R.len
 by_cases hfull:(O.ar.yng:Int) > (O.ar.ws.length:Int)-O.ar.grn
 ·have e1:mCut O=(3,O):=by unfold mCut;rw [if_pos hfull]
  have e2:W.cut false=(3,W):=by unfold Wd.cut;rw [if_pos ⟨rfl,by omega⟩]
  rw [e1,e2]
  exact ⟨rfl,φ,R⟩
 ·have hr:(O.ar.yng:Int)≤(O.ar.ws.length:Int)-O.ar.grn:=by omega
  obtain ⟨m,hfst,hcnt,hits⟩:=Wd.pass_mid R.hw false
  have hsum:=sumL_le R.hw m.live
  have e2:W.cut false=(0,W.after false):=W.cut_small (by omega) (by omega)
  have e1:mCut O=(0,⟨(mGone (mPass O).1.1).clear,O.cd.map fun _=>false,(mRoots O.ar O.rt).2,newRegs mtAlive mtNow (mPass O).1 (mPass O).2.2,newWait mtAlive mtNow (mPass O).1 (mPass O).2.1⟩):=by unfold mCut;rw [if_neg hfull]
  rw [e1,e2]
  obtain ⟨ψ,N,P,hI⟩:=R.passes hr
  obtain ⟨G,F⟩:=P.gone R
  have C:=P.H.C
  refine ⟨rfl,ψ,?_⟩
  have hokA:=R.hw.after (major:=false) (by omega)
  obtain ⟨B,hB⟩:∃ B,mGone (mPass O).1.1=B:=⟨_,rfl⟩
  rw [hB] at G F ⊢
  have okB:=G.sm.ok
  have lv:∀ {i},(W.after false).live i↔atB (W.pass false).1 i=true:=Wd.after_live R.hw
  have tha:∀ {i},atB (W.pass false).1 i=true→(W.after false).th i=cutT (W.pass false).1 i.toNat (W.th i):=fun hi=>Wd.th_after (m.live _ hi).1 (m.live _ hi).2.1
  have olda:∀ {i},atB (W.pass false).1 i=true→((W.after false).th i).old=true:=fun hi=>by
   rw [tha hi,(cutT_live (by rw [atB_toNat (m.live _ hi).1];exact hi)).2]
  have pl:∀ {i},atB (W.pass false).1 i=true→_:=fun {i} hi=>C.place R (i:=i) hi
  have oldB:∀ {i},atB (W.pass false).1 i=true→∀ j:Int,0≤j→j≤(W.th i).fs.length→B.old (ψ i+j)=true:=fun hi j h0 h1=>by
   have:=C.inO R hi h0 h1
   unfold Ar.old at *;rw [G.sm.nur,G.grn];exact this
  have thB:∀ {i},atB (W.pass false).1 i=true→B.clear.thing (ψ i)=((W.th i).k,((W.th i).fs.length:Int),0):=fun {i} hi=>by
   have h1:=oldB hi 0 (by omega) (by omega)
   rw [Int.add_zero] at h1
   rw [thing_of_load (clear_load B h1),G.hd i hi]
   exact C.th i hi
  have hgr:((O.ar.grn:Nat):Int)≤B.grn:=by rw [G.grn];exact Int.ofNat_le.2 C.sm.grn
  have tz:Tile B.clear (O.ar.things.2 ++ N.map ψ) B.clear.nur B.clear.grn:=by
   refine Tile.app (b:=O.ar.grn) ?_ ?_
   ·have hn:B.clear.nur=O.ar.nur:=(G.sm.nur).trans C.sm.nur
    rw [hn]
    refine Tile.congr (fun p hp=>?_) R.tz
    have:=(R.perm_o.mem_iff (a:=p)).1 hp
    obtain ⟨i,hi,rfl⟩:=List.mem_map.1 this
    obtain ⟨hl,ho⟩:=Wd.mem_idx.1 hi
    have hb:=C.so i hl ho
    have:=thB hb
    rw [C.po i hl ho] at this
    rw [this,R.th i hl]
   ·have hg:B.clear.grn=(mPass O).1.1.A.grn:=G.grn
    rw [hg]
    refine Tile.congr (fun p hp=>?_) C.tile
    obtain ⟨i,hi,rfl⟩:=List.mem_map.1 hp
    have hb:=((C.nm i).1 hi).1
    rw [thB hb,C.th i hb]
  have ty:Tile B.clear [] 0 B.clear.yng:=rfl
  have hokC:B.clear.ok:=okB.clear
  have hth:=Tile.things hokC ty tz
  have itx:∀ i ∈ (W.pass false).2.2,W.okE i.1∧(i.2.1=false→atB (W.pass false).1 i.1.2=true):=by
   intro i hi
   have h1:(i.1,i.2.1) ∈ (W.pass false).2.2.map (fun i=>(i.1,i.2.1)):=List.mem_map.2 ⟨i,hi,rfl⟩
   rw [hits] at h1
   obtain ⟨e,he',e2⟩:=List.mem_map.1 h1
   have e3:e=i.1:=congrArg (fun p:(Int × Int) × Bool=>p.1) e2
   have e4:(!atB (W.clo W.wait (W.first false)) e.2)=i.2.1:=congrArg (fun p:(Int × Int) × Bool=>p.2) e2
   have hgv:=R.hw.gv e he'
   rw [e3] at hgv e4
   exact ⟨hgv,fun hd=>hfst _ (by rw [hd] at e4;simpa using e4)⟩
  have nowP:∀ {x:Int} {y:Int},atB (W.pass false).1 x=true→Wrd φ ψ (fun k=>atB (W.pass false).1 k=true) y (3,x)→mtNow (mPass O).1 y=4*ψ x+1:=fun {x y} hx hw=>by
   have:=C.now R (v:=(3,x)) (.inr (.inr (.inr ⟨rfl,m.live x hx⟩))) hw (fun _=>hx)
   unfold mtNow
   rw [this,encV_ref ψ rfl]
  have hrg:newRegs mtAlive mtNow (mPass O).1 (mPass O).2.2=(W.after false).regs.map (encE ψ):=by
   rw [hI]
   show newRegs mtAlive mtNow (mPass O).1 _=(newRegs atB nowW (W.pass false).1 (W.pass false).2.2).map (encE ψ)
   generalize (W.pass false).2.2=l at itx
   unfold newRegs
   induction l with
   | nil=>rfl
   | cons i l ih=>
    have hi:=itx i (by simp)
    have ih:=ih (fun j hj=>itx j (by simp [hj]))
    have ea:mtAlive (mPass O).1 (encI φ i).1.1=atB (W.pass false).1 i.1.1:=by
     show mtAlive _ (encE φ i.1).1=_
     rw [encE_eq];exact P.alive R hi.1.1
    simp only [List.map_cons,List.filter_cons,ea]
    have e2:(encI φ i).2=i.2:=rfl
    rw [e2]
    by_cases hc:(!i.2.1 && atB (W.pass false).1 i.1.1)=true
    ·rw [if_pos hc,if_pos hc]
     simp only [List.map_cons]
     simp only [Bool.and_eq_true,Bool.not_eq_true'] at hc
     have n1:=nowP hc.2 (y:=(encI φ i).1.1) (.inl (by show (encE φ i.1).1=_;rw [encE_eq]))
     have n2:=nowP (hi.2 hc.1) (y:=(encI φ i).1.2) (.inl (by show (encE φ i.1).2=_;rw [encE_eq]))
     rw [ih,n1,n2];rfl
    ·rw [if_neg hc,if_neg hc];exact ih
  have hwt:newWait mtAlive mtNow (mPass O).1 (mPass O).2.1=(W.after false).wait.map (encE ψ):=by
   show _=(newWait atB nowW (W.pass false).1 (W.pass false).2.1).map (encE ψ)
   have hq:=P.q
   have hok:=P.ok
   have hsh:∀ f ∈ (W.pass false).2.1,atB (W.pass false).1 f.1=true→atB (W.pass false).1 f.2=true:=fun f hf h=>P.shut f.1 f.2 h (.inr (.inr (.inr ⟨(hok f hf).2.1,hf⟩)))
   clear hcnt
   revert hq hok hsh
   generalize (mPass O).2.1=l
   generalize (W.pass false).2.1=mm
   unfold newWait
   induction l generalizing mm with
   | nil=>
    intro hq _ _
    cases mm with
    | nil=>rfl
    | cons f mm=>exact hq.elim
   | cons e l ih=>
    intro hq hok hsh
    cases mm with
    | nil=>exact hq.elim
    | cons f mm=>
     have ih:=ih mm hq.2 (fun g hg=>hok g (by simp [hg])) (fun g hg=>hsh g (by simp [hg]))
     have hf:=hok f (by simp)
     have ea:mtAlive (mPass O).1 e.1=atB (W.pass false).1 f.1:=by rw [hq.1.1];exact P.alive R hf.1
     simp only [List.filter_cons,ea]
     by_cases hc:atB (W.pass false).1 f.1=true
     ·rw [if_pos hc,if_pos hc]
      simp only [List.map_cons]
      rw [ih,nowP hc (.inl hq.1.1),nowP (hsh f (by simp) hc) hq.1.2];rfl
     ·rw [if_neg hc,if_neg hc];exact ih
  have hR64:∀ {i},atB (W.pass false).1 i=true→R64 (4*ψ i+1):=fun hi=>by
   have:=pl hi
   have h3:=C.sm.ok.h3;have h4:=C.sm.ok.h4
   unfold R64;omega
  have hE64:∀ e,(W.after false).okE e→R64e (encE ψ e):=fun e he=>⟨hR64 (lv.1 he.1),hR64 (lv.1 he.2.2)⟩
  refine ⟨⟨hokC,?_,fun x hx=>?_,fun e he=>?_,fun e he=>?_,?_,by simpa using R.ho.hc⟩,hokA,by rw [hth];exact ty,by rw [hth];exact tz,fun i j hi hj e=>C.inj R (lv.1 hi) (lv.1 hj) e,fun p hp=>?_,fun i hi ho=>?_,fun i hi ho=>?_,fun i hi=>?_,fun i hi j v hv=>?_,
   P.rw_,hrg,hwt,?_,?_,by rw [List.length_map];exact R.cl,fun i hi ho v hv h3 hy=>?_⟩
  ·show (mRoots O.ar O.rt).2.length=12
   rw [P.rw_];simpa using R.hw.hr
  ·have hx':x ∈ (mRoots O.ar O.rt).2:=hx
   rw [P.rw_] at hx'
   obtain ⟨v,hv,rfl⟩:=List.mem_map.1 hx'
   exact C.encR R (R.hw.rv v hv) (P.rt v hv)
  ·have he':e ∈ newRegs mtAlive mtNow (mPass O).1 (mPass O).2.2:=he
   rw [hrg] at he'
   obtain ⟨f,hf,rfl⟩:=List.mem_map.1 he'
   exact hE64 f (hokA.gv f hf)
  ·have he':e ∈ newWait mtAlive mtNow (mPass O).1 (mPass O).2.1:=he
   rw [hwt] at he'
   obtain ⟨f,hf,rfl⟩:=List.mem_map.1 he'
   exact hE64 f (hokA.wv f hf)
  ·show (newRegs mtAlive mtNow (mPass O).1 (mPass O).2.2).length+(newWait mtAlive mtNow (mPass O).1 (mPass O).2.1).length≤24
   rw [hrg,hwt,List.length_map,List.length_map];exact hokA.hq
  ·have hp':p ∈ B.clear.things.1∨p ∈ B.clear.things.2:=hp
   rw [hth] at hp'
   dsimp only at hp'
   rcases hp' with h | h
   ·cases h
   ·rcases List.mem_append.1 h with h | h
    ·obtain ⟨i,hi,rfl⟩:=List.mem_map.1 ((R.perm_o.mem_iff (a:=p)).1 h)
     obtain ⟨hl,ho⟩:=Wd.mem_idx.1 hi
     exact ⟨i,lv.2 (C.so i hl ho),C.po i hl ho⟩
    ·obtain ⟨i,hi,rfl⟩:=List.mem_map.1 h
     exact ⟨i,lv.2 ((C.nm i).1 hi).1,rfl⟩
  ·rw [olda (lv.1 hi)] at ho;cases ho
  ·show ψ i ∈ B.clear.things.2
   rw [hth]
   have hb:=lv.1 hi
   dsimp only
   rw [List.mem_append]
   cases ho':(W.th i).old
   ·exact .inr (List.mem_map.2 ⟨i,(C.nm i).2 ⟨hb,ho'⟩,rfl⟩)
   ·left
    have hl:=m.live i hb
    rw [C.po i hl ho']
    exact R.ino i hl ho'
  ·have hb:=lv.1 hi
   have hl:=m.live i hb
   show B.clear.thing (ψ i)=_
   rw [thB hb,tha hb,cutT_kind,cutT_len (by rw [atB_toNat hl.1];exact hb) (R.hw.tk i hl)]
  ·have hb:=lv.1 hi
   have hl:=m.live i hb
   rw [tha hb] at hv
   show B.clear.load _=_
   have hj:j<(W.th i).fs.length:=by
    have:=(List.getElem?_eq_some_iff.1 hv).1
    rwa [cutT_len (by rw [atB_toNat hl.1];exact hb) (R.hw.tk i hl)] at this
   rw [clear_load B (by rw [Int.add_assoc];exact oldB hb _ (by omega) (by omega))]
   exact F i hb j v hv
  ·show (B.nur:Int)=W.most
   rw [G.sm.nur,C.sm.nur];exact R.nur
  ·show (B.ws.length:Int)=W.most+W.grow
   rw [G.sm.len,C.sm.len];exact R.len
  ·have hl3:(W.after false).live v.2:=Wd.okV_ref (hokA.tv i hi v hv) h3
   rw [olda (lv.1 hl3)] at hy;cases hy
end
end
section
theorem mapIdx_snoc {α β:Type} (f:Nat→α→β) (l:List α) (a:α):(l ++ [a]).mapIdx f=l.mapIdx f ++ [f l.length a]:=by
 simp [List.mapIdx_append]
def sumK (is:List Bool) (l:List Th) (k:Nat):Int:=sumL is (l.take k)
theorem sumK_step {is:List Bool} {l:List Th} {k:Nat} (h:k<l.length):sumK is l (k+1)=sumK is l k+(if is.getD k false then (l.getD k Th.none).words else 0):=by
 unfold sumK sumL
 rw [←List.take_append_getElem h,mapIdx_snoc,List.sum_append,List.length_take,Nat.min_eq_left (by omega),List.getD_eq_getElem?_getD (l:=l),List.getElem?_eq_getElem h]
 simp
theorem sumK_zero (is:List Bool) (l:List Th):sumK is l 0=0:=by simp [sumK,sumL]
theorem sumK_all (is:List Bool) (l:List Th):sumK is l l.length=sumL is l:=by simp [sumK]
theorem sumK_le {W:Wd} (h:W.ok) {is:List Bool} (hl:∀ i,atB is i=true→W.live i):∀ k:Nat,k≤W.T.length→0≤sumK is W.T k∧sumK is W.T k≤13*k
 | 0,_=>by rw [sumK_zero];omega
 | k+1,hk=>by
  have ih:=sumK_le h hl k (by omega)
  rw [sumK_step (by omega)]
  split
  ·rename_i hb
   have hlv:=hl (k:Int) (by rw [atB_nat];exact hb)
   have hf:=fitsW_spec (h.tk _ hlv)
   have e:W.th (k:Int)=W.T.getD k Th.none:=by unfold Wd.th;rw [Int.toNat_natCast]
   rw [e] at hf
   unfold Th.words
   omega
  ·omega
theorem Wd.clo_live {W:Wd} (h:W.ok) {q:List (Int × Int)} (hq:∀ e ∈ q,W.okE e) {is:List Bool} (hl:∀ i,atB is i=true→W.live i):∀ i,atB (W.clo q is) i=true→W.live i:=fun i hi=>
 (cloL_at.1 hi).2.2.least hl (Wd.shut_live h hq)
theorem Wd.clo_length (W:Wd) (q:List (Int × Int)) (is:List Bool):(W.clo q is).length=is.length:=cloL_length _ _ _
theorem Wd.keep_entry {W:Wd} {q:List (Int × Int)} {is:List Bool} {g x:Int} (h0:0≤x) (h1:x<is.length):W.clo (q ++ [(g,x)]) (is.set x.toNat true)=(W.keepW is q x).1:=by
 unfold Wd.keepW Wd.clo
 exact cloL_entry ((atB_set h0 h1).2 (.inl rfl))
theorem live_set {W:Wd} {is:List Bool} (hl:∀ i,atB is i=true→W.live i) {x:Int} (h0:0≤x) (h1:x<is.length) (hx:W.live x):∀ i,atB (is.set x.toNat true) i=true→W.live i:=fun i hi=>by
 rcases (atB_set h0 h1).1 hi with rfl | hi
 ·exact hx
 ·exact hl i hi
structure PassOk (W:Wd) (is:List Bool) (q:List (Int × Int)) (items:List It):Prop where
 len:is.length=W.T.length
 live:∀ i,atB is i=true→W.live i
 wv:∀ e ∈ q,W.okE e
 rg:items.map (·.1)=W.regs
 cnt:q.length+unN items≤24
theorem PassOk.start {W:Wd} (h:W.ok) (major:Bool):PassOk W (W.clo W.wait (W.first major)) W.wait (itemsM atB (W.clo W.wait (W.first major)) W.regs):=by
 have m:=Wd.Mid.start h major
 have hq:=h.hq
 refine ⟨m.len,m.live,h.wv,by simp [itemsM,Function.comp_def],?_⟩
 have:unN (itemsM atB (W.clo W.wait (W.first major)) W.regs)=W.regs.length:=unN_none _ _
 omega
theorem PassOk.alen {W:Wd} {is:List Bool} {q:List (Int × Int)} {l:List It} (P:PassOk W is q l):l.length=W.regs.length:=by
 have:=congrArg List.length P.rg
 simpa using this
theorem PassOk.item {W:Wd} (h:W.ok) {is:List Bool} {q:List (Int × Int)} {a b:List It} {i:It} (P:PassOk W is q (a ++ i :: b)):W.okE i.1:=h.gv i.1 (by rw [←P.rg];simp)
theorem PassOk.took {W:Wd} (h:W.ok) {is:List Bool} {q:List (Int × Int)} {a b:List It} {e:Int × Int} {d:Bool} (P:PassOk W is q (a ++ (e,d,false) :: b)) :
  PassOk W (W.keepW is q e.2).1 (q ++ [e]) (a ++ (e,d,true) :: b):=by
 have he:W.okE e:=P.item h
 have hq2:∀ f ∈ q ++ [e],W.okE f:=fun f hf=>by
  rcases List.mem_append.1 hf with hf | hf
  ·exact P.wv f hf
  ·rw [List.mem_singleton] at hf;subst hf;exact he
 have h0:=he.2.2.1;have h1:=he.2.2.2.1
 have hl:=live_set P.live h0 (by rw [P.len];exact h1) he.2.2
 refine ⟨?_,?_,hq2,by rw [←P.rg];simp,?_⟩
 ·unfold Wd.keepW;rw [Wd.clo_length,List.length_set];exact P.len
 ·exact Wd.clo_live h P.wv hl
 ·have:=P.cnt
  rw [unN_app,unN_yet rfl] at this
  rw [unN_app,unN_moved,List.length_append]
  simp only [List.length_singleton]
  omega
theorem scan_skip {W:Wd} {is:List Bool} {q:List (Int × Int)} {i:It} {l:List It} (hc:((i.2.1 && !i.2.2) && atB is i.1.1)=false) :
  scanM atB W.keepW is q (i :: l)=((scanM atB W.keepW is q l).1,(scanM atB W.keepW is q l).2.1,i :: (scanM atB W.keepW is q l).2.2.1,(scanM atB W.keepW is q l).2.2.2):=by
 simp only [scanM,hc,if_neg (show ¬ (false=true) by decide)]
theorem scan_took {W:Wd} {is:List Bool} {q:List (Int × Int)} {e:Int × Int} {l:List It} (hc:atB is e.1=true) :
  scanM atB W.keepW is q ((e,true,false) :: l)=((scanM atB W.keepW (W.keepW is q e.2).1 (q ++ [e]) l).1,(scanM atB W.keepW (W.keepW is q e.2).1 (q ++ [e]) l).2.1,(e,true,true) :: (scanM atB W.keepW (W.keepW is q e.2).1 (q ++ [e]) l).2.2.1,true):=by
 simp only [scanM,hc,Bool.not_false,Bool.and_self,if_true]
 rfl
structure ScanAt (W:Wd) (is0:List Bool) (q0:List (Int × Int)) (items:List It) (k:Nat) (x:Bool) (is:List Bool) (q:List (Int × Int)) (all:List It):Prop where
 ok:PassOk W is q all
 dr:all.drop k=items.drop k
 eq:scanM atB W.keepW is0 q0 items=((scanM atB W.keepW is q (items.drop k)).1,(scanM atB W.keepW is q (items.drop k)).2.1,all.take k ++ (scanM atB W.keepW is q (items.drop k)).2.2.1,x || (scanM atB W.keepW is q (items.drop k)).2.2.2)
 fl:(x=false∧all=items)∨(x=true∧unN all<unN items)
 ln:all.length=items.length
theorem ScanAt.start {W:Wd} {is0:List Bool} {q0:List (Int × Int)} {items:List It} (P:PassOk W is0 q0 items):ScanAt W is0 q0 items 0 false is0 q0 items:=
 ⟨P,rfl,by simp, .inl ⟨rfl,rfl⟩,rfl⟩
theorem drop_at {α:Type} {l:List α} {k:Nat} (h:k<l.length):l.drop k=l[k] :: l.drop (k+1):=List.drop_eq_getElem_cons h
theorem ScanAt.skip {W:Wd} {is0:List Bool} {q0:List (Int × Int)} {items:List It} {k:Nat} {x:Bool} {is:List Bool} {q:List (Int × Int)} {all:List It} (S:ScanAt W is0 q0 items k x is q all) (hk:k<all.length) {i:It} (hi:all[k]'hk=i)
  (hc:((i.2.1 && !i.2.2) && atB is i.1.1)=false):ScanAt W is0 q0 items (k+1) x is q all:=by
 have hk2:k<items.length:=by rw [←S.ln];exact hk
 have hd:=S.dr
 rw [drop_at hk,drop_at hk2,hi] at hd
 obtain ⟨hi2,hd2⟩:=List.cons.inj hd
 refine ⟨S.ok,hd2,?_,S.fl,S.ln⟩
 rw [S.eq,drop_at hk2,←hi2,scan_skip hc,←List.take_append_getElem hk,hi]
 simp
theorem ScanAt.took {W:Wd} (h:W.ok) {is0:List Bool} {q0:List (Int × Int)} {items:List It} {k:Nat} {x:Bool} {is:List Bool} {q:List (Int × Int)} {all:List It} (S:ScanAt W is0 q0 items k x is q all) (hk:k<all.length) {e:Int × Int} (hi:all[k]'hk=(e,true,false))
  (hc:atB is e.1=true):ScanAt W is0 q0 items (k+1) true (W.keepW is q e.2).1 (q ++ [e]) (all.set k (e,true,true)):=by
 have hk2:k<items.length:=by rw [←S.ln];exact hk
 have hd:=S.dr
 rw [drop_at hk,drop_at hk2,hi] at hd
 obtain ⟨hi2,hd2⟩:=List.cons.inj hd
 have hsp:all=all.take k ++ (e,true,false) :: all.drop (k+1):=by
  rw [←hi,←drop_at hk,List.take_append_drop]
 have hset:all.set k (e,true,true)=all.take k ++ (e,true,true) :: all.drop (k+1):=by
  rw [List.set_eq_take_append_cons_drop,if_pos hk]
 have P:=S.ok
 rw [hsp] at P
 have hlt:unN (all.set k (e,true,true))+1=unN all:=by
  rw [hset]
  conv=>rhs;rw [hsp]
  rw [unN_app,unN_app,unN_moved,unN_yet rfl]
  omega
 refine ⟨by rw [hset];exact P.took h,?_,?_,?_,by simp [S.ln]⟩
 ·rw [List.drop_set_of_lt (by omega)];exact hd2
 ·rw [S.eq,drop_at hk2,←hi2,scan_took hc]
  have ht:(all.set k (e,true,true)).take (k+1)=all.take k ++ [(e,true,true)]:=by
   rw [hset,List.take_append,List.length_take,Nat.min_eq_left (by omega),show k+1-k=1 by omega,List.take_of_length_le (by simp;omega)]
   rfl
  rw [ht]
  simp
 ·right
  refine ⟨rfl,?_⟩
  rcases S.fl with ⟨_,e2⟩ | ⟨_,h2⟩
  ·rw [e2] at hlt ⊢;omega
  ·omega
theorem ScanAt.done {W:Wd} {is0:List Bool} {q0:List (Int × Int)} {items:List It} {x:Bool} {is:List Bool} {q:List (Int × Int)} {all:List It} (S:ScanAt W is0 q0 items all.length x is q all):scanM atB W.keepW is0 q0 items=(is,q,all,x):=by
 rw [S.eq,S.ln,List.drop_length,←S.ln,List.take_length]
 simp [scanM]
structure PassAt (W:Wd) (major:Bool) (x:Bool) (is:List Bool) (q:List (Int × Int)) (items:List It):Prop where
 ok:PassOk W is q items
 eq:∃ n,W.pass major=(if x then roundsM atB W.keepW n is q items else (is,q,items))∧(x=true→unN items<n)
theorem PassAt.start {W:Wd} (h:W.ok) (major:Bool):PassAt W major true (W.clo W.wait (W.first major)) W.wait (itemsM atB (W.clo W.wait (W.first major)) W.regs):=
 ⟨PassOk.start h major,W.regs.length+1,rfl,fun _=>by
  have:unN (itemsM atB (W.clo W.wait (W.first major)) W.regs)=W.regs.length:=unN_none _ _
  omega⟩
theorem PassAt.next {W:Wd} {major:Bool} {is0:List Bool} {q0:List (Int × Int)} {items:List It} (P:PassAt W major true is0 q0 items) {x:Bool} {is:List Bool} {q:List (Int × Int)} {all:List It} (S:ScanAt W is0 q0 items all.length x is q all):PassAt W major x is q all:=by
 obtain ⟨n,e,hn⟩:=P.eq
 have hn:=hn rfl
 obtain ⟨n,rfl⟩:∃ m,n=m+1:=⟨n-1,by omega⟩
 refine ⟨S.ok,n,?_,fun hx=>?_⟩
 ·rw [e]
  simp only [if_true,roundsM,S.done]
 ·rcases S.fl with ⟨h1,_⟩ | ⟨_,h2⟩
  ·rw [h1] at hx;cases hx
  ·omega
theorem PassAt.done {W:Wd} {major:Bool} {is:List Bool} {q:List (Int × Int)} {items:List It} (P:PassAt W major false is q items):W.pass major=(is,q,items):=by
 obtain ⟨n,e,_⟩:=P.eq
 simpa using e
theorem newRegs_take {is:List Bool} {l:List It} {k:Nat} (h:k<l.length):newRegs atB nowW is (l.take (k+1))=newRegs atB nowW is (l.take k) ++ (if !(l[k]).2.1 && atB is (l[k]).1.1 then [(l[k]).1] else []):=by
 unfold newRegs
 rw [←List.take_append_getElem h,List.filter_append,List.map_append]
 congr 1
 cases hc:(!(l[k]).2.1 && atB is (l[k]).1.1) <;> simp [hc,nowW]
theorem newWait_take {is:List Bool} {l:List (Int × Int)} {k:Nat} (h:k<l.length):newWait atB nowW is (l.take (k+1))=newWait atB nowW is (l.take k) ++ (if atB is (l[k]).1 then [l[k]] else []):=by
 unfold newWait
 rw [←List.take_append_getElem h,List.filter_append,List.map_append]
 congr 1
 cases hc:atB is (l[k]).1 <;> simp [hc,nowW]
theorem newRegs_len (is:List Bool) (l:List It):(newRegs atB nowW is l).length≤l.length:=by
 unfold newRegs;rw [List.length_map];exact List.length_filter_le _ _
theorem newWait_len (is:List Bool) (l:List (Int × Int)):(newWait atB nowW is l).length≤l.length:=by
 unfold newWait;rw [List.length_map];exact List.length_filter_le _ _
def deadK (is:List Bool) (l:List (Int × Int)) (k:Nat):List Bool:=l.mapIdx fun i e=>decide (i<k) && !atB is e.2
theorem deadK_len (is:List Bool) (l:List (Int × Int)) (k:Nat):(deadK is l k).length=l.length:=by simp [deadK]
theorem deadK_zero (is:List Bool) (l:List (Int × Int)):deadK is l 0=List.replicate l.length false:=by
 rw [List.eq_replicate_iff]
 refine ⟨deadK_len _ _ _,fun b hb=>?_⟩
 unfold deadK at hb
 obtain ⟨i,h,e⟩:=List.getElem_of_mem hb
 rw [←e];simp
theorem deadK_step (is:List Bool) (l:List (Int × Int)) {k:Nat} (h:k<l.length):(deadK is l k).set k (!atB is (l.getD k (0,0)).2)=deadK is l (k+1):=by
 unfold deadK
 apply List.ext_getElem (by simp)
 intro j h1 h2
 simp only [List.getElem_set,List.getElem_mapIdx]
 by_cases e:k=j
 ·subst e;rw [if_pos rfl,List.getD_eq_getElem?_getD,List.getElem?_eq_getElem h];simp
 ·rw [if_neg e]
  congr 1
  simp only [decide_eq_decide];omega
theorem deadK_all (is:List Bool) (l:List (Int × Int)):deadK is l l.length=(itemsM atB is l).map fun i=>i.2.1:=by
 unfold deadK itemsM
 apply List.ext_getElem (by simp)
 intro j h1 h2
 have:j<l.length:=by simpa using h1
 simp [this]
def cutK (is:List Bool) (l:List Th) (k:Nat):List Th:=l.mapIdx fun i t=>if i<k then cutT is i t else t
theorem cutK_zero (is:List Bool) (l:List Th):cutK is l 0=l:=by
 unfold cutK
 apply List.ext_getElem (by simp)
 intro j h1 h2
 simp
theorem cutK_all (is:List Bool) (l:List Th):cutK is l l.length=cutTs is l:=by
 unfold cutK cutTs
 apply List.ext_getElem (by simp)
 intro j h1 h2
 have:j<l.length:=by simpa using h2
 simp [this]
theorem cutK_len (is:List Bool) (l:List Th) (k:Nat):(cutK is l k).length=l.length:=by simp [cutK]
theorem cutK_get (is:List Bool) (l:List Th) {k:Nat} (h:k<l.length):(cutK is l k)[k]'(by rw [cutK_len];exact h)=l[k]:=by simp [cutK]
theorem cutK_step (is:List Bool) (l:List Th) {k:Nat} (h:k<l.length):(cutK is l k).set k (cutT is k l[k])=cutK is l (k+1):=by
 unfold cutK
 apply List.ext_getElem (by simp)
 intro j h1 h2
 simp only [List.getElem_set,List.getElem_mapIdx]
 by_cases e:k=j
 ·subst e;simp
 ·rw [if_neg e]
  by_cases e2:j<k
  ·rw [if_pos e2,if_pos (by omega)]
  ·rw [if_neg e2,if_neg (by omega)]
theorem cutT_no {is:List Bool} {k:Nat} {t:Th} (h:is.getD k false=false):cutT is k t=⟨t.k,[],t.old,true⟩:=by unfold cutT;rw [if_neg (by rw [h];decide)]
theorem cutT_eph {is:List Bool} {k:Nat} {t:Th} (h:is.getD k false=true) {u v:Vl} (hk:t.k=4) (hf:t.fs=[u,v]):cutT is k t=⟨t.k,if inS is u=false then [(2,0),(2,0)] else t.fs,true,t.dead⟩:=by
 unfold cutT
 rw [if_pos h,hf,hk]
 simp
theorem cutT_weak {is:List Bool} {k:Nat} {t:Th} (h:is.getD k false=true) {u v:Vl} (hk:t.k=3) (hf:t.fs=[u,v]):cutT is k t=⟨t.k,if inS is u=false then [(2,0),v] else t.fs,true,t.dead⟩:=by
 unfold cutT
 rw [if_pos h,hf,hk]
 simp
theorem cutT_other {is:List Bool} {k:Nat} {t:Th} (h:is.getD k false=true) (h3:t.k≠3) (h4:t.k≠4):cutT is k t=⟨t.k,t.fs,true,t.dead⟩:=by
 unfold cutT
 rw [if_pos h,if_neg (fun h=>h4 h.1),if_neg (fun h=>h3 h.1)]
end
section
open Go.RowKit
theorem info_rent:(Tryz.prog.info? 152).map (fun i=>(i.zero,i.size,i.bytes))=some (some (.agg #[.int .i64 0, .int .i64 0]),2,16):=by kernel_rfl
structure CPm (w0 wr:World) (h:RW) (W:Wd) (iv:Value) (is:List Bool) (g8 g9:Nat) (items:List It) (x1:Nat) (qv:Value) (q:List (Int × Int)):Prop where
 K:Keeps (fun _=>False) w0 wr
 I:Sl wr 4 1 iv is.length (is.map Value.bool)
 D:Blk wr g8 (items.map fun i=>.bool i.2.1) 4
 M:Blk wr g9 (items.map fun i=>.bool i.2.2) 4
 X:Blk wr x1 [h.tv,h.rv,h.gv,qv, .int .i64 W.most, .int .i64 W.grow] 147
 Q:Sl wr 152 2 qv q.length (entV q)
 i8:¬ ownB iv g8
 i9:¬ ownB iv g9
 n:g8≠g9
 oi:∀ k,ownB iv k→w0.heap.size≤k
 o8:w0.heap.size≤g8
 o9:w0.heap.size≤g9
 ox:w0.heap.size≤x1
 oq:∀ k,ownB qv k→w0.heap.size≤k
section
variable {w0 wr w2:World} {h:RW} {W:Wd} {iv qv:Value} {is:List Bool} {g8 g9 x1:Nat} {items:List It} {q:List (Int × Int)}
theorem CPm.same (C:CPm w0 wr h W iv is g8 g9 items x1 qv q) (k:Keeps (fun _=>False) wr w2):CPm w0 w2 h W iv is g8 g9 items x1 qv q:=
 ⟨C.K.trans k,C.I.keep k (fun _ _ h=>h),k.blk C.D (fun h=>h),k.blk C.M (fun h=>h),k.blk C.X (fun h=>h),C.Q.keep k (fun _ _ h=>h),C.i8,C.i9,C.n,C.oi,C.o8,C.o9,C.ox,C.oq⟩
theorem CPm.gr (C:CPm w0 wr h W iv is g8 g9 items x1 qv q) (H:WorldAt w0 h W):GrAt wr x1 h.tv qv h.F W q:=
 ⟨⟨_,_,_,_,C.X⟩,H.ht.keep C.K (fun _ _ _ h=>h) (fun _ _ h=>h),C.Q⟩
theorem CPm.grown (C:CPm w0 wr h W iv is g8 g9 items x1 qv q) {ao:Option Addr} {l:List Bool} {cap:Nat} (hs:Sl w2 4 1 (.slice ao l.length cap) l.length (l.map Value.bool)) (k:Keeps (fun _=>False) wr w2) (ho:∀ j,ownB (.slice ao l.length cap) j→wr.heap.size≤j) :
  CPm w0 w2 h W (.slice ao l.length cap) l g8 g9 items x1 qv q:=by
 have C2:=C.same k
 exact ⟨C2.K,hs,C2.D,C2.M,C2.X,C2.Q,fun hb=>by have:=ho _ hb;have:=C.D.lt;omega,fun hb=>by have:=ho _ hb;have:=C.M.lt;omega,C.n,fun j hj=>Nat.le_trans C.K.size (ho j hj),C.o8,C.o9,C.ox,C.oq⟩
theorem CPm.wait (C:CPm w0 wr h W iv is g8 g9 items x1 qv q) {wa:World} {e:Int × Int} {v2:Value} (ka:Keeps (fun _=>False) wr wa) (hs:Sl w2 152 2 v2 (q.length+1) (entV q ++ [.int .i64 e.1, .int .i64 e.2])) (k:Keeps (ownB qv) wa w2)
  (ho:∀ j,ownB v2 j→ownB qv j∨wa.heap.size≤j):CPm w0 (w2.setCell ⟨x1,3,none⟩ v2) h W iv is g8 g9 items x1 v2 (q ++ [e]):=by
 have C1:=C.same ka
 have ne:∀ {b:Nat} {c:List Value} {T:TypeId},Blk wa b c T→T≠152→¬ ownB qv b:=fun hb hT hq=>by
  obtain ⟨_,c',hc⟩:=C1.Q.own hq;exact hb.ne hc hT rfl
 have hX:=k.blk C1.X (ne C1.X (by decide))
 have set:=(Keeps.refl (·=x1) w2).setCell (p:=⟨x1,3,none⟩) (.inl rfl) v2
 have nx:∀ {b:Nat} {c:List Value} {T:TypeId},Blk w2 b c T→T≠147→¬ b=x1:=fun hb hT=>hb.ne hX hT
 have hD:=k.blk C1.D (ne C1.D (by decide));have hM:=k.blk C1.M (ne C1.M (by decide))
 have hI:=C1.I.keep k (fun b hb=>by obtain ⟨_,c,hc⟩:=C1.I.own hb;exact ne hc (by decide))
 refine ⟨(C1.K.then k (fun j hj=>.inr (C.oq j hj))).then set (fun j hj=>.inr (by rw [hj];exact C.ox)),hI.keep set (fun b hb=>by obtain ⟨_,c,hc⟩:=hI.own hb;exact nx hc (by decide)),set.blk hD (nx hD (by decide)),set.blk hM (nx hM (by decide)),by simpa using hX.setSame 3 v2,?_,C.i8,C.i9,C.n,C.oi,C.o8,C.o9,C.ox,?_⟩
 ·have e1:(q ++ [e]).length=q.length+1:=by simp
  have e2:entV (q ++ [e])=entV q ++ [.int .i64 e.1, .int .i64 e.2]:=by simp [entV]
  rw [e1,e2]
  exact hs.keep set (fun b hb=>by obtain ⟨_,c,hc⟩:=hs.own hb;exact nx hc (by decide))
 ·intro j hj
  rcases ho j hj with h1 | h1
  ·exact C.oq j h1
  ·have:=C1.K.size;omega
theorem CPm.alive (C:CPm w0 wr h W iv is g8 g9 items x1 qv q) {g o cap i:Nat} (e:iv=.slice (some ⟨g,o,none⟩) is.length cap) (hi:i<is.length):CPm w0 (wr.setCell ⟨g,o+i,none⟩ (.bool true)) h W iv (is.set i true) g8 g9 items x1 qv q:=by
 have hown:ownB iv g:=by rw [e];rfl
 obtain ⟨_,c,hg⟩:=C.I.own hown
 have set:=(Keeps.refl (·=g) wr).setCell (p:=⟨g,o+i,none⟩) (.inl rfl) (.bool true)
 have nx:∀ {b:Nat} {c:List Value} {T:TypeId},Blk wr b c T→T≠4→¬ b=g:=fun hb hT=>hb.ne hg hT
 refine ⟨C.K.then set (fun j hj=>.inr (by rw [hj];exact C.oi g hown)),?_,set.blk C.D (fun e=>C.i8 (by rw [e];exact hown)),set.blk C.M (fun e=>C.i9 (by rw [e];exact hown)),set.blk C.X (nx C.X (by decide)),C.Q.keep set (fun b hb=>by obtain ⟨_,c,hc⟩:=C.Q.own hb;exact nx hc (by decide)),C.i8,C.i9,C.n,C.oi,C.o8,C.o9,C.ox,C.oq⟩
 have hs:=C.I
 rw [e] at hs ⊢
 have:=hs.set (j:=i) (u:=.bool true) (by omega)
 rw [List.length_set,List.map_set]
 exact this
theorem CPm.moved (C:CPm w0 wr h W iv is g8 g9 items x1 qv q) {k:Nat} (hk:k<items.length) {e:Int × Int} {d:Bool} {b:Bool} (hi:items[k]=(e,d,b)):CPm w0 (wr.setCell ⟨g9,k,none⟩ (.bool true)) h W iv is g8 g9 (items.set k (e,d,true)) x1 qv q:=by
 have set:=(Keeps.refl (·=g9) wr).setCell (p:=⟨g9,k,none⟩) (.inl rfl) (.bool true)
 have nx:∀ {b:Nat} {c:List Value} {T:TypeId},Blk wr b c T→T≠4→¬ b=g9:=fun hb hT=>hb.ne C.M hT
 have e1:(items.set k (e,d,true)).map (fun i=>Value.bool i.2.1)=items.map fun i=>.bool i.2.1:=by
  rw [List.map_set]
  apply List.ext_getElem (by simp)
  intro j h1 h2
  rw [List.getElem_set]
  split
  ·rename_i e;subst e;simp [hi]
  ·rfl
 refine ⟨C.K.then set (fun j hj=>.inr (by rw [hj];exact C.o9)),C.I.keep set (fun b hb e=>C.i9 (by rw [←e];exact hb)),by rw [e1];exact set.blk C.D (fun e=>C.n e),?_,set.blk C.X (nx C.X (by decide)),C.Q.keep set (fun b hb=>by obtain ⟨_,c,hc⟩:=C.Q.own hb;exact nx hc (by decide)),C.i8,C.i9,C.n,C.oi,C.o8,C.o9,C.ox,C.oq⟩
 rw [List.map_set]
 exact C.M.setSame k (.bool true)
end
theorem ThsAt.put {w:World} {v:Value} {F F':Nat→Prop} {l:List Th} {g o cap k j:Nat} {t':Th} {u:Value} (H:ThsAt w v F l) (e:v=.slice (some ⟨g,o,none⟩) l.length cap) (hk:k<l.length) (hj:j<4) (hF:∀ b,F b→b≠g) (hFF:∀ b,F b→F' b)
  (hR:∀ r,r.length=4→ThRow (w.setCell ⟨g,o+k*4+j,none⟩ u) F' l[k] r→ThRow (w.setCell ⟨g,o+k*4+j,none⟩ u) F' t' (r.set j u)):ThsAt (w.setCell ⟨g,o+k*4+j,none⟩ u) v F' (l.set k t'):=by
 obtain ⟨cs,hs,hr⟩:=H
 have set:=(Keeps.refl (·=g) w).setCell (p:=⟨g,o+k*4+j,none⟩) (.inl rfl) u
 refine ⟨cs.set (k*4+j) u,?_,?_⟩
 ·rw [List.length_set]
  rw [e] at hs ⊢
  have hm:k*4+4≤l.length*4:=by omega
  have:=hs.set (j:=k*4+j) (u:=u) (by omega)
  rw [Nat.add_assoc]
  exact this
 ·have hr':=hr.mono (Q:=ThRow (w.setCell ⟨g,o+k*4+j,none⟩ u) F') (fun a _ r h=>(h.keep set (fun b hb _=>hF b hb)).more hFF)
  exact RowsC.setCell hk hj hr' hR
structure TMm (w0 wr:World) (h:RW) (W:Wd) (gv wv:Value) (rg wt:List (Int × Int)) (F:Nat→Prop) (T:List Th) (iv:Value) (is:List Bool):Prop where
 hp:Blk wr h.p [h.tv,h.rv,gv,wv, .int .i64 W.most, .int .i64 W.grow] 147
 ht:ThsAt wr h.tv F T
 hr:Sl wr 96 2 h.rv W.roots.length (entV W.roots)
 hg:Sl wr 152 2 gv rg.length (entV rg)
 hw:Sl wr 152 2 wv wt.length (entV wt)
 I:Sl wr 4 1 iv is.length (is.map Value.bool)
 K:Keeps h.Own w0 wr
 ap:∀ k,¬ (ownB gv k∧ownB wv k)
 af:∀ k,F k→(h.F k∨w0.heap.size≤k)∧k<wr.heap.size∧(∃ c,Blk wr k c 96)∧¬ ownB h.rv k
 og:∀ k,ownB gv k→w0.heap.size≤k
 ow:∀ k,ownB wv k→w0.heap.size≤k
section
variable {w0 wr w2:World} {h:RW} {W:Wd} {gv wv iv:Value} {rg wt:List (Int × Int)} {F:Nat→Prop} {T:List Th} {is:List Bool}
theorem TMm.same (M:TMm w0 wr h W gv wv rg wt F T iv is) (k:Keeps (fun _=>False) wr w2):TMm w0 w2 h W gv wv rg wt F T iv is:=
 ⟨k.blk M.hp (fun h=>h),M.ht.keep k (fun _ _ _ h=>h) (fun _ _ h=>h),M.hr.keep k (fun _ _ h=>h),M.hg.keep k (fun _ _ h=>h),M.hw.keep k (fun _ _ h=>h),M.I.keep k (fun _ _ h=>h),M.K.trans (k.mono fun _ _ h=>h.elim),M.ap,
  fun j hj=>by
   obtain ⟨h1,h2,⟨c,h3⟩,h4⟩:=M.af j hj
   exact ⟨h1,Nat.lt_of_lt_of_le h2 k.size,⟨c,k.blk h3 (fun h=>h)⟩,h4⟩,M.og,M.ow⟩
theorem TMm.put {F':Nat→Prop} {g o cap k j:Nat} {t':Th} {u:Value} (M:TMm w0 wr h W gv wv rg wt F T iv is) (e:h.tv=.slice (some ⟨g,o,none⟩) T.length cap) (hk:k<T.length) (hj:j<4) (hFF:∀ b,F b→F' b)
  (hF':∀ b,F' b→F b∨(w0.heap.size≤b∧b<wr.heap.size∧(∃ c,Blk wr b c 96)∧¬ ownB h.rv b))
  (hR:∀ r,r.length=4→ThRow (wr.setCell ⟨g,o+k*4+j,none⟩ u) F' T[k] r→ThRow (wr.setCell ⟨g,o+k*4+j,none⟩ u) F' t' (r.set j u)):TMm w0 (wr.setCell ⟨g,o+k*4+j,none⟩ u) h W gv wv rg wt F' (T.set k t') iv is:=by
 have hown:ownB h.tv g:=by rw [e];rfl
 obtain ⟨c,hg⟩:∃ c,Blk wr g c 154:=by obtain ⟨cs,hs,_⟩:=M.ht;exact (hs.own hown).2
 have set:=(Keeps.refl (·=g) wr).setCell (p:=⟨g,o+k*4+j,none⟩) (.inl rfl) u
 have nx:∀ {b:Nat} {c:List Value} {U:TypeId},Blk wr b c U→U≠154→¬ b=g:=fun hb hT=>hb.ne hg hT
 have nF:∀ b,F b→b≠g:=fun b hb=>by obtain ⟨_,_,⟨c,hc⟩,_⟩:=M.af b hb;exact nx hc (by decide)
 refine ⟨set.blk M.hp (nx M.hp (by decide)),M.ht.put e hk hj nF hFF hR,M.hr.keep set (fun b hb=>by obtain ⟨_,c,hc⟩:=M.hr.own hb;exact nx hc (by decide)),M.hg.keep set (fun b hb=>by obtain ⟨_,c,hc⟩:=M.hg.own hb;exact nx hc (by decide)),
  M.hw.keep set (fun b hb=>by obtain ⟨_,c,hc⟩:=M.hw.own hb;exact nx hc (by decide)),M.I.keep set (fun b hb=>by obtain ⟨_,c,hc⟩:=M.I.own hb;exact nx hc (by decide)),M.K.trans (set.mono (fun b _ hb=>.inr (.inl (by rw [hb];exact hown)))),M.ap,fun b hb=>?_,M.og,M.ow⟩
 rcases hF' b hb with h1 | ⟨h1,h2,⟨c,h3⟩,h4⟩
 ·obtain ⟨a1,a2,⟨c,a3⟩,a4⟩:=M.af b h1
  exact ⟨a1,by simpa using a2,⟨c,set.blk a3 (nx a3 (by decide))⟩,a4⟩
 ·exact ⟨.inr h1,by simpa using h2,⟨c,set.blk h3 (nx h3 (by decide))⟩,h4⟩
theorem TMm.setDead {g o cap k:Nat} (M:TMm w0 wr h W gv wv rg wt F T iv is) (e:h.tv=.slice (some ⟨g,o,none⟩) T.length cap) (hk:k<T.length):TMm w0 (wr.setCell ⟨g,o+k*4+3,none⟩ (.bool true)) h W gv wv rg wt F (T.set k ⟨T[k].k,T[k].fs,T[k].old,true⟩) iv is:=
 M.put e hk (by decide) (fun _ h=>h) (fun _ h=>.inl h) (fun r _ hr=>by
  obtain ⟨ao,cap,rfl,h1,h2,h3⟩:=hr
  exact ⟨ao,cap,rfl,h1,h2,h3⟩)
theorem TMm.setNil {g o cap k:Nat} (M:TMm w0 wr h W gv wv rg wt F T iv is) (e:h.tv=.slice (some ⟨g,o,none⟩) T.length cap) (hk:k<T.length):TMm w0 (wr.setCell ⟨g,o+k*4+1,none⟩ (.slice none 0 0)) h W gv wv rg wt F (T.set k ⟨T[k].k,[],T[k].old,T[k].dead⟩) iv is:=
 M.put e hk (by decide) (fun _ h=>h) (fun _ h=>.inl h) (fun r _ hr=>by
  obtain ⟨ao,cap,rfl,h1,h2,h3⟩:=hr
  exact ⟨none,0,rfl,Rd.nil _ _,(fun a h=>by cases h),Nat.zero_le _⟩)
theorem TMm.setOld {g o cap k:Nat} (M:TMm w0 wr h W gv wv rg wt F T iv is) (e:h.tv=.slice (some ⟨g,o,none⟩) T.length cap) (hk:k<T.length):TMm w0 (wr.setCell ⟨g,o+k*4+2,none⟩ (.bool true)) h W gv wv rg wt F (T.set k ⟨T[k].k,T[k].fs,true,T[k].dead⟩) iv is:=
 M.put e hk (by decide) (fun _ h=>h) (fun _ h=>.inl h) (fun r _ hr=>by
  obtain ⟨ao,cap,rfl,h1,h2,h3⟩:=hr
  exact ⟨ao,cap,rfl,h1,h2,h3⟩)
theorem TMm.setFs {g o cap k b:Nat} {u v:Vl} (M:TMm w0 wr h W gv wv rg wt F T iv is) (e:h.tv=.slice (some ⟨g,o,none⟩) T.length cap) (hk:k<T.length) (hb:Blk wr b (entV [u,v]) 96) (h0:w0.heap.size≤b) (hr:¬ ownB h.rv b) :
  TMm w0 (wr.setCell ⟨g,o+k*4+1,none⟩ (.slice (some ⟨b,0,none⟩) 2 2)) h W gv wv rg wt (fun j=>F j∨j=b) (T.set k ⟨T[k].k,[u,v],T[k].old,T[k].dead⟩) iv is:=by
 have hown:ownB h.tv g:=by rw [e];rfl
 obtain ⟨c,hg⟩:∃ c,Blk wr g c 154:=by obtain ⟨cs,hs,_⟩:=M.ht;exact (hs.own hown).2
 refine M.put e hk (by decide) (fun _ h=>.inl h) (fun j hj=>?_) (fun r _ hr=>?_)
 ·rcases hj with hj | rfl
  ·exact .inl hj
  ·exact .inr ⟨h0,hb.lt,⟨_,hb⟩,hr⟩
 ·obtain ⟨ao,cap,rfl,h1,h2,h3⟩:=hr
  have hb':=hb.setOther (a:=⟨g,o+k*4+1,none⟩) (hb.ne hg (by decide)) (.slice (some ⟨b,0,none⟩) 2 2)
  exact ⟨some ⟨b,0,none⟩,2,rfl,Rd.blk hb' 0 _ rfl,(fun a ha=>by cases ha;exact .inr rfl),by show 2≤maxLen;unfold maxLen;decide⟩
theorem TMm.eqT {T':List Th} (M:TMm w0 wr h W gv wv rg wt F T iv is) (e:T=T'):TMm w0 wr h W gv wv rg wt F T' iv is:=e ▸ M
theorem TMm.cells {no:Option Addr} {nc k:Nat} (M:TMm w0 wr h W gv wv rg wt F T iv is) (e:h.tv=.slice no T.length nc) (hk:k<T.length):∃ g o fo fc,no=some ⟨g,o,none⟩∧g<wr.heap.size∧(∀ i,wr.frozen? ⟨g,i,none⟩=false)∧wr.cell? ⟨g,o+k*4,none⟩=some (.int .i64 T[k].k)∧wr.cell? ⟨g,o+k*4+1,none⟩=some (.slice fo T[k].fs.length fc) ∧
  wr.cell? ⟨g,o+k*4+2,none⟩=some (.bool T[k].old)∧wr.cell? ⟨g,o+k*4+3,none⟩=some (.bool T[k].dead)∧Rd wr fo (entV T[k].fs):=by
 obtain ⟨no',nc',e',N⟩:=M.ht.nth
 rw [e] at e'
 obtain ⟨rfl,-,rfl⟩:=Value.slice.inj e'
 obtain ⟨g,o,fo,fc,rfl,hgo,hg,t0,t1,t2,t3,hr,-,-⟩:=N k hk
 obtain ⟨c,hb⟩:∃ c,Blk wr g c 154:=by obtain ⟨cs,hs,_⟩:=M.ht;exact (hs.own hgo).2
 have e2:T.getD k Th.none=T[k]:=by rw [List.getD_eq_getElem?_getD,List.getElem?_eq_getElem hk];rfl
 rw [e2] at t0 t1 t2 t3 hr
 exact ⟨g,o,fo,fc,rfl,hg,fun i=>hb.free i,t0,t1,t2,t3,hr⟩
theorem TMm.done {major:Bool} {is:List Bool} (M:TMm w0 wr h W gv wv (W.after major).regs (W.after major).wait F (cutTs (W.pass major).1 W.T) iv is) (hok:(W.after major).ok) (H:WorldAt w0 h W):WorldTo w0 h wr (W.after major):=by
 refine ⟨⟨h.p,h.tv,h.rv,gv,wv,F⟩,⟨M.hp,M.ht,M.hr,M.hg,M.hw,M.ap,fun k hk=>by
  obtain ⟨_,h2,h3,h4⟩:=M.af k hk
  exact ⟨h2,h3,h4⟩,hok⟩,rfl,M.K,?_⟩
 rintro k (hk | hk | hk | hk | hk | hk)
 ·exact .inl (.inl hk)
 ·exact .inl (.inr (.inl hk))
 ·exact .inl (.inr (.inr (.inl hk)))
 ·exact .inr (M.og k hk)
 ·exact .inr (M.ow k hk)
 ·rcases (M.af k hk).1 with h1 | h1
  ·exact .inl (.inr (.inr (.inr (.inr (.inr h1)))))
  ·exact .inr h1
end
end
section
open Go.RowKit
section
variable {w:World} {h:RW} {W:Wd}
theorem WorldAt.setFs (H:WorldAt w h W) {g o cap m:Nat} (e:h.tv=.slice (some ⟨g,o,none⟩) W.T.length cap) (hm:m<W.T.length) {fs:List Vl} {fv:Value} {fo:Option Addr} {fc:Nat} (hfv:fv=.slice fo fs.length fc)
  (hf:Sl w 96 2 fv fs.length (entV fs)) (hn:∀ b,ownB fv b→¬ h.Own b) (hok:(W.setF m fs).ok) :
  ∃ h',WorldAt (w.setCell ⟨g,o+m*4+1,none⟩ fv) h' (W.setF m fs)∧h'.p=h.p∧Keeps h.Own w (w.setCell ⟨g,o+m*4+1,none⟩ fv)∧∀ k,h'.Own k→h.Own k∨ownB fv k:=by
 subst hfv
 have hown:ownB h.tv g:=by rw [e];rfl
 obtain ⟨c,hg⟩:∃ c,Blk w g c 154:=by obtain ⟨cs,hs,_⟩:=H.ht;exact (hs.own hown).2
 have set:=(Keeps.refl (·=g) w).setCell (p:=⟨g,o+m*4+1,none⟩) (.inl rfl) (.slice fo fs.length fc)
 have nx:∀ {b:Nat} {c:List Value} {U:TypeId},Blk w b c U→U≠154→¬ b=g:=fun hb hT=>hb.ne hg hT
 have nF:∀ b,h.F b→b≠g:=fun b hb=>by obtain ⟨_,⟨c,hc⟩,_⟩:=H.af b hb;exact nx hc (by decide)
 have nf:∀ b,ownB (.slice fo fs.length fc) b→¬ b=g:=fun b hb=>by obtain ⟨_,c,hc⟩:=hf.own hb;exact nx hc (by decide)
 have hf':=hf.keep set nf
 obtain ⟨fo',fc',e1,hrd,hml,-⟩:=hf'.rd
 cases e1
 have hth:W.th m=W.T[m]:=by unfold Wd.th;rw [Int.toNat_natCast,List.getD_eq_getElem?_getD,List.getElem?_eq_getElem hm];rfl
 have hT:(W.setF m fs).T=W.T.set m ⟨W.T[m].k,fs,W.T[m].old,W.T[m].dead⟩:=by
  show W.T.set (m:Int).toNat _=_
  rw [Int.toNat_natCast,hth]
 refine ⟨⟨h.p,h.tv,h.rv,h.gv,h.wv,fun b=>h.F b∨ownB (.slice fo fs.length fc) b⟩,⟨set.blk H.hp (nx H.hp (by decide)),?_,H.hr.keep set (fun b hb=>?_),H.hg.keep set (fun b hb=>?_),H.hw.keep set (fun b hb=>?_),H.ap,fun b hb=>?_,hok⟩,rfl,set.mono (fun b _ hb=>.inr (.inl (by rw [hb];exact hown))),fun k hk=>?_⟩
 ·show ThsAt _ h.tv _ (W.setF m fs).T
  rw [hT]
  refine H.ht.put e hm (by decide) nF (fun b hb=>.inl hb) (fun r _ hr=>?_)
  obtain ⟨ao,cap,rfl,h1,h2,h3⟩:=hr
  exact ⟨fo,fc,rfl,hrd,fun a ha=>.inr (by rw [ha];rfl),hml⟩
 ·obtain ⟨_,c,hc⟩:=H.hr.own hb;exact nx hc (by decide)
 ·obtain ⟨_,c,hc⟩:=H.hg.own hb;exact nx hc (by decide)
 ·obtain ⟨_,c,hc⟩:=H.hw.own hb;exact nx hc (by decide)
 ·rcases hb with hb | hb
  ·obtain ⟨a1,⟨c,a2⟩,a3⟩:=H.af b hb
   exact ⟨by simpa using a1,⟨c,set.blk a2 (nF b hb)⟩,a3⟩
  ·obtain ⟨a1,c,a2⟩:=hf.own hb
   exact ⟨by simpa using a1,⟨c,set.blk a2 (nf b hb)⟩,fun e=>hn b hb (.inr (.inr (.inl e)))⟩
 ·rcases hk with hk | hk | hk | hk | hk | hk | hk
  ·exact .inl (.inl hk)
  ·exact .inl (.inr (.inl hk))
  ·exact .inl (.inr (.inr (.inl hk)))
  ·exact .inl (.inr (.inr (.inr (.inl hk))))
  ·exact .inl (.inr (.inr (.inr (.inr (.inl hk)))))
  ·exact .inl (.inr (.inr (.inr (.inr (.inr hk)))))
  ·exact .inr hk
theorem WDoSet_c (xr xa xb xi xn:Int) (H:WorldAt w h W) :
  Calls Tryz.prog 33 #[.pointer (some ⟨h.p,0,none⟩), .agg #[.int .i64 12, .int .i64 xr, .int .i64 xa, .int .i64 xb, .int .i64 xi, .int .i64 xn]] w fun e w'=>e=.returned (.int .i64 (W.do ⟨12,xr,xa,xb,xi,xn⟩).1)∧WorldTo w h w' (W.do ⟨12,xr,xa,xb,xi,xn⟩).2:=by
 have HH:=Hz H
 have hb1:Blk (w.alloc (.cells #[.int .i64 12, .int .i64 xr, .int .i64 xa, .int .i64 xb, .int .i64 xi, .int .i64 xn] 69)) w.heap.size [.int .i64 12, .int .i64 xr, .int .i64 xa, .int .i64 xb, .int .i64 xi, .int .i64 xn] 69:=Blk.newAt _ rfl rfl
 have HB:=Hz hb1
 have KA:=Hz ((Kz w).alloc (.cells #[.int .i64 12, .int .i64 xr, .int .i64 xa, .int .i64 xb, .int .i64 xi, .int .i64 xn] 69))
 have s0:=hb1.cell 0;have s1:=hb1.cell 1;have s2:=hb1.cell 2;have s3:=hb1.cell 3;have s4:=hb1.cell 4;have s5:=hb1.cell 5
 simp only [List.getElem?_cons_zero,List.getElem?_cons_succ] at s0 s1 s2 s3 s4 s5
 have HSF:=Hz (fun w=>RStepFault_c ⟨12,xr,xa,xb,xi,xn⟩ w)
 obtain ⟨c,hc⟩:∃ c,checkM ⟨12,xr,xa,xb,xi,xn⟩=c:=⟨_,rfl⟩
 rw [hc] at HSF
 have HC:=Hz hc
 clear H hb1 hc
 go_enter Tryz.func33,Tryz.ntmps33
 go_wp2_with (refine wpList_agg rfl 69 (.tmp 3) rfl [.int .i64 12, .int .i64 xr, .int .i64 xa, .int .i64 xb, .int .i64 xi, .int .i64 xn] (by kernel_rfl) w.heap.size 0 rfl (rangeAt_cons s0 (rangeAt_cons s1 (rangeAt_cons s2 (rangeAt_cons s3 (rangeAt_cons s4 (rangeAt_cons s5 rangeAt_nil)))))) ?_)
 refine (HSF.out _).mono ?_
 rintro e w1 ⟨rfl,hk⟩
 have H1:=Hz ((HH.out.same KA.out).same hk)
 have K1:=Hz (KA.out.trans hk)
 have B1:=Hz (hk.blk HB.out (fun h=>h))
 clear hk s0 s1 s2 s3 s4 s5 HSF KA HB
 generalize w.heap.size=sb at *
 have s0:=B1.out.cell 0;have s1:=B1.out.cell 1;have s2:=B1.out.cell 2;have s3:=B1.out.cell 3;have s4:=B1.out.cell 4;have s5:=B1.out.cell 5;have sl:=B1.out.lt
 simp only [List.getElem?_cons_zero,List.getElem?_cons_succ] at s0 s1 s2 s3 s4 s5
 by_cases h0:¬ c=0
 ·have HE:=Hz (do_no (W:=W) HC.out h0)
  have hd:(c != 0)=true:=by simpa using h0
  clear h0
  go_wp2_with fail
  go_ret
  exact ⟨by rw [HE.out];rfl,by rw [HE.out];exact WorldTo.same HH.out K1.out⟩
 have h0:c=0:=Classical.not_not.1 h0
 subst h0
 have ha:0≤xa∧xa<12:=(rootOk_iff _).1 ((checkM_use HC.out).2.2.1 (show usesM 12/2%2=1 by decide))
 obtain ⟨a,rfl⟩:∃ a:Nat,xa=a:=⟨xa.toNat,by omega⟩
 have ha12:a<12:=by omega
 clear ha
 have hth:=WThing_c a ha12 H1.out
 have htl:=Wd.thing_live (W:=W) (k:=(a:Int)) H1.out.ok
 obtain ⟨ti,hti⟩:∃ ti,W.thing (a:Int)=ti:=⟨_,rfl⟩
 rw [hti] at hth htl
 have HTI:=Hz hti;have HTH:=Hz hth;have HTL:=Hz (fun (hn:0≤ti)=>htl (by omega))
 clear hti hth htl
 have pl:=H1.out.hp.lt
 go_wp2_with fail
 refine HTH.out.mono ?_
 rintro e w2 ⟨rfl,hk⟩
 have H2:=Hz (H1.out.same hk)
 have K2:=Hz (K1.out.trans hk)
 have B2:=Hz (hk.blk B1.out (fun h=>h))
 clear hk s0 s1 s2 s3 s4 s5 sl pl HTH B1 H1 K1
 have s0:=B2.out.cell 0;have s1:=B2.out.cell 1;have s2:=B2.out.cell 2;have s3:=B2.out.cell 3;have s4:=B2.out.cell 4;have sl:=B2.out.lt;have pl:=H2.out.hp.lt
 simp only [List.getElem?_cons_zero,List.getElem?_cons_succ] at s0 s1 s2 s3 s4
 by_cases hi:ti<0
 ·have hd:decide (ti<0)=true:=by simpa using hi
  have HF:=Hz (show W.fieldC ⟨12,xr,a,xb,xi,xn⟩=2 by unfold Wd.fieldC;dsimp only;rw [HTI.out,if_pos (.inl hi)])
  have HE:=Hz (show W.do ⟨12,xr,a,xb,xi,xn⟩=(2,W) by rw [do_yes HC.out];show Wd.set _ _=_;unfold Wd.set;rw [HF.out];rfl)
  clear hi
  go_wp2_with fail
  go_ret
  exact ⟨by rw [HE.out];rfl,by rw [HE.out];exact WorldTo.same HH.out K2.out⟩
 have hd:decide (ti<0)=false:=by simpa using hi
 have HLV:=Hz (HTL.out (by omega))
 obtain ⟨m,rfl,g0,o0,nc,ao,fc,etv,hm,hg0,t0,t1,hrd,hog⟩:=H2.out.nth HLV.out
 obtain ⟨c0,-,-,-,-,-⟩:=H2.out.cells
 rw [etv] at c0
 have HRD:=Hz hrd;have HOG:=Hz hog;have ETV:=Hz etv;have HTI2:=Hz (show W.thing (a:Int)=(m:Int) from HTI.out)
 have HFB:=Hz (Wd.th_bound H2.out.ok HLV.out)
 clear hi HTL hrd hog etv HTI
 by_cases h5:(W.th m).k=5
 ·have HF:=Hz (show W.fieldC ⟨12,xr,a,xb,xi,xn⟩=2 by unfold Wd.fieldC;dsimp only;rw [HTI2.out,if_pos (.inr h5)])
  have HE:=Hz (show W.do ⟨12,xr,a,xb,xi,xn⟩=(2,W) by rw [do_yes HC.out];show Wd.set _ _=_;unfold Wd.set;rw [HF.out];rfl)
  rw [h5] at t0
  clear h5
  go_wp2_with fail
  go_ret
  exact ⟨by rw [HE.out];rfl,by rw [HE.out];exact WorldTo.same HH.out K2.out⟩
 have hb5:((W.th m).k == 5)=false:=by simpa using h5
 have HFC:=Hz (show W.fieldC ⟨12,xr,a,xb,xi,xn⟩=if xi<0∨((W.th m).fs.length:Int)≤xi then 1 else 0 by unfold Wd.fieldC;dsimp only;rw [HTI2.out,if_neg (fun e=>by rcases e with e | e;omega;exact h5 e)])
 have hfl:=HFB.out
 obtain ⟨fs,hfs⟩:∃ fs,(W.th m).fs=fs:=⟨_,rfl⟩
 rw [hfs] at HFC HRD t1 hfl
 have HFS:=Hz hfs
 clear h5 hfs HFB
 generalize (W.th m).k=q at *
 by_cases i0:xi<0
 ·have hd0:decide (xi<0)=true:=by simpa using i0
  have HF:=Hz (show W.fieldC ⟨12,xr,a,xb,xi,xn⟩=1 by rw [HFC.out,if_pos (.inl i0)])
  have HE:=Hz (show W.do ⟨12,xr,a,xb,xi,xn⟩=(1,W) by rw [do_yes HC.out];show Wd.set _ _=_;unfold Wd.set;rw [HF.out];rfl)
  clear i0
  go_wp2_with fail
  go_ret
  exact ⟨by rw [HE.out];rfl,by rw [HE.out];exact WorldTo.same HH.out K2.out⟩
 have hd0:decide (xi<0)=false:=by simpa using i0
 obtain ⟨i,rfl⟩:∃ i:Nat,xi=i:=⟨xi.toNat,by omega⟩
 by_cases i1:fs.length≤i
 ·have hd1:decide (fs.length≤i)=true:=by simpa using i1
  have HF:=Hz (show W.fieldC ⟨12,xr,a,xb,i,xn⟩=1 by rw [HFC.out,if_pos (.inr (by omega))])
  have HE:=Hz (show W.do ⟨12,xr,a,xb,i,xn⟩=(1,W) by rw [do_yes HC.out];show Wd.set _ _=_;unfold Wd.set;rw [HF.out];rfl)
  clear i1 i0
  go_wp2_with fail
  go_ret
  exact ⟨by rw [HE.out];rfl,by rw [HE.out];exact WorldTo.same HH.out K2.out⟩
 have hd1:decide (fs.length≤i)=false:=by simpa using i1
 have hil:i<fs.length:=by omega
 have HF:=Hz (show W.fieldC ⟨12,xr,a,xb,i,xn⟩=0 by rw [HFC.out,if_neg (by omega)])
 clear i0 i1 HFC
 have hb:0≤xb∧xb<12:=(rootOk_iff _).1 ((checkM_use HC.out).2.2.2.1 (show usesM 12/4%2=1 by decide))
 obtain ⟨b,rfl⟩:∃ b:Nat,xb=b:=⟨xb.toNat,by omega⟩
 have hb12:b<12:=by omega
 clear hb
 have HVO:=Hz (Wd.rt_ok H2.out.ok (b:Int))
 have HSO:=Hz (fun hv=>Wd.ok.setF (W:=W) H2.out.ok (j:=(m:Int)) (fs:=fs.set i (W.rt (b:Int))) HLV.out (by rw [HFS.out,List.length_set]) hv)
 have HFO:=Hz (H2.out.ok.tv m HLV.out)
 have HE:=Hz (show W.do ⟨12,xr,a,b,i,xn⟩=(0,W.setF m (fs.set i (W.rt b))) by rw [do_yes HC.out];show Wd.set _ _=_;unfold Wd.set;rw [HF.out,if_pos rfl];dsimp only;rw [HTI2.out,HFS.out,Int.toNat_natCast])
 obtain ⟨iv,hi,hz0,hz1,hz2⟩:=info_parts1 info_val
 have Vi:=Hz hi;have Vz0:=Hz hz0;have Vz1:=Hz hz1;have Vz2:=Hz hz2;clear hi hz0 hz1 hz2
 obtain ⟨gf,of,rfl,hgf,-,-⟩:=HRD.out.val i hil
 have HNW:=Hz (show ∀ j u,(entV fs)[j]? = some u→w2.cell? ((⟨gf,of,none⟩:Addr).add j)=some u from fun j u hu=>by
  have hj:=(List.getElem?_eq_some_iff.1 hu).1
  obtain ⟨g',o',e',_,hc⟩:=HRD.out (by intro e;rw [e] at hj;simp at hj)
  cases e'
  rw [addr_add,hc j hj];exact hu)
 go_wp2_with (at_builtin;refine wpList_app rfl (.tmp 299) (.tmp 307) 38 rfl 96 iv (.agg #[.int .i64 0, .int .i64 0]) 2 16 Tryz.underlying38 Vi.out Vz0.out Vz1.out Vz2.out rfl (by decide) (.slice none 0 0) 0 [] rfl (Sl.nil _ _ _) ⟨gf,of,none⟩ fs.length fc (entV fs) rfl (entV_length fs) HNW.out ?hc ?hd ?he ?hf)
 case hc=>
  intro u hu
  obtain ⟨e,_,hu⟩:=List.mem_flatMap.1 (show u ∈ fs.flatMap (fun e=>[Value.int .i64 e.1,Value.int .i64 e.2]) from hu)
  simp at hu;rcases hu with rfl | rfl <;> rfl
 case hd=>unfold maxLen;omega
 case he=>omega
 case hf=>
  intro v' w3 hs hk ho
  have hk3:Keeps (fun _=>False) w2 w3:=hk.mono (fun b _ hb=>(nil_own hb).elim)
  have ho3:∀ k,ownB v' k→w2.heap.size≤k:=fun k hk=>(ho k hk).elim (fun h=>(nil_own h).elim) id
  obtain ⟨gl,ol,lc,cur,rfl,hbl,-,-,-,-⟩:=hs.laid (by omega)
  have H3:=Hz (H2.out.same hk3)
  have K3:=Hz (K2.out.trans hk3)
  have B3:=Hz (hk3.blk B2.out (fun h=>h))
  have LS:=Hz hs;have LO:=Hz (ho3 gl rfl)
  have OL:=Hz (fun b hb=>(H2.out.own_type (k:=b) hb).1)
  clear hs hk hk3 ho ho3 s0 s1 s2 s3 s4 sl c0 t0 t1 hgf hg0 pl HNW B2 hbl
  have s3:=B3.out.cell 3;have s4:=B3.out.cell 4;have sl:=B3.out.lt;have pl:=H3.out.hp.lt
  simp only [List.getElem?_cons_zero,List.getElem?_cons_succ] at s3 s4
  obtain ⟨g,o,rc,erv,hg,r0,r1⟩:=H3.out.root hb12
  have hrl:W.roots.length=12:=H3.out.ok.hr
  obtain ⟨-,c1,-,-,-,-⟩:=H3.out.cells
  rw [erv,hrl] at c1
  have h12:(b:Int)<12:=by omega
  clear erv hrl
  generalize W.rt (b:Int)=v at *
  obtain ⟨v1,v2⟩:=v
  dsimp only at r0 r1
  go_wp2_with fail
  refine wp_region_ro (.free 0 (.free 1 (.free 3 (.free 4 (.free 5 (.free 7 (.pure 2 (.pure 6 (.pure 8 (.free 9 (.pure 10 (.free 11 (.run 12 (.swi [] (.fin))))))))))))))) [12] (fun w'=>w'.cell? ⟨h.p,1,none⟩=some (.slice (some ⟨g,o,none⟩) 12 rc)∧w'.cell? ⟨sb,3,none⟩=some (.int .i64 b)∧w'.cell? ⟨sb,4,none⟩=some (.int .i64 i)∧w'.cell? ⟨g,o+b*2,none⟩=some (.int .i64 v1)∧w'.cell? ⟨g,o+b*2+1,none⟩=some (.int .i64 v2)) (by kernel_rfl) (by kernel_rfl) ⟨c1,s3,s4,r0,r1⟩ ?_
  iterate 12 first | (refine wpRO_free rfl rfl _ (fun w'=>by go_simp;exact Gives.mk _ _) (fun K hK=>?_);go_simp;refine hK _ ?_;clear hK K) | (refine wpRO_skipF rfl rfl (fun K hK=>?_);go_simp;refine hK _ ?_;clear hK K) | (refine wpRO_pure rfl rfl _ (fun w' hG=>by obtain ⟨c1,s3,s4,r0,r1⟩:=hG;exact gives_agg2 rfl (by decide +kernel) rfl (by assumption) (by assumption)) (fun K hK=>?_);go_simp;refine hK _ ?_;clear hK K) | (refine wpRO_pure rfl rfl _ (fun w' hG=>by obtain ⟨c1,s3,s4,r0,r1⟩:=hG;go_simp;exact Gives.mk _ _) (fun K hK=>?_);go_simp;refine hK _ ?_;clear hK K) | (refine wpRO_skip rfl rfl (fun K hK=>?_);go_simp;refine hK _ ?_;clear hK K)
  refine wpRO_chg rfl rfl rfl (fun K hK=>?_)
  refine gRun_store_val 96 (.tmp 320) (.tmp 319) rfl rfl gl ol fs.length lc i (entV fs) 96 (.int .i64 v1) (.int .i64 v2) rfl rfl (LS.out.keep (Kz w3).drew (fun _ _ h=>h)) hil (by kernel_rfl) rfl rfl ?_
  intro w4 hs4 hk4 hz4
  refine hK _ _ ?_
  clear hK K
  refine wpRO_swi (fun _=>True) trivial (wpRO_fin ?_)
  have hkw:Keeps (·=gl) w3 w4:=((Kz w3).drew.mono (fun _ _ h=>h.elim)).trans hk4
  have hno:∀ k,h.Own k→¬ k=gl:=fun k hk e=>by have:=OL.out k hk;have:=LO.out;omega
  have H4:=Hz (H3.out.keep hkw hno)
  have K4:=Hz (K3.out.then hkw (fun k hk=>.inr (Nat.le_trans K2.out.size (by rw [hk];exact LO.out))))
  have L4:=Hz (show Sl w4 96 2 (.slice (some ⟨gl,ol,none⟩) fs.length lc) (fs.set i (v1,v2)).length (entV (fs.set i (v1,v2))) by rw [List.length_set,entV_setV];exact hs4)
  clear hkw hno hs4 hk4 hz4 c1 s3 s4 sl r0 r1 hg pl
  obtain ⟨m',em',g1,o1,nc1,ao1,fc1,etv,hm1,hg1,u0,u1,-,hog1⟩:=H4.out.nth HLV.out
  obtain rfl:m=m':=by omega
  rw [ETV.out] at etv
  cases etv
  obtain ⟨d0,-,-,-,-,-⟩:=H4.out.cells
  have pl:=H4.out.hp.lt
  rw [ETV.out] at d0
  have hfr:∀ k,w4.frozen? ⟨g0,k,none⟩=false:=by
   obtain ⟨cs,hs,_⟩:=H4.out.ht
   obtain ⟨_,c,hc⟩:=hs.own HOG.out
   exact fun k=>hc.free k
  have hf1:=hfr (o0+m*4+1)
  have TO:=Hz (H4.out.setFs (m:=m) (fs:=fs.set i (v1,v2)) (fv:=.slice (some ⟨gl,ol,none⟩) fs.length lc) (fo:=some ⟨gl,ol,none⟩) (fc:=lc) ETV.out hm (by rw [List.length_set]) L4.out (fun k hk e=>by
   have h1:gl=k:=by simpa [ownB,Value.ownBlock] using hk
   have:=OL.out k e;have:=LO.out;omega) (HSO.out (fun v hv=>by
    rcases List.mem_or_eq_of_mem_set hv with h1 | rfl
    ·exact HFO.out v (by rw [HFS.out];exact h1)
    ·exact HVO.out)))
  clear hfr em'
  go_wp2_with fail
  go_ret
  refine ⟨by rw [HE.out];rfl,?_⟩
  rw [HE.out]
  obtain ⟨h',H',e',k',o'⟩:=TO.out
  refine ⟨h',H',e',(K4.out.mono (fun _ _ h=>h.elim)).trans k',fun k hk=>?_⟩
  rcases o' k hk with h1 | h1
  ·exact .inl h1
  ·right
   have h1:gl=k:=by simpa [ownB,Value.ownBlock] using h1
   have:=LO.out;have:=K2.out.size
   omega
end
end
section
open Go.RowKit
section
variable {w:World} {h:RW} {W:Wd}
theorem WorldAt.setGv {w1:World} {v':Value} {rg:List (Int × Int)} (H:WorldAt w h W) (hs:Sl w1 152 2 v' rg.length (entV rg)) (hk:Keeps (ownB h.gv) w w1)
  (ho:∀ k,ownB v' k→ownB h.gv k∨w.heap.size≤k) (hok:Wd.ok { W with regs:=rg }):WorldTo w h (w1.setCell ⟨h.p,2,none⟩ v') { W with regs:=rg }:=by
 have nE:∀ {b:Nat} {c:List Value} {T:TypeId},Blk w b c T→T≠152→¬ ownB h.gv b:=fun hb hT e=>by
  obtain ⟨_,c',hc'⟩:=H.hg.own e
  exact hb.ne hc' hT rfl
 have hp1:=hk.blk H.hp (nE H.hp (by decide))
 have set:=(Keeps.refl (·=h.p) w1).setCell (p:=⟨h.p,2,none⟩) (.inl rfl) v'
 have np:∀ {b:Nat} {c:List Value} {T:TypeId},Blk w1 b c T→T≠147→¬ b=h.p:=fun hb hT=>hb.ne hp1 hT
 have kk:Keeps (fun b=>ownB h.gv b∨b=h.p) w (w1.setCell ⟨h.p,2,none⟩ v'):=(hk.mono (fun _ _ h=>.inl h)).then set (fun b hb=>.inl (.inr hb))
 have nB:∀ {b:Nat} {c:List Value} {T:TypeId},Blk w b c T→T≠152→T≠147→¬ (ownB h.gv b∨b=h.p):=fun hb h1 h2 e=>by
  rcases e with e | e
  ·exact nE hb h1 e
  ·exact hb.ne H.hp h2 e
 refine ⟨⟨h.p,h.tv,h.rv,v',h.wv,h.F⟩,⟨by simpa using hp1.setSame 2 v',H.ht.keep kk (fun b hb _=>?_) (fun b hb=>?_),H.hr.keep kk (fun b hb=>?_),hs.keep set (fun b hb=>?_),H.hw.keep kk (fun b hb=>?_),fun k hk'=>?_,fun k hk'=>?_,hok⟩,rfl,kk.mono (fun b _ hb=>?_),fun k hk'=>?_⟩
 ·obtain ⟨_,⟨c,hc⟩,_⟩:=H.af b hb;exact nB hc (by decide) (by decide)
 ·obtain ⟨cs,hs',_⟩:=H.ht;obtain ⟨_,c,hc⟩:=hs'.own hb;exact nB hc (by decide) (by decide)
 ·obtain ⟨_,c,hc⟩:=H.hr.own hb;exact nB hc (by decide) (by decide)
 ·obtain ⟨_,c,hc⟩:=hs.own hb;exact np hc (by decide)
 ·rintro (e | e)
  ·exact H.ap b ⟨e,hb⟩
  ·obtain ⟨_,c,hc⟩:=H.hw.own hb;exact hc.ne H.hp (by decide) e
 ·rcases ho k hk'.1 with e | e
  ·exact H.ap k ⟨e,hk'.2⟩
  ·have:=(H.hw.own hk'.2).1;omega
 ·obtain ⟨h1,⟨c,h2⟩,h3⟩:=H.af k hk'
  exact ⟨Nat.lt_of_lt_of_le h1 kk.size,⟨c,kk.blk h2 (nB h2 (by decide) (by decide))⟩,h3⟩
 ·rcases hb with hb | hb
  ·exact .inr (.inr (.inr (.inl hb)))
  ·exact .inl hb
 ·rcases hk' with hk' | hk' | hk' | hk' | hk' | hk'
  ·exact .inl (.inl hk')
  ·exact .inl (.inr (.inl hk'))
  ·exact .inl (.inr (.inr (.inl hk')))
  ·rcases ho k hk' with e | e
   ·exact .inl (.inr (.inr (.inr (.inl e))))
   ·exact .inr e
  ·exact .inl (.inr (.inr (.inr (.inr (.inl hk')))))
  ·exact .inl (.inr (.inr (.inr (.inr (.inr hk')))))
theorem WDoReg_c (xr xa xb xi xn:Int) (H:WorldAt w h W) :
  Calls Tryz.prog 33 #[.pointer (some ⟨h.p,0,none⟩), .agg #[.int .i64 9, .int .i64 xr, .int .i64 xa, .int .i64 xb, .int .i64 xi, .int .i64 xn]] w fun e w'=>e=.returned (.int .i64 (W.do ⟨9,xr,xa,xb,xi,xn⟩).1)∧WorldTo w h w' (W.do ⟨9,xr,xa,xb,xi,xn⟩).2:=by
 have HH:=Hz H
 have hb1:Blk (w.alloc (.cells #[.int .i64 9, .int .i64 xr, .int .i64 xa, .int .i64 xb, .int .i64 xi, .int .i64 xn] 69)) w.heap.size [.int .i64 9, .int .i64 xr, .int .i64 xa, .int .i64 xb, .int .i64 xi, .int .i64 xn] 69:=Blk.newAt _ rfl rfl
 have HB:=Hz hb1
 have KA:=Hz ((Kz w).alloc (.cells #[.int .i64 9, .int .i64 xr, .int .i64 xa, .int .i64 xb, .int .i64 xi, .int .i64 xn] 69))
 have s0:=hb1.cell 0;have s1:=hb1.cell 1;have s2:=hb1.cell 2;have s3:=hb1.cell 3;have s4:=hb1.cell 4;have s5:=hb1.cell 5
 simp only [List.getElem?_cons_zero,List.getElem?_cons_succ] at s0 s1 s2 s3 s4 s5
 have HSF:=Hz (fun w=>RStepFault_c ⟨9,xr,xa,xb,xi,xn⟩ w)
 obtain ⟨c,hc⟩:∃ c,checkM ⟨9,xr,xa,xb,xi,xn⟩=c:=⟨_,rfl⟩
 rw [hc] at HSF
 have HC:=Hz hc
 clear H hb1 hc
 go_enter Tryz.func33,Tryz.ntmps33
 go_wp2_with (refine wpList_agg rfl 69 (.tmp 3) rfl [.int .i64 9, .int .i64 xr, .int .i64 xa, .int .i64 xb, .int .i64 xi, .int .i64 xn] (by kernel_rfl) w.heap.size 0 rfl (rangeAt_cons s0 (rangeAt_cons s1 (rangeAt_cons s2 (rangeAt_cons s3 (rangeAt_cons s4 (rangeAt_cons s5 rangeAt_nil)))))) ?_)
 refine (HSF.out _).mono ?_
 rintro e w1 ⟨rfl,hk⟩
 have H1:=Hz ((HH.out.same KA.out).same hk)
 have K1:=Hz (KA.out.trans hk)
 have B1:=Hz (hk.blk HB.out (fun h=>h))
 clear hk s0 s1 s2 s3 s4 s5 HSF KA HB
 generalize w.heap.size=sb at *
 have s0:=B1.out.cell 0;have s1:=B1.out.cell 1;have s2:=B1.out.cell 2;have s3:=B1.out.cell 3;have s4:=B1.out.cell 4;have s5:=B1.out.cell 5;have sl:=B1.out.lt
 simp only [List.getElem?_cons_zero,List.getElem?_cons_succ] at s0 s1 s2 s3 s4 s5
 by_cases h0:¬ c=0
 ·have HE:=Hz (do_no (W:=W) HC.out h0)
  have hd:(c != 0)=true:=by simpa using h0
  clear h0
  go_wp2_with fail
  go_ret
  exact ⟨by rw [HE.out];rfl,by rw [HE.out];exact WorldTo.same HH.out K1.out⟩
 have h0:c=0:=Classical.not_not.1 h0
 subst h0
 have ha:0≤xa∧xa<12:=(rootOk_iff _).1 ((checkM_use HC.out).2.2.1 (show usesM 9/2%2=1 by decide))
 have hb:0≤xb∧xb<12:=(rootOk_iff _).1 ((checkM_use HC.out).2.2.2.1 (show usesM 9/4%2=1 by decide))
 obtain ⟨a,rfl⟩:∃ a:Nat,xa=a:=⟨xa.toNat,by omega⟩
 obtain ⟨b,rfl⟩:∃ b:Nat,xb=b:=⟨xb.toNat,by omega⟩
 have ha12:a<12:=by omega
 have hb12:b<12:=by omega
 clear ha hb
 have hth:=fun w (H:WorldAt w h W)=>WThing_c a ha12 H
 have hgd:=fun w (H:WorldAt w h W)=>WGuard_c b hb12 H
 have HRE:=Hz (show W.do ⟨9,xr,a,b,xi,xn⟩=W.reg ⟨9,xr,a,b,xi,xn⟩ by rw [do_yes HC.out];rfl)
 have HOK:=Hz (H1.out.ok.do ⟨9,xr,a,b,xi,xn⟩)
 obtain ⟨ti,hti⟩:∃ ti,W.thing (a:Int)=ti:=⟨_,rfl⟩
 obtain ⟨gi,hgi⟩:∃ gi,W.guard (b:Int)=gi:=⟨_,rfl⟩
 rw [hti] at hth
 rw [hgi] at hgd
 have HTI:=Hz hti;have HGI:=Hz hgi;have HTH:=Hz hth;have HGD:=Hz hgd
 clear hti hgi hth hgd
 have pl:=H1.out.hp.lt
 go_wp2_with fail
 refine (HTH.out _ H1.out).mono ?_
 rintro e w2 ⟨rfl,hk⟩
 have H2:=Hz (H1.out.same hk)
 have K2:=Hz (K1.out.trans hk)
 have B2:=Hz (hk.blk B1.out (fun h=>h))
 clear hk s0 s1 s2 s3 s4 s5 sl pl B1 H1 K1
 have s2:=B2.out.cell 2;have s3:=B2.out.cell 3;have sl:=B2.out.lt;have pl:=H2.out.hp.lt
 simp only [List.getElem?_cons_zero,List.getElem?_cons_succ] at s2 s3
 by_cases hi:ti<0
 ·have hd:decide (ti<0)=true:=by simpa using hi
  have HE:=Hz (show W.do ⟨9,xr,a,b,xi,xn⟩=(2,W) by rw [HRE.out];unfold Wd.reg;dsimp only;rw [HTI.out,if_pos (.inl hi)])
  clear hi
  go_wp2_with fail
  go_ret
  exact ⟨by rw [HE.out];rfl,by rw [HE.out];exact WorldTo.same HH.out K2.out⟩
 have hd:decide (ti<0)=false:=by simpa using hi
 have HNT:=Hz hi
 clear hi
 go_wp2_with fail
 refine (HGD.out _ H2.out).mono ?_
 rintro e w3 ⟨rfl,hk⟩
 have H3:=Hz (H2.out.same hk)
 have K3:=Hz (K2.out.trans hk)
 have B3:=Hz (hk.blk B2.out (fun h=>h))
 clear hk s2 s3 sl pl B2 H2 K2
 have s2:=B3.out.cell 2;have s3:=B3.out.cell 3;have sl:=B3.out.lt;have pl:=H3.out.hp.lt
 simp only [List.getElem?_cons_zero,List.getElem?_cons_succ] at s2 s3
 by_cases hg:gi<0
 ·have hd2:decide (gi<0)=true:=by simpa using hg
  have HE:=Hz (show W.do ⟨9,xr,a,b,xi,xn⟩=(2,W) by rw [HRE.out];unfold Wd.reg;dsimp only;rw [HGI.out,if_pos (.inr hg)])
  clear hg
  go_wp2_with fail
  go_ret
  exact ⟨by rw [HE.out];rfl,by rw [HE.out];exact WorldTo.same HH.out K3.out⟩
 have hd2:decide (gi<0)=false:=by simpa using hg
 have HRG:=Hz (show W.do ⟨9,xr,a,b,xi,xn⟩=if 24≤W.regs.length+W.wait.length then (3,W) else (0, { W with regs:=W.regs ++ [(gi,ti)] }) by rw [HRE.out];unfold Wd.reg;dsimp only;rw [HTI.out,HGI.out,if_neg (fun e=>by rcases e with e | e;(have:=HNT.out;omega);exact hg e)])
 clear hg
 obtain ⟨go,gc,egv,-,-,-⟩:=H3.out.hg.rd
 obtain ⟨wo,wc,ewv,-,-,-⟩:=H3.out.hw.rd
 obtain ⟨-,-,c2,c3,-,-⟩:=H3.out.cells
 have EGV:=Hz egv;have EWV:=Hz ewv
 rw [egv] at c2
 rw [ewv] at c3
 have hq:=H3.out.ok.hq
 clear egv ewv
 obtain ⟨nr,hnr⟩:∃ n,W.regs.length=n:=⟨_,rfl⟩
 obtain ⟨nw,hnw⟩:∃ n,W.wait.length=n:=⟨_,rfl⟩
 rw [hnr,hnw] at HRG hq
 rw [hnr] at c2 EGV
 rw [hnw] at c3
 have HNR:=Hz hnr
 clear hnr hnw
 have hw1:IntKind.i64.wrap ((nr:Int)+nw)=(nr:Int)+nw:=IntWalk.i64_in _ (by omega)
 go_wp2_with fail
 refine wp_region_ro (.free 0 (.free 1 (.free 2 (.free 5 (.free 6 (.free 7 (.pure 3 (.free 4 (.pure 8 (.free 9 (.free 10 (.free 11 (.fin))))))))))))) [] (fun w'=>w'.cell? ⟨h.p,2,none⟩=some (.slice go nr gc)∧w'.cell? ⟨h.p,3,none⟩=some (.slice wo nw wc)) (by kernel_rfl) (by kernel_rfl) ⟨c2,c3⟩ ?_
 iterate 12 first | (refine wpRO_free rfl rfl _ (fun w'=>by go_simp;exact Gives.mk _ _) (fun K hK=>?_);go_simp;refine hK _ ?_;clear hK K) | (refine wpRO_skipF rfl rfl (fun K hK=>?_);go_simp;refine hK _ ?_;clear hK K) | (refine wpRO_pure rfl rfl _ (fun w' hG=>by obtain ⟨c2,c3⟩:=hG;exact gives_agg2 rfl (by decide +kernel) rfl (by assumption) (by assumption)) (fun K hK=>?_);go_simp;refine hK _ ?_;clear hK K) | (refine wpRO_pure rfl rfl _ (fun w' hG=>by obtain ⟨c2,c3⟩:=hG;go_simp;exact Gives.mk _ _) (fun K hK=>?_);go_simp;refine hK _ ?_;clear hK K) | (refine wpRO_skip rfl rfl (fun K hK=>?_);go_simp;refine hK _ ?_;clear hK K)
 refine wpRO_fin ?_
 clear hw1
 by_cases h24:24≤nr+nw
 ·have HE:=Hz (HRG.out.trans (if_pos h24))
  have hd3:(24:Int)≤(nr:Int)+nw:=by omega
  have hd4:¬ ((nr:Int)+nw<24):=by omega
  clear h24 hq
  go_wp2_with fail
  go_ret
  exact ⟨by rw [HE.out];rfl,by rw [HE.out];exact WorldTo.same HH.out K3.out.drew⟩
 have HE:=Hz (HRG.out.trans (if_neg h24))
 have hd3:(nr:Int)+nw<24:=by omega
 have hd4:¬ (24:Int)≤(nr:Int)+nw:=by omega
 have HOK2:=Hz (show Wd.ok { W with regs:=W.regs ++ [(gi,ti)] } by have:=HOK.out;rw [HE.out] at this;exact this)
 clear h24 HRG
 obtain ⟨iv,hi,hz0,hz1,hz2⟩:=info_parts1 info_rent
 have Vi:=Hz hi;have Vz0:=Hz hz0;have Vz1:=Hz hz1;have Vz2:=Hz hz2;clear hi hz0 hz1 hz2
 go_wp2_with fail
 refine wp_region_ro (.free 0 (.free 1 (.free 2 (.free 3 (.free 5 (.free 6 (.free 9 (.free 10 (.pure 4 (.pure 7 (.pure 11 (.run 8 (.run 12 (.free 13 (.run 14 (.run 15 (.swi [18] (.free 16 (.free 17 (.run 18 (.swi [] (.fin)))))))))))))))))))))) [15,16,17,18] (fun w'=>w'.cell? ⟨h.p,2,none⟩=some (.slice go nr gc)∧w'.cell? ⟨sb,3,none⟩=some (.int .i64 b)∧w'.cell? ⟨sb,2,none⟩=some (.int .i64 a)) (by kernel_rfl) (by kernel_rfl) ⟨c2,s3,s2⟩ ?_
 iterate 11 first | (refine wpRO_free rfl rfl _ (fun w'=>by go_simp;exact Gives.mk _ _) (fun K hK=>?_);go_simp;refine hK _ ?_;clear hK K) | (refine wpRO_skipF rfl rfl (fun K hK=>?_);go_simp;refine hK _ ?_;clear hK K) | (refine wpRO_pure rfl rfl _ (fun w' hG=>by obtain ⟨c2,s3,s2⟩:=hG;exact gives_agg2 rfl (by decide +kernel) rfl (by assumption) (by assumption)) (fun K hK=>?_);go_simp;refine hK _ ?_;clear hK K) | (refine wpRO_pure rfl rfl _ (fun w' hG=>by obtain ⟨c2,s3,s2⟩:=hG;go_simp;exact Gives.mk _ _) (fun K hK=>?_);go_simp;refine hK _ ?_;clear hK K) | (refine wpRO_skip rfl rfl (fun K hK=>?_);go_simp;refine hK _ ?_;clear hK K)
 refine wpRO_run rfl rfl (fun K hK=>?_);unfold gRun;go_simp
 refine (HGD.out _ (H3.out.same (Kz w3).drew.drew)).mono ?_
 rintro e w5 ⟨rfl,hk⟩
 have kk:Keeps (fun _=>False) w3 w5:=(Kz w3).drew.drew.trans hk
 have H5:=Hz (H3.out.same kk)
 have K5:=Hz (K3.out.trans kk)
 have B5:=Hz (kk.blk B3.out (fun h=>h))
 have c2:=H5.out.cells.2.2.1
 rw [EGV.out] at c2
 refine hK _ _ (fun _=>⟨c2,B5.out.cell 3,B5.out.cell 2⟩) ?_
 clear hK K hk kk c2 c3 s2 s3 sl pl
 refine wpRO_run rfl rfl (fun K hK=>?_);unfold gRun;go_simp
 refine (HTH.out _ H5.out).mono ?_
 rintro e w6 ⟨rfl,kk⟩
 have H6:=Hz (H5.out.same kk)
 have K6:=Hz (K5.out.trans kk)
 have B6:=Hz (kk.blk B5.out (fun h=>h))
 have c2:=H6.out.cells.2.2.1
 rw [EGV.out] at c2
 refine hK _ _ (fun _=>⟨c2,B6.out.cell 3,B6.out.cell 2⟩) ?_
 clear hK K kk c2 H5 K5 B5
 iterate 1 first | (refine wpRO_free rfl rfl _ (fun w'=>by go_simp;exact Gives.mk _ _) (fun K hK=>?_);go_simp;refine hK _ ?_;clear hK K) | (refine wpRO_skipF rfl rfl (fun K hK=>?_);go_simp;refine hK _ ?_;clear hK K)
 refine wpRO_run rfl rfl (fun K hK=>?_);unfold gRun;go_simp
 have kk:=(Kz w6).alloc (.cells #[.int .i64 gi, .int .i64 ti] 152)
 have H7:=Hz (H6.out.same kk)
 have K7:=Hz (K6.out.trans kk)
 have B7:=Hz (kk.blk B6.out (fun h=>h))
 have c2:=H7.out.cells.2.2.1
 rw [EGV.out] at c2
 refine hK _ _ (fun _=>⟨c2,B7.out.cell 3,B7.out.cell 2⟩) ?_
 clear hK K kk c2
 have HGS:=Hz (show Sl (w6.alloc (.cells #[.int .i64 gi, .int .i64 ti] 152)) 152 2 (.slice go nr gc) nr (entV W.regs) by have:=H7.out.hg;rw [EGV.out,HNR.out] at this;exact this)
 refine wpRO_chg rfl rfl rfl (fun K hK=>?_)
 refine gRun_app (.tmp 149) (.tmp 159) 145 rfl 152 iv (.agg #[.int .i64 0, .int .i64 0]) 2 16 Tryz.underlying145 Vi.out Vz0.out Vz1.out Vz2.out rfl (by decide) (.slice go nr gc) nr (entV W.regs) rfl HGS.out ⟨w6.heap.size,0,none⟩ 1 1 [.int .i64 gi, .int .i64 ti] rfl rfl (news_at w6 152 #[.int .i64 gi, .int .i64 ti]) (by intro u hu;simp at hu;rcases hu with rfl | rfl <;> rfl) (by unfold maxLen;omega) (by omega) ?_
 intro v8 w8 hs8 hk8 ho8
 refine hK _ _ ?_
 clear hK K
 have TO:=Hz (WorldTo.from_same K7.out (H7.out.setGv (w1:=w8) (v':=v8) (rg:=W.regs ++ [(gi,ti)]) (by rw [List.length_append,HNR.out,show entV (W.regs ++ [(gi,ti)])=entV W.regs ++ [.int .i64 gi, .int .i64 ti] by simp [entV]];exact hs8) (by rw [EGV.out];exact hk8) (by rw [EGV.out];exact ho8) HOK2.out))
 have HP8:=hk8.blk H7.out.hp (fun e=>by
  obtain ⟨_,c,hc⟩:=HGS.out.own e
  exact hc.ne H7.out.hp (by decide) rfl)
 have x2:=HP8.cell 2;have xl:=HP8.lt;have xf:=HP8.free 2
 simp only [List.getElem?_cons_zero,List.getElem?_cons_succ] at x2
 obtain ⟨vo8,vc8,rfl,-,-,-⟩:=hs8.rd
 clear hs8 hk8 ho8 HP8
 refine wpRO_swi (fun _=>True) trivial ?_
 iterate 2 first | (refine wpRO_free rfl rfl _ (fun w'=>by go_simp;exact Gives.mk _ _) (fun K hK=>?_);go_simp;refine hK _ ?_;clear hK K) | (refine wpRO_skipF rfl rfl (fun K hK=>?_);go_simp;refine hK _ ?_;clear hK K)
 refine wpRO_chg rfl rfl rfl (fun K hK=>?_);unfold gRun;go_simp
 refine hK _ _ ?_
 clear hK K
 refine wpRO_swi (fun _=>True) trivial (wpRO_fin ?_)
 clear x2 xl xf
 go_wp2_with fail
 go_ret
 exact ⟨by rw [HE.out];rfl,by rw [HE.out];exact TO.out⟩
end
end
section
structure Gs where
 lv:List Bool
 st:List Int
 ep:List Int
def jAlive (s:Gs) (x:Int):Bool:=!decide (x%4=1) || atB s.lv (x/4)
def jMark (s:Gs) (x:Int):Gs:=if jAlive s x=true then s else ⟨s.lv.set (x/4).toNat true,s.st ++ [x/4],s.ep⟩
def jMarks (s:Gs) (l:List Int):Gs:=l.foldl jMark s
def jLook (A:Ar) (s:Gs) (i:Int):Gs:=
 if (A.thing i).1=1∨(A.thing i).1=2 then jMarks s (A.fields i)
 else if (A.thing i).1=3 then jMark s (A.load (i+2))
 else if (A.thing i).1=4 then { s with ep:=s.ep ++ [i] }
 else s
def jPop (A:Ar) (s:Gs):Gs:=jLook A { s with st:=s.st.dropLast } (s.st.getLastD 0)
def jPops (A:Ar):Nat→Gs→Gs
 | 0,s=>s
 | n+1,s=>if s.st=[] then s else jPops A n (jPop A s)
def jEph1 (A:Ar) (s:Gs) (i:Int):Gs:=if jAlive s (A.load (i+1))=true then jMark s (A.load (i+2)) else s
def jEph (A:Ar) (s:Gs) (l:List Int):Gs:=l.foldl (jEph1 A) s
def jKp (s:Gs) (x:Int):Gs × Int:=(jMark s x,x)
def jRound (A:Ar) (q:List (Int × Int)) (s:Gs):Gs:=(wakeM jAlive jKp (jEph A (jPops A 2000 s) (jPops A 2000 s).ep) q).1
def jDrain (A:Ar) (q:List (Int × Int)):Nat→Gs→Gs
 | 0,s=>s
 | n+1,s=>if (jRound A q s).st=[] then jRound A q s else jDrain A q n (jRound A q s)
def jKeep (A:Ar) (s:Gs) (q:List (Int × Int)) (x:Int):Gs × List (Int × Int) × Int:=(jDrain A q 2000 (jMark s x),q,x)
def jPre (O:Wo):Gs:=jDrain O.ar O.wt 2000 (jMarks ⟨List.replicate O.ar.ws.length false,[],[]⟩ O.rt)
def jPass (O:Wo):Gs × List (Int × Int) × List It:=passM jAlive (jKeep O.ar) (jPre O) O.rg O.wt
def sameW (s:Gs) (x:Int):Int:=x
def jPlan (A:Ar) (lv:List Bool) (base:Int):List Int→List Int × Int→List Int × Int
 | [],t=>t
 | i :: l,t=>jPlan A lv base l (if atB lv i=true then (t.1.set i.toNat (base+t.2),t.2+(1+(A.thing i).2.1)) else t)
def jNow (f:List Int) (x:Int):Int:=if x%4=1 then refW (f.getD (x/4).toNat 0) else x
def jTurn1 (s:Gs) (f:List Int) (b:Bool) (A:Ar) (i:Int):Ar:=A.store i (if (b || !jAlive s (A.load i))=true then 3 else jNow f (A.load i))
def jTurnN (s:Gs) (f:List Int) (b:Bool):Nat→Ar→Int→Ar
 | 0,A,_=>A
 | n+1,A,i=>jTurnN s f b n (jTurn1 s f b A i) (i+1)
def jTurn (s:Gs) (f:List Int) (A:Ar) (i:Int):Ar:=jTurnN s f (decide ((A.thing i).1=4) && !jAlive s (A.load (i+1))) (A.thing i).2.1.toNat A (i+1)
def jSlide1 (f:List Int) (A:Ar) (i:Int):Ar:=
 { A with ws:=lay A.ws (f.getD i.toNat 0).toNat ((A.ws.drop i.toNat).take (1+(A.thing i).2.1).toNat) }
def jAll (O:Wo):List Int:=O.ar.things.2 ++ O.ar.things.1
def jThings (O:Wo):List Int:=(jAll O).filter fun i=>atB (jPass O).1.lv i
def jPl (O:Wo):List Int × Int:=jPlan O.ar (jPass O).1.lv O.ar.nur (jAll O) (List.replicate O.ar.ws.length 0,0)
def jNowE (f:List Int) (e:Int × Int):Int × Int:=(jNow f e.1,jNow f e.2)
def jTurned (O:Wo):Ar:=(jThings O).foldl (jTurn (jPass O).1 (jPl O).1) O.ar
def jSlid (O:Wo):Ar:=(jThings O).foldl (jSlide1 (jPl O).1) (jTurned O)
def jCut (O:Wo):Int × Wo:=
 if (jPl O).2 > ((O.ar.grn:Int)-O.ar.nur)+((O.ar.ws.length:Int)-O.ar.grn) then (3,O)
 else (0,⟨((jSlid O).cut (jPl O).2.toNat).clear,O.cd.map fun _=>false,O.rt.map (jNow (jPl O).1),
  (newRegs jAlive sameW (jPass O).1 (jPass O).2.2).map (jNowE (jPl O).1),(newWait jAlive sameW (jPass O).1 (jPass O).2.1).map (jNowE (jPl O).1)⟩)
def fals (l:List Bool):Nat:=(l.filter fun b=>!b).length
theorem fals_set:∀ {l:List Bool} {i:Nat},i<l.length→l.getD i false=false→fals (l.set i true)+1=fals l
 | [],i,h,_=>by simp at h
 | b :: l,0,_,h=>by
  have hb:b=false:=by simpa using h
  subst hb;simp [fals]
 | b :: l,i+1,h,hv=>by
  have:=fals_set (l:=l) (i:=i) (by simpa using h) (by simpa using hv)
  unfold fals at *
  rw [List.set_cons_succ]
  cases b <;> simp [List.filter_cons] <;> omega
theorem fals_le (l:List Bool):fals l≤l.length:=List.length_filter_le _ _
def jM (s:Gs):Nat:=s.st.length+fals s.lv
theorem wakeM_same:∀ (q:List (Int × Int)) (s:Gs),(wakeM jAlive jKp s q).2.1=q
 | [],s=>rfl
 | e :: q,s=>by
  unfold wakeM
  split
  ·simp only [wakeM_same q];rfl
  ·simp only [wakeM_same q]
def LkJ (W:Wd) (φ:Int→Int) (s:Gs) (S:Int→Prop) (i:Int):Prop:=
 (((W.th i).k=1∨(W.th i).k=2)→∀ v ∈ (W.th i).fs,v.1=3→S v.2)∧((W.th i).k=3→∀ v,(W.th i).fs[1]? = some v→v.1=3→S v.2)∧((W.th i).k=4→φ i ∈ s.ep)
structure Mk (O:Wo) (W:Wd) (φ:Int→Int) (Al Ex:Int→Prop) (s:Gs) (S:Int→Prop):Prop where
 len:s.lv.length=O.ar.ws.length
 at_:∀ p,atB s.lv p=true↔∃ i,S i∧φ i=p
 sl:∀ i,S i→W.live i
 al:∀ i,S i→Al i
 st:∀ p ∈ s.st, ∃ i,S i∧φ i=p
 ep:∀ p ∈ s.ep, ∃ i,S i∧(W.th i).k=4∧φ i=p
 done:∀ i,S i→Ex i∨φ i ∈ s.st∨LkJ W φ s S i
section
variable {O:Wo} {W:Wd} {φ:Int→Int} {s s':Gs} {S S' Al Ex:Int→Prop} {qw:List (Int × Int)}
theorem Mk.alive (R:Rep O W φ) (M:Mk O W φ Al Ex s S) {v:Vl} (hv:W.okV v):jAlive s (encV φ v)=true↔(v.1=3→S v.2):=by
 unfold jAlive
 by_cases h3:v.1=3
 ·have hl:=Wd.okV_ref hv h3
  rw [encV_ref φ h3,show (4*φ v.2+1)%4=1 by omega,show (4*φ v.2+1)/4=φ v.2 by omega]
  simp only [decide_true,Bool.not_true,Bool.false_or]
  rw [M.at_]
  constructor
  ·rintro ⟨i,hi,e⟩ _
   rw [←R.inj i v.2 (M.sl i hi) hl e];exact hi
  ·intro h;exact ⟨_,h h3,rfl⟩
 ·have:¬ encV φ v%4=1:=fun h=>h3 ((encV_mod hv).1 h)
  simp [this,h3]
theorem Mk.eq (M:Mk O W φ Al Ex s S) (h:∀ k,S k↔S' k):Mk O W φ Al Ex s S':=by
 have e:S=S':=funext fun k=>propext (h k)
 rw [←e];exact M
structure MX (s:Gs) (S:Int→Prop) (s':Gs) (S':Int→Prop):Prop where
 sub:∀ k,S k→S' k
 ep:∀ p ∈ s.ep,p ∈ s'.ep
 m:jM s'=jM s
 f:fals s'.lv≤fals s.lv
theorem MX.refl:MX s S s S:=⟨fun _ h=>h,fun _ h=>h,rfl,Nat.le_refl _⟩
theorem MX.trans {s2:Gs} {S2:Int→Prop} (h:MX s S s' S') (k:MX s' S' s2 S2):MX s S s2 S2:=
 ⟨fun i hi=>k.sub i (h.sub i hi),fun p hp=>k.ep p (h.ep p hp),k.m.trans h.m,Nat.le_trans k.f h.f⟩
theorem Mk.mark (R:Rep O W φ) (M:Mk O W φ Al Ex s S) {v:Vl} (hv:W.okV v) (ha:v.1=3→Al v.2) :
  Mk O W φ Al Ex (jMark s (encV φ v)) (fun k=>S k∨(v.1=3∧k=v.2))∧MX s S (jMark s (encV φ v)) (fun k=>S k∨(v.1=3∧k=v.2))∧(jMark s (encV φ v)).ep=s.ep ∧
   ((∀ p ∈ s.st,p ∈ (jMark s (encV φ v)).st)∧∀ p ∈ (jMark s (encV φ v)).st,p ∈ s.st∨∃ k,¬ S k∧v.1=3∧k=v.2):=by
 by_cases hc:jAlive s (encV φ v)=true
 ·have e:jMark s (encV φ v)=s:=if_pos hc
  have h:=(M.alive R hv).1 hc
  rw [e]
  refine ⟨M.eq (fun k=>⟨.inl,?_⟩),⟨fun k h=>.inl h,fun _ h=>h,rfl,Nat.le_refl _⟩,rfl,fun _ h=>h,fun _ h=>.inl h⟩
  rintro (h' | ⟨h',rfl⟩)
  ·exact h'
  ·exact h h'
 ·have hn:¬ (v.1=3→S v.2):=fun h=>hc ((M.alive R hv).2 h)
  have h3:v.1=3:=Decidable.byContradiction fun h=>hn (fun h'=>(h h').elim)
  have hs:¬ S v.2:=fun h=>hn (fun _=>h)
  have hl:=Wd.okV_ref hv h3
  have e:jMark s (encV φ v)=⟨s.lv.set (φ v.2).toNat true,s.st ++ [φ v.2],s.ep⟩:=by
   unfold jMark
   rw [if_neg hc,encV_ref φ h3,show (4*φ v.2+1)/4=φ v.2 by omega]
  have hp:=R.place hl
  have hset:∀ p,atB (s.lv.set (φ v.2).toNat true) p=true↔p=φ v.2∨atB s.lv p=true:=fun p=>atB_set hp.1 (by rw [M.len];exact hp.2.2)
  have hold:s.lv.getD (φ v.2).toNat false=false:=by
   cases h:s.lv.getD (φ v.2).toNat false
   ·rfl
   ·rw [atB_toNat hp.1] at h
    obtain ⟨i,hi,e⟩:=(M.at_ _).1 h
    rw [R.inj i v.2 (M.sl i hi) hl e] at hi
    exact (hs hi).elim
  rw [e]
  refine ⟨⟨by simpa using M.len,fun p=>?_,fun i hi=>?_,fun i hi=>?_,fun p hp=>?_,fun p hp=>?_,fun i hi=>?_⟩,⟨fun k h=>.inl h,fun _ h=>h,?_,?_⟩,rfl,fun p hp=>by simp [hp],fun p hp=>?_⟩
  ·dsimp only
   rw [hset,M.at_]
   constructor
   ·rintro (h | ⟨i,hi,e⟩)
    ·exact ⟨v.2, .inr ⟨h3,rfl⟩,h.symm⟩
    ·exact ⟨i, .inl hi,e⟩
   ·rintro ⟨i,hi | ⟨_,rfl⟩,e⟩
    ·exact .inr ⟨i,hi,e⟩
    ·exact .inl e.symm
  ·rcases hi with h | ⟨_,rfl⟩
   ·exact M.sl i h
   ·exact hl
  ·rcases hi with h | ⟨h,rfl⟩
   ·exact M.al i h
   ·exact ha h
  ·rcases List.mem_append.1 hp with h | h
   ·obtain ⟨i,hi,e⟩:=M.st p h
    exact ⟨i, .inl hi,e⟩
   ·rw [List.mem_singleton.1 h];exact ⟨v.2, .inr ⟨h3,rfl⟩,rfl⟩
  ·obtain ⟨i,hi,e⟩:=M.ep p hp
   exact ⟨i, .inl hi,e⟩
  ·rcases hi with h | ⟨_,rfl⟩
   ·rcases M.done i h with h1 | h1 | h1
    ·exact .inl h1
    ·exact .inr (.inl (by simp [h1]))
    ·exact .inr (.inr ⟨fun hk v hv h3=>.inl (h1.1 hk v hv h3),fun hk v hv h3=>.inl (h1.2.1 hk v hv h3),h1.2.2⟩)
   ·exact .inr (.inl (by simp))
  ·have:=fals_set (l:=s.lv) (i:=(φ v.2).toNat) (by rw [M.len];omega) hold
   simp only [jM,List.length_append,List.length_cons,List.length_nil];omega
  ·have:=fals_set (l:=s.lv) (i:=(φ v.2).toNat) (by rw [M.len];omega) hold
   dsimp only;omega
  ·rcases List.mem_append.1 hp with h | h
   ·exact .inl h
   ·exact .inr ⟨v.2,hs,h3,rfl⟩
theorem Mk.marks (R:Rep O W φ):∀ (l:List Vl) {s:Gs} {S:Int→Prop},Mk O W φ Al Ex s S→(∀ v ∈ l,W.okV v∧(v.1=3→Al v.2)) →
  ∃ S',Mk O W φ Al Ex (jMarks s (l.map (encV φ))) S'∧MX s S (jMarks s (l.map (encV φ))) S'∧(jMarks s (l.map (encV φ))).ep=s.ep∧(∀ v ∈ l,v.1=3→S' v.2)∧∀ k,S' k→S k∨((3,k):Vl) ∈ l
 | [],s,S,M,_=>⟨S,M,MX.refl,rfl,by simp,fun k h=>.inl h⟩
 | v :: l,s,S,M,hl=>by
  have hv:=hl v (by simp)
  obtain ⟨M1,X1,e1,_,_⟩:=M.mark R hv.1 hv.2
  obtain ⟨S2,M2,X2,e2,k2,b2⟩:=Mk.marks R l M1 (fun u hu=>hl u (by simp [hu]))
  have e:jMarks s ((v :: l).map (encV φ))=jMarks (jMark s (encV φ v)) (l.map (encV φ)):=rfl
  rw [e]
  refine ⟨S2,M2,X1.trans X2,e2.trans e1,fun u hu h3=>?_,fun k hk=>?_⟩
  ·rcases List.mem_cons.1 hu with rfl | hu
   ·exact X2.sub _ (.inr ⟨h3,rfl⟩)
   ·exact k2 u hu h3
  ·rcases b2 k hk with (h | ⟨h,rfl⟩) | h
   ·exact .inl h
   ·exact .inr (by rw [←h];simp)
   ·exact .inr (by simp [h])
theorem LkJ.mono {i:Int} (h:LkJ W φ s S i) (hS:∀ k,S k→S' k) (he:∀ p ∈ s.ep,p ∈ s'.ep):LkJ W φ s' S' i:=
 ⟨fun hk v hv h3=>hS _ (h.1 hk v hv h3),fun hk v hv h3=>hS _ (h.2.1 hk v hv h3),fun hk=>he _ (h.2.2 hk)⟩
theorem getLastD_mem {l:List Int} (h:l≠[]):l.getLastD 0 ∈ l∧l=l.dropLast ++ [l.getLastD 0]:=by
 have e:l.getLastD 0=l.getLast h:=by
  cases l with
  | nil=>exact (h rfl).elim
  | cons a l=>rw [List.getLastD_cons,List.getLast_eq_getLastD]
 rw [e]
 exact ⟨List.getLast_mem h,(List.dropLast_concat_getLast h).symm⟩
theorem Mk.pop (R:Rep O W φ) (hal:Closed W.nd qw Al) (M:Mk O W φ Al Ex s S) (hne:s.st≠[]) :
  ∃ S',Mk O W φ Al Ex (jPop O.ar s) S'∧(∀ k,S k→S' k)∧(∀ p ∈ s.ep,p ∈ (jPop O.ar s).ep)∧jM (jPop O.ar s)+1=jM s∧fals (jPop O.ar s).lv≤fals s.lv:=by
 obtain ⟨hm,he⟩:=getLastD_mem hne
 obtain ⟨i,hi,hp⟩:=M.st _ hm
 have hl:=M.sl i hi
 have hth:=R.th i hl
 have hmm:jM { s with st:=s.st.dropLast } + 1=jM s:=by
  unfold jM
  dsimp only
  rw [List.length_dropLast]
  have:0<s.st.length:=List.length_pos_iff.2 hne
  omega
 have M0:Mk O W φ Al (fun k=>Ex k∨k=i) { s with st:=s.st.dropLast } S:=⟨M.len,M.at_,M.sl,M.al,fun p hp=>M.st p (by rw [he];simp [show p ∈ s.st.dropLast from hp]),M.ep,fun k hk=>by
  rcases M.done k hk with h | h | h
  ·exact .inl (.inl h)
  ·by_cases ek:k=i
   ·exact .inl (.inr ek)
   ·rw [he] at h
    rcases List.mem_append.1 h with h | h
    ·exact .inr (.inl h)
    ·exact (ek (R.inj k i (M.sl k hk) hl (by rw [List.mem_singleton.1 h,←hp]))).elim
  ·exact .inr (.inr h)⟩
 generalize hs0:({ s with st:=s.st.dropLast }:Gs)=s0 at *
 have hep:s0.ep=s.ep:=by rw [←hs0]
 have hlv:s0.lv=s.lv:=by rw [←hs0]
 have fin:∀ {t:Gs} {T:Int→Prop},Mk O W φ Al (fun k=>Ex k∨k=i) t T→LkJ W φ t T i→Mk O W φ Al Ex t T:=fun {t T} M1 hL=>
  ⟨M1.len,M1.at_,M1.sl,M1.al,M1.st,M1.ep,fun k hk=>by
   rcases M1.done k hk with (h | rfl) | h
   ·exact .inl h
   ·exact .inr (.inr hL)
   ·exact .inr h⟩
 have okf:∀ v ∈ (W.th i).fs,W.okV v:=fun v hv=>R.hw.tv i hl v hv
 unfold jPop
 rw [hs0,←hp]
 unfold jLook
 rw [hth]
 dsimp only
 by_cases k12:(W.th i).k=1∨(W.th i).k=2
 ·rw [if_pos k12,R.fields hl]
  obtain ⟨S1,M1,X1,e1,k1,b1⟩:=Mk.marks R (W.th i).fs M0 (fun v hv=>⟨okf v hv,fun h3=>hal i _ (M.al i hi) (.inl ⟨k12,by show ((3,v.2):Vl) ∈ (W.th i).fs;rw [←h3];exact hv⟩)⟩)
  refine ⟨S1,fin M1 ⟨fun _=>k1,fun h=>by omega,fun h=>by omega⟩,X1.sub,fun p hp=>by rw [e1,hep];exact hp,by rw [X1.m];exact hmm,by rw [←hlv];exact X1.f⟩
 ·rw [if_neg k12]
  by_cases k3:(W.th i).k=3
  ·rw [if_pos k3]
   have h2:=Wd.two R.hw hl (.inl k3)
   have hj:(W.th i).fs[1]? = some (W.th i).fs[1]:=List.getElem?_eq_getElem (by omega)
   have hld:=R.fl i hl 1 _ hj
   rw [show φ i+1+((1:Nat):Int)=φ i+2 by omega] at hld
   rw [hld]
   obtain ⟨M1,X1,e1,_⟩:=M0.mark R (okf _ (List.mem_of_getElem? hj)) (fun h3=>hal i _ (M.al i hi) (.inr (.inl ⟨k3,by
    show (W.th i).fs[1]? = _
    rw [hj];congr 1;exact Prod.ext h3 rfl⟩)))
   refine ⟨_,fin M1 ⟨fun h=>(k12 h).elim,fun _ v hv h3=>?_,fun h=>by omega⟩,X1.sub,fun p hp=>by rw [e1,hep];exact hp,by rw [X1.m];exact hmm,by rw [←hlv];exact X1.f⟩
   rw [hj] at hv;cases hv
   exact .inr ⟨h3,rfl⟩
  ·rw [if_neg k3]
   by_cases k4:(W.th i).k=4
   ·rw [if_pos k4]
    have M1:Mk O W φ Al (fun k=>Ex k∨k=i) { s0 with ep:=s0.ep ++ [φ i] } S:=⟨M0.len,M0.at_,M0.sl,M0.al,M0.st,fun p hp=>by
     rcases List.mem_append.1 hp with h | h
     ·exact M0.ep p h
     ·rw [List.mem_singleton.1 h];exact ⟨i,hi,k4,rfl⟩,fun k hk=>by
     rcases M0.done k hk with h | h | h
     ·exact .inl h
     ·exact .inr (.inl h)
     ·exact .inr (.inr (h.mono (fun _ h=>h) (fun p hp=>by simp [hp])))⟩
    exact ⟨S,fin M1 ⟨fun h=>(k12 h).elim,fun h=>(k3 h).elim,fun _=>by simp⟩,fun _ h=>h,fun p hp=>by rw [←hep] at hp;simp [hp],hmm,by rw [←hlv];exact Nat.le_refl _⟩
   ·rw [if_neg k4]
    exact ⟨S,fin M0 ⟨fun h=>(k12 h).elim,fun h=>(k3 h).elim,fun h=>(k4 h).elim⟩,fun _ h=>h,fun p hp=>by rw [hep];exact hp,hmm,by rw [←hlv];exact Nat.le_refl _⟩
theorem Mk.pops (R:Rep O W φ) (hal:Closed W.nd qw Al):∀ (n:Nat) {s:Gs} {S:Int→Prop},Mk O W φ Al Ex s S→jM s<n →
  ∃ S',Mk O W φ Al Ex (jPops O.ar n s) S'∧(∀ k,S k→S' k)∧(∀ p ∈ s.ep,p ∈ (jPops O.ar n s).ep)∧(jPops O.ar n s).st=[]∧fals (jPops O.ar n s).lv≤fals s.lv
 | 0,s,S,M,hn=>by omega
 | n+1,s,S,M,hn=>by
  unfold jPops
  by_cases hne:s.st=[]
  ·rw [if_pos hne]
   exact ⟨S,M,fun _ h=>h,fun _ h=>h,hne,Nat.le_refl _⟩
  ·rw [if_neg hne]
   obtain ⟨S1,M1,s1,e1,m1,f1⟩:=M.pop R hal hne
   obtain ⟨S2,M2,s2,e2,t2,f2⟩:=Mk.pops R hal n M1 (by omega)
   exact ⟨S2,M2,fun k hk=>s2 k (s1 k hk),fun p hp=>e2 p (e1 p hp),t2,by omega⟩
theorem Mk.ephs (R:Rep O W φ) (hal:Closed W.nd qw Al):∀ (l:List Int) {s:Gs} {S:Int→Prop},Mk O W φ Al Ex s S→(∀ p ∈ l, ∃ i,S i∧(W.th i).k=4∧φ i=p) →
  ∃ S',Mk O W φ Al Ex (jEph O.ar s l) S'∧MX s S (jEph O.ar s l) S'∧(jEph O.ar s l).ep=s.ep ∧
   ∀ i,S i→(W.th i).k=4→φ i ∈ l→(∀ v,(W.th i).fs[0]? = some v→v.1=3→S v.2)→∀ v,(W.th i).fs[1]? = some v→v.1=3→S' v.2
 | [],s,S,M,hl=>⟨S,M,MX.refl,rfl,fun i _ _ h=>by cases h⟩
 | p :: l,s,S,M,hl=>by
  obtain ⟨i,hi,k4,rfl⟩:=hl p (by simp)
  have hli:=M.sl i hi
  have h2:=Wd.two R.hw hli (.inr (.inl k4))
  have hj0:(W.th i).fs[0]? = some (W.th i).fs[0]:=List.getElem?_eq_getElem (by omega)
  have hj1:(W.th i).fs[1]? = some (W.th i).fs[1]:=List.getElem?_eq_getElem (by omega)
  have ok0:=R.hw.tv i hli _ (List.mem_of_getElem? hj0)
  have ok1:=R.hw.tv i hli _ (List.mem_of_getElem? hj1)
  have l0:=R.fl i hli 0 _ hj0
  have l1:=R.fl i hli 1 _ hj1
  rw [show φ i+1+((0:Nat):Int)=φ i+1 by omega] at l0
  rw [show φ i+1+((1:Nat):Int)=φ i+2 by omega] at l1
  have step:∃ S1,Mk O W φ Al Ex (jEph1 O.ar s (φ i)) S1∧MX s S (jEph1 O.ar s (φ i)) S1∧(jEph1 O.ar s (φ i)).ep=s.ep∧((∀ v,(W.th i).fs[0]? = some v→v.1=3→S v.2)→∀ v,(W.th i).fs[1]? = some v→v.1=3→S1 v.2):=by
   unfold jEph1
   rw [l0,l1]
   have ha:=M.alive R ok0
   by_cases hm:jAlive s (encV φ (W.th i).fs[0])=true
   ·rw [if_pos hm]
    obtain ⟨M1,X1,e1,_⟩:=M.mark R ok1 (fun h3=>hal i _ (M.al i hi) (.inr (.inr (.inl ⟨k4,by
     show (W.th i).fs[1]? = _
     rw [hj1];congr 1;exact Prod.ext h3 rfl,fun v hv h5=>by
     have hv':(W.th i).fs[0]? = some v:=hv
     rw [hj0] at hv';cases hv'
     exact M.al _ (ha.1 hm h5)⟩))))
    exact ⟨_,M1,X1,e1,fun _ v hv h3=>by rw [hj1] at hv;cases hv;exact .inr ⟨h3,rfl⟩⟩
   ·rw [if_neg hm]
    exact ⟨S,M,MX.refl,rfl,fun h=>(hm (ha.2 (fun h3=>h _ hj0 h3))).elim⟩
  obtain ⟨S1,M1,X1,e1,k1⟩:=step
  obtain ⟨S2,M2,X2,e2,k2⟩:=Mk.ephs R hal l M1 (fun p hp=>by
   obtain ⟨k,h3,h4,h5⟩:=hl p (by simp [hp])
   exact ⟨k,X1.sub k h3,h4,h5⟩)
  have e:jEph O.ar s (φ i :: l)=jEph O.ar (jEph1 O.ar s (φ i)) l:=rfl
  rw [e]
  refine ⟨S2,M2,X1.trans X2,e2.trans e1,fun k hk k4' hkl hkey v hv h3=>?_⟩
  rcases List.mem_cons.1 hkl with h | h
  ·have:=R.inj k i (M.sl k hk) hli h
   subst this
   exact X2.sub _ (k1 hkey v hv h3)
  ·exact k2 k (X1.sub k hk) k4' h (fun v hv h3=>X1.sub _ (hkey v hv h3)) v hv h3
theorem Mk.wake (R:Rep O W φ) (hal:Closed W.nd qw Al) (hqw:∀ e ∈ qw,W.okE e):∀ (m:List (Int × Int)) {s:Gs} {S:Int→Prop},Mk O W φ Al Ex s S→(∀ f ∈ m,f ∈ qw) →
  ∃ S',Mk O W φ Al Ex (wakeM jAlive jKp s (m.map (encE φ))).1 S'∧MX s S (wakeM jAlive jKp s (m.map (encE φ))).1 S'∧∀ f ∈ m,S f.1→S' f.2
 | [],s,S,M,hm=>⟨S,M,MX.refl,fun f h=>by cases h⟩
 | f :: m,s,S,M,hm=>by
  have hf:=hqw f (hm f (by simp))
  have okg:W.okV (3,f.1):=.inr (.inr (.inr ⟨rfl,hf.1⟩))
  have okt:W.okV (3,f.2):=.inr (.inr (.inr ⟨rfl,hf.2.2⟩))
  have ag:=M.alive R okg
  have at_:=M.alive R okt
  simp only [forall_const] at ag at_
  rw [List.map_cons]
  unfold wakeM
  rw [encE_eq]
  dsimp only
  by_cases hc:(jAlive s (encV φ (3,f.1)) && !jAlive s (encV φ (3,f.2)))=true
  ·rw [if_pos hc]
   rw [Bool.and_eq_true] at hc
   have hg:=ag.1 hc.1
   obtain ⟨M1,X1,e1,_⟩:=M.mark R okt (fun _=>hal f.1 _ (M.al _ hg) (.inr (.inr (.inr ⟨hf.2.1,by show (f.1,f.2) ∈ qw;exact hm f (by simp)⟩))))
   obtain ⟨S2,M2,X2,k2⟩:=Mk.wake R hal hqw m M1 (fun f hf=>hm f (by simp [hf]))
   refine ⟨S2,M2,X1.trans X2,fun f' hf' hs=>?_⟩
   rcases List.mem_cons.1 hf' with rfl | h
   ·exact X2.sub _ (.inr ⟨rfl,rfl⟩)
   ·exact k2 f' h (X1.sub _ hs)
  ·rw [if_neg hc]
   obtain ⟨S2,M2,X2,k2⟩:=Mk.wake R hal hqw m M (fun f hf=>hm f (by simp [hf]))
   refine ⟨S2,M2,X2,fun f' hf' hs=>?_⟩
   rcases List.mem_cons.1 hf' with rfl | h
   ·have h1:=ag.2 hs
    rw [h1] at hc
    simp at hc
    exact X2.sub _ (at_.1 hc)
   ·exact k2 f' h hs
theorem fals_mono:∀ {l m:List Bool},l.length=m.length→(∀ i,l.getD i false=true→m.getD i false=true)→fals m≤fals l∧(fals m=fals l→m=l)
 | [],[],_,_=>⟨Nat.le_refl _,fun _=>rfl⟩
 | a :: l,b :: m,hl,h=>by
  have ih:=fals_mono (l:=l) (m:=m) (by simpa using hl) (fun i hi=>by have:=h (i+1);simpa using this (by simpa using hi))
  have h0:=h 0
  simp only [List.getD_cons_zero] at h0
  unfold fals at *
  cases a <;> cases b <;> simp [List.filter_cons] at * <;> first | exact ih | (refine ⟨by omega,fun h=>by omega⟩)
 | [],b :: m,hl,_=>by simp at hl
 | a :: l,[],hl,_=>by simp at hl
theorem Mk.same (R:Rep O W φ) (M:Mk O W φ Al Ex s S) (M':Mk O W φ Al Ex s' S') (X:MX s S s' S') (h1:s.st=[]) (h2:s'.st=[]):∀ k,S' k→S k:=by
 have hm:=X.m
 unfold jM at hm
 rw [h1,h2] at hm
 simp only [List.length_nil,Nat.zero_add] at hm
 have e:=(fals_mono (l:=s.lv) (m:=s'.lv) (M.len.trans M'.len.symm) (fun i hi=>by
  rw [←atB_nat] at hi ⊢
  obtain ⟨k,hk,e⟩:=(M.at_ _).1 hi
  exact (M'.at_ _).2 ⟨k,X.sub k hk,e⟩)).2 hm
 intro k hk
 have h3:atB s.lv (φ k)=true:=by rw [←e];exact (M'.at_ _).2 ⟨k,hk,rfl⟩
 obtain ⟨j,hj,ej⟩:=(M.at_ _).1 h3
 rw [←R.inj j k (M.sl j hj) (M'.sl k hk) ej];exact hj
theorem jPops_none {A:Ar}:∀ (n:Nat) {s:Gs},s.st=[]→jPops A n s=s
 | 0,s,h=>rfl
 | n+1,s,h=>by unfold jPops;rw [if_pos h]
theorem Mk.round (R:Rep O W φ) (hal:Closed W.nd qw Al) (hqw:∀ e ∈ qw,W.okE e) (M:Mk O W φ Al (fun _=>False) s S) (hm:jM s<2000) :
  ∃ S',Mk O W φ Al (fun _=>False) (jRound O.ar (qw.map (encE φ)) s) S'∧(∀ k,S k→S' k)∧jM (jRound O.ar (qw.map (encE φ)) s)≤fals s.lv∧((jRound O.ar (qw.map (encE φ)) s).st=[]→Closed W.nd qw S'):=by
 obtain ⟨S1,M1,s1,e1,t1,f1⟩:=M.pops R hal 2000 hm
 obtain ⟨S2,M2,X2,e2,k2⟩:=Mk.ephs R hal (jPops O.ar 2000 s).ep M1 M1.ep
 obtain ⟨S3,M3,X3,k3⟩:=Mk.wake R hal hqw qw M2 (fun f h=>h)
 have X:=X2.trans X3
 have e:jRound O.ar (qw.map (encE φ)) s=(wakeM jAlive jKp (jEph O.ar (jPops O.ar 2000 s) (jPops O.ar 2000 s).ep) (qw.map (encE φ))).1:=rfl
 rw [e]
 refine ⟨S3,M3,fun k hk=>X.sub k (s1 k hk),?_,fun hst=>?_⟩
 ·rw [X.m]
  unfold jM
  rw [t1]
  simpa using f1
 ·have b1:=M1.same R M3 X t1 hst
  have b2:∀ k,S3 k→S2 k:=fun k hk=>X2.sub k (b1 k hk)
  intro i j hi hl
  have hi1:=b1 i hi
  have L:LkJ W φ (jPops O.ar 2000 s) S1 i:=by
   rcases M1.done i hi1 with h | h | h
   ·exact h.elim
   ·rw [t1] at h;cases h
   ·exact h
  have up:∀ k,S1 k→S3 k:=X.sub
  rcases hl with ⟨hk,hm⟩ | ⟨hk,hm⟩ | ⟨hk,hm,hkey⟩ | ⟨hk,hm⟩
  ·exact up _ (L.1 hk (3,j) hm rfl)
  ·exact up _ (L.2.1 hk (3,j) hm rfl)
  ·exact X3.sub _ (k2 i hi1 hk (L.2.2 hk) (fun v hv h3=>b1 _ (hkey v hv h3)) (3,j) hm rfl)
  ·exact k3 (i,j) hm (b2 i hi)
theorem Mk.drain (R:Rep O W φ) (hal:Closed W.nd qw Al) (hqw:∀ e ∈ qw,W.okE e):∀ (n:Nat) {s:Gs} {S:Int→Prop},Mk O W φ Al (fun _=>False) s S→jM s<2000→fals s.lv<n →
  ∃ S',Mk O W φ Al (fun _=>False) (jDrain O.ar (qw.map (encE φ)) n s) S'∧(∀ k,S k→S' k)∧(jDrain O.ar (qw.map (encE φ)) n s).st=[]∧Closed W.nd qw S'
 | 0,s,S,M,hm,hn=>by omega
 | n+1,s,S,M,hm,hn=>by
  obtain ⟨S1,M1,s1,m1,c1⟩:=M.round R hal hqw hm
  unfold jDrain
  by_cases hst:(jRound O.ar (qw.map (encE φ)) s).st=[]
  ·rw [if_pos hst]
   exact ⟨S1,M1,s1,hst,c1 hst⟩
  ·rw [if_neg hst]
   have hpos:=List.length_pos_iff.2 hst
   unfold jM at m1 hm
   obtain ⟨S2,M2,s2,t2,c2⟩:=Mk.drain R hal hqw n M1 (by unfold jM;omega) (by omega)
   exact ⟨S2,M2,fun k hk=>s2 k (s1 k hk),t2,c2⟩
structure Js (O:Wo) (W:Wd) (φ:Int→Int) (s:Gs) (is:List Bool) (qw:List (Int × Int)):Prop where
 M:Mk O W φ (fun k=>atB is k=true) (fun _=>False) s (fun k=>atB is k=true)
 st:s.st=[]
 shut:Closed W.nd qw fun k=>atB is k=true
 len:is.length=W.T.length
 ok:∀ e ∈ qw,W.okE e
theorem Mk.setAl (M:Mk O W φ Al Ex s S) {Bl:Int→Prop} (h:∀ k,S k→Bl k):Mk O W φ Bl Ex s S:=⟨M.len,M.at_,M.sl,h,M.st,M.ep,M.done⟩
theorem Mk.drainP (R:Rep O W φ) (hqw:∀ e ∈ qw,W.okE e) {is:List Bool} (hlen:is.length=W.T.length) (hS:∀ k,S k↔atB is k=true)
  (M:Mk O W φ Al (fun _=>False) s S) (hm:jM s≤1280):Js O W φ (jDrain O.ar (qw.map (encE φ)) 2000 s) (W.clo qw is) qw:=by
 have M':=M.setAl (Bl:=fun k=>Alive W.nd qw (fun k=>atB is k=true) k) (fun k hk=>Alive.base ((hS k).1 hk))
 obtain ⟨S1,M1,s1,t1,c1⟩:=M'.drain R (Alive.closed W.nd qw _) hqw 2000 (by omega) (by unfold jM at hm;omega)
 have e:S1=fun k=>atB (W.clo qw is) k=true:=by
  funext k
  refine propext ⟨fun hk=>?_,fun hk=>?_⟩
  ·have hl:=M1.sl k hk
   exact cloL_at.2 ⟨hl.1,by rw [hlen];exact hl.2.1,M1.al k hk⟩
  ·exact (cloL_at.1 hk).2.2.least (fun j hj=>s1 j ((hS j).2 hj)) c1
 subst e
 exact ⟨M1.setAl (fun k hk=>hk),t1,c1,by unfold Wd.clo;rw [cloL_length,hlen],hqw⟩
theorem Js.m {is:List Bool} (h:Js O W φ s is qw) (hO:O.ok):jM s≤1280:=by
 unfold jM
 rw [h.st]
 have:=fals_le s.lv
 have:=h.M.len
 have:=hO.ha.h4
 simp;omega
theorem fals_new (n:Nat):fals (List.replicate n false)=n:=by unfold fals;simp
theorem Rep.jpre (R:Rep O W φ):Js O W φ (jPre O) (W.clo W.wait (W.first true)) W.wait:=by
 have hflen:(W.first true).length=W.T.length:=Wd.first_length W true
 have M0:Mk O W φ (fun _=>True) (fun _=>False) ⟨List.replicate O.ar.ws.length false,[],[]⟩ (fun _=>False):=
  ⟨by simp,fun p=>by
   constructor
   ·intro h
    unfold atB at h
    simp only [List.getD_eq_getElem?_getD,List.getElem?_replicate] at h
    split at h <;> simp at h
   ·rintro ⟨_,h,_⟩;exact h.elim,fun _ h=>h.elim,fun _ h=>h.elim,(by intro p h;cases h),(by intro p h;cases h),fun _ h=>h.elim⟩
 obtain ⟨S1,M1,X1,e1,k1,b1⟩:=Mk.marks R W.roots M0 (fun v hv=>⟨R.hw.rv v hv,fun _=>trivial⟩)
 have hS1:∀ k,S1 k↔atB (W.first true) k=true:=fun k=>by
  rw [Wd.first_at]
  constructor
  ·intro hk
   have hl:=M1.sl k hk
   refine ⟨hl.1,hl.2.1, .inr ?_⟩
   rcases b1 k hk with h | h
   ·exact h.elim
   ·exact h
  ·rintro ⟨h0,h4,h5 | h5⟩
   ·cases h5.2.2
   ·exact k1 _ h5 rfl
 unfold jPre
 rw [R.wt,R.rt]
 refine M1.drainP R R.hw.wv hflen hS1 ?_
 rw [X1.m]
 unfold jM
 dsimp only
 rw [fals_new]
 have:=R.ho.ha.h4
 simp;omega
theorem Js.keep (R:Rep O W φ) {is:List Bool} (P:Js O W φ s is qw) {x g:Int} (hx:W.live x) (hg:W.live g) (hk:(W.th g).k=5) :
  Js O W φ (jKeep O.ar s (qw.map (encE φ)) (encV φ (3,x))).1 (W.clo qw (is.set x.toNat true)) (qw ++ [(g,x)]):=by
 have okx:W.okV (3,x):=.inr (.inr (.inr ⟨rfl,hx⟩))
 obtain ⟨M1,X1,e1,_⟩:=(P.M.setAl (Bl:=fun _=>True) (fun _ _=>trivial)).mark R okx (fun _=>trivial)
 have hS1:∀ k,(atB is k=true∨((3:Int)=3∧k=x))↔atB (is.set x.toNat true) k=true:=fun k=>by
  rw [atB_set hx.1 (by rw [P.len];exact hx.2.1)]
  constructor
  ·rintro (h | ⟨_,h⟩)
   ·exact .inr h
   ·exact .inl h
  ·rintro (h | h)
   ·exact .inr ⟨rfl,h⟩
   ·exact .inl h
 have P2:=M1.drainP R P.ok (by rw [List.length_set];exact P.len) hS1 (by rw [X1.m];exact P.m R.ho)
 have hxin:atB (W.clo qw (is.set x.toNat true)) x=true:=cloL_at.2 ⟨hx.1,by rw [List.length_set,P.len];exact hx.2.1,Alive.base ((hS1 x).1 (.inr ⟨rfl,rfl⟩))⟩
 refine ⟨P2.M,P2.st,?_,P2.len,fun e he=>?_⟩
 ·intro a b ha hl
  by_cases hb:b=x
  ·subst hb;exact hxin
  ·refine P2.shut a b ha ?_
   rcases hl with h | h | h | ⟨h,h'⟩
   ·exact .inl h
   ·exact .inr (.inl h)
   ·exact .inr (.inr (.inl h))
   ·refine .inr (.inr (.inr ⟨h,?_⟩))
    rcases List.mem_append.1 h' with h4 | h4
    ·exact h4
    ·simp at h4;exact absurd h4.2 hb
 ·rcases List.mem_append.1 he with h | h
  ·exact P.ok e h
  ·rw [List.mem_singleton.1 h];exact ⟨hg,hk,hx⟩
theorem Js.alive (R:Rep O W φ) {is:List Bool} (P:Js O W φ s is qw) {x:Int} (hx:W.live x):jAlive s (encV φ (3,x))=atB is x:=by
 have:=P.M.alive R (v:=(3,x)) (.inr (.inr (.inr ⟨rfl,hx⟩)))
 simp only [forall_const] at this
 rw [Bool.eq_iff_iff]
 exact this
theorem Js.scan (R:Rep O W φ):∀ (l:List It) {s:Gs} {is:List Bool} {qw:List (Int × Int)},Js O W φ s is qw→(∀ i ∈ l,W.okE i.1) →
  Js O W φ (scanM jAlive (jKeep O.ar) s (qw.map (encE φ)) (l.map (encI φ))).1 (scanM atB W.keepW is qw l).1 (scanM atB W.keepW is qw l).2.1 ∧
   (scanM jAlive (jKeep O.ar) s (qw.map (encE φ)) (l.map (encI φ))).2.1=(scanM atB W.keepW is qw l).2.1.map (encE φ) ∧
   (scanM jAlive (jKeep O.ar) s (qw.map (encE φ)) (l.map (encI φ))).2.2.1=(scanM atB W.keepW is qw l).2.2.1.map (encI φ)∧(scanM jAlive (jKeep O.ar) s (qw.map (encE φ)) (l.map (encI φ))).2.2.2=(scanM atB W.keepW is qw l).2.2.2
 | [],s,is,qw,P,_=>⟨P,rfl,rfl,rfl⟩
 | i :: l,s,is,qw,P,hl=>by
  have hi:=hl i (by simp)
  have ea:jAlive s (encI φ i).1.1=atB is i.1.1:=by
   show jAlive s (encE φ i.1).1=_
   rw [encE_eq];exact P.alive R hi.1
  simp only [List.map_cons,scanM]
  rw [ea]
  have e2:(encI φ i).2=i.2:=rfl
  rw [e2]
  by_cases hc:(i.2.1 && !i.2.2 && atB is i.1.1)=true
  ·rw [if_pos hc,if_pos hc]
   have P1:=P.keep R hi.2.2 hi.1 hi.2.1
   have e3:(encI φ i).1.2=encV φ (3,i.1.2):=by show (encE φ i.1).2=_;rw [encE_eq]
   have e4:(encI φ i).1.1=encV φ (3,i.1.1):=by show (encE φ i.1).1=_;rw [encE_eq]
   have eq1:(jKeep O.ar s (qw.map (encE φ)) (encI φ i).1.2).2.1 ++ [((encI φ i).1.1,(jKeep O.ar s (qw.map (encE φ)) (encI φ i).1.2).2.2)]=(qw ++ [(i.1.1,i.1.2)]).map (encE φ):=by
    rw [List.map_append]
    show qw.map (encE φ) ++ [((encI φ i).1.1,(encI φ i).1.2)]=_
    rfl
   rw [eq1,e3]
   obtain ⟨P2,h0,h1,h2⟩:=Js.scan R l P1 (fun j hj=>hl j (by simp [hj]))
   refine ⟨P2,h0,?_,rfl⟩
   dsimp only
   rw [h1];rfl
  ·rw [if_neg hc,if_neg hc]
   obtain ⟨P2,h0,h1,h2⟩:=Js.scan R l P (fun j hj=>hl j (by simp [hj]))
   refine ⟨P2,h0,?_,h2⟩
   dsimp only
   rw [h1];rfl
theorem Js.rounds (R:Rep O W φ):∀ (n:Nat) (l:List It) {s:Gs} {is:List Bool} {qw:List (Int × Int)},Js O W φ s is qw→(∀ i ∈ l,W.okE i.1) →
  Js O W φ (roundsM jAlive (jKeep O.ar) n s (qw.map (encE φ)) (l.map (encI φ))).1 (roundsM atB W.keepW n is qw l).1 (roundsM atB W.keepW n is qw l).2.1 ∧
   (roundsM jAlive (jKeep O.ar) n s (qw.map (encE φ)) (l.map (encI φ))).2.1=(roundsM atB W.keepW n is qw l).2.1.map (encE φ) ∧
   (roundsM jAlive (jKeep O.ar) n s (qw.map (encE φ)) (l.map (encI φ))).2.2=(roundsM atB W.keepW n is qw l).2.2.map (encI φ)
 | 0,l,s,is,qw,P,hl=>⟨P,rfl,rfl⟩
 | n+1,l,s,is,qw,P,hl=>by
  obtain ⟨P1,h0,h1,h2⟩:=P.scan R l hl
  have hl1:=scan_items is qw hl
  simp only [roundsM]
  rw [h2]
  by_cases hc:(scanM atB W.keepW is qw l).2.2.2=true
  ·rw [if_pos hc,if_pos hc,h1,h0]
   exact Js.rounds R n _ P1 hl1
  ·rw [if_neg hc,if_neg hc]
   exact ⟨P1,h0,h1⟩
theorem Rep.jpasses (R:Rep O W φ):Js O W φ (jPass O).1 (W.pass true).1 (W.pass true).2.1∧(jPass O).2.1=(W.pass true).2.1.map (encE φ)∧(jPass O).2.2=(W.pass true).2.2.map (encI φ):=by
 have P0:=R.jpre
 have e:itemsM jAlive (jPre O) O.rg=(itemsM atB (W.clo W.wait (W.first true)) W.regs).map (encI φ):=by
  unfold itemsM
  rw [R.rg,List.map_map,List.map_map]
  refine List.map_congr_left fun e he=>?_
  have:=R.hw.gv e he
  show (encE φ e,!jAlive _ (encE φ e).2,false)=(encE φ e,!atB _ e.2,false)
  rw [show (encE φ e).2=encV φ (3,e.2) by rw [encE_eq],P0.alive R this.2.2]
 have hlen:O.rg.length=W.regs.length:=by rw [R.rg];simp
 unfold jPass Wd.pass passM
 rw [e,hlen,R.wt]
 exact P0.rounds R _ _ (fun i hi=>by
  simp only [itemsM,List.mem_map] at hi
  obtain ⟨e,he,rfl⟩:=hi
  exact R.hw.gv e he)
end
end
section
def Sit (sz f:Int→Int):List Int→Int→Int→Prop
 | [],a,b=>a=b
 | p :: l,a,b=>f p=a∧Sit sz f l (a+sz p) b
theorem Sit.le {sz f:Int→Int} (h0:∀ p,0≤sz p):∀ {l:List Int} {a b:Int},Sit sz f l a b→a≤b
 | [],a,b,h=>by have h:a=b:=h;omega
 | p :: l,a,b,h=>by have:=Sit.le h0 h.2;have:=h0 p;omega
theorem Sit.mem {sz f:Int→Int} (h0:∀ p,0≤sz p):∀ {l:List Int} {a b:Int},Sit sz f l a b→∀ p ∈ l,a≤f p∧f p+sz p≤b
 | q :: l,a,b,h,p,hp=>by
  rcases List.mem_cons.1 hp with rfl | hp
  ·have:=Sit.le h0 h.2;have:=h.1;omega
  ·have:=Sit.mem h0 h.2 p hp;have:=h0 q;omega
def lookT (f:List Int) (p:Int):Int:=f.getD p.toNat 0
theorem jPlan_spec {A:Ar} {lv:List Bool} {base:Int}:∀ {l:List Int} {t:List Int × Int},l.Nodup→(∀ p ∈ l,0≤p∧p<t.1.length) →
  Sit (fun p=>1+(A.thing p).2.1) (lookT (jPlan A lv base l t).1) (l.filter fun i=>atB lv i) (base+t.2) (base+(jPlan A lv base l t).2)∧(∀ q,0≤q→¬ q ∈ l→lookT (jPlan A lv base l t).1 q=lookT t.1 q)∧(jPlan A lv base l t).1.length=t.1.length
 | [],t,_,_=>⟨rfl,fun _ _ _=>rfl,rfl⟩
 | i :: l,t,hn,hr=>by
  rw [List.nodup_cons] at hn
  have hi:=hr i (by simp)
  unfold jPlan
  by_cases hc:atB lv i=true
  ·rw [if_pos hc,List.filter_cons,if_pos hc]
   obtain ⟨h1,h2,h3⟩:=jPlan_spec (A:=A) (lv:=lv) (base:=base) (l:=l) (t:=(t.1.set i.toNat (base+t.2),t.2+(1+(A.thing i).2.1))) hn.2 (fun p hp=>by
    have:=hr p (by simp [hp]);simpa using this)
   refine ⟨⟨?_,?_⟩,fun q hq hqi=>?_,by rw [h3];simp⟩
   ·rw [h2 i hi.1 hn.1]
    unfold lookT
    dsimp only
    rw [List.getD_eq_getElem?_getD,List.getElem?_set_self (by omega)]
    rfl
   ·have e:base+t.2+(1+(A.thing i).2.1)=base+(t.2+(1+(A.thing i).2.1)):=by omega
    rw [e];exact h1
   ·rw [List.mem_cons,not_or] at hqi
    rw [h2 q hq hqi.2]
    unfold lookT
    dsimp only
    rw [List.getD_eq_getElem?_getD,List.getD_eq_getElem?_getD,List.getElem?_set_ne (by omega)]
  ·rw [if_neg hc,List.filter_cons,if_neg hc]
   obtain ⟨h1,h2,h3⟩:=jPlan_spec (A:=A) (lv:=lv) (base:=base) (l:=l) (t:=t) hn.2 (fun p hp=>hr p (by simp [hp]))
   exact ⟨h1,fun q hq hqi=>h2 q hq (fun h=>hqi (by simp [h])),h3⟩
def wd (A:Ar) (i:Int):Int:=A.ws.getD i.toNat 0
def Slid (sz:Int→Int) (n:Int):List Int→Int→Prop
 | [],_=>True
 | p :: l,a=>0≤a∧0≤p∧p+sz p≤n∧a+sz p≤n∧(∀ q ∈ l,a+sz p≤q∨q+sz q≤a)∧Slid sz n l (a+sz p)
theorem slide1_spec {A:Ar} {f:List Int} {p a:Int} (hf:lookT f p=a) (h0:0≤a) (hp:0≤p) (h1:p+(1+(A.thing p).2.1)≤A.ws.length) (h2:a+(1+(A.thing p).2.1)≤A.ws.length) :
  (jSlide1 f A p).ws.length=A.ws.length∧(∀ x,0≤x→wd (jSlide1 f A p) x=if a≤x∧x<a+(1+(A.thing p).2.1) then wd A (p+(x-a)) else wd A x)∧(∀ x ∈ (jSlide1 f A p).ws,x ∈ A.ws)∧(jSlide1 f A p).nur=A.nur∧(jSlide1 f A p).yng=A.yng∧(jSlide1 f A p).grn=A.grn:=by
 have hn:=A.thing_fields p
 have hl:((A.ws.drop p.toNat).take (1+(A.thing p).2.1).toNat).length=(1+(A.thing p).2.1).toNat:=by simp;omega
 unfold lookT at hf
 have hle:a.toNat+((A.ws.drop p.toNat).take (1+(A.thing p).2.1).toNat).length≤A.ws.length:=by rw [hl];omega
 refine ⟨?_,fun x hx=>?_,fun x hx=>?_,rfl,rfl,rfl⟩
 ·unfold jSlide1
  rw [hf]
  exact lay_length hle
 ·unfold jSlide1 wd
  rw [hf]
  dsimp only
  rw [lay_getD hle,hl]
  by_cases hc:a≤x∧x<a+(1+(A.thing p).2.1)
  ·rw [if_pos (by omega),if_pos hc]
   simp only [List.getD_eq_getElem?_getD]
   rw [List.getElem?_take,if_pos (by omega),List.getElem?_drop]
   congr 2;omega
  ·rw [if_neg (by omega),if_neg hc]
 ·unfold jSlide1 at hx
  rw [hf] at hx
  rcases lay_mem hx with h | h
  ·exact h
  ·exact List.mem_of_mem_drop (List.mem_of_mem_take h)
theorem thing_wd {A:Ar} {p:Int} (h:A.inUse p=true):A.load p=wd A p:=by unfold Ar.load;rw [if_pos h];rfl
theorem slide_spec {f:List Int} {sz:Int→Int}:∀ {l:List Int} {a b:Int} {A:Ar},Sit sz (lookT f) l a b→Slid sz A.ws.length l a→(∀ p ∈ l,A.inUse p=true∧1+(A.thing p).2.1=sz p)→l.Nodup→(∀ p,0≤sz p) →
  (l.foldl (jSlide1 f) A).ws.length=A.ws.length∧(∀ x,0≤x→(x<a∨b≤x)→wd (l.foldl (jSlide1 f) A) x=wd A x)∧(∀ p ∈ l, ∀ j,0≤j→j<sz p→wd (l.foldl (jSlide1 f) A) (lookT f p+j)=wd A (p+j)) ∧
   (∀ x ∈ (l.foldl (jSlide1 f) A).ws,x ∈ A.ws)∧(l.foldl (jSlide1 f) A).nur=A.nur∧(l.foldl (jSlide1 f) A).yng=A.yng∧(l.foldl (jSlide1 f) A).grn=A.grn
 | [],a,b,A,_,_,_,_,_=>⟨rfl,fun _ _ _=>rfl,fun p h=>by simp at h,fun _ h=>h,rfl,rfl,rfl⟩
 | p :: l,a,b,A,hs,hd,hz,hn,h0=>by
  obtain ⟨d0,dp,d1,d2,d3,d4⟩:=hd
  have hp:=hz p (by simp)
  rw [List.nodup_cons] at hn
  obtain ⟨k1,k2,k3,k4,k5,k6⟩:=slide1_spec (A:=A) (f:=f) (p:=p) (a:=a) hs.1 d0 dp (by rw [hp.2];exact d1) (by rw [hp.2];exact d2)
  rw [hp.2] at k2
  have huse:∀ x,(jSlide1 f A p).inUse x=A.inUse x:=fun x=>by unfold Ar.inUse Ar.young Ar.old;rw [k4,k5,k6]
  have hz':∀ q ∈ l,(jSlide1 f A p).inUse q=true∧1+((jSlide1 f A p).thing q).2.1=sz q:=fun q hq=>by
   have h:=hz q (by simp [hq])
   refine ⟨by rw [huse];exact h.1,?_⟩
   have hq0:0≤q:=by
    have:=h.1
    unfold Ar.inUse at this
    rw [Bool.or_eq_true,young_iff,old_iff] at this
    omega
   have e:(jSlide1 f A p).load q=A.load q:=by
    rw [thing_wd h.1,thing_wd (by rw [huse];exact h.1),k2 q hq0,if_neg]
    have:=d3 q hq
    have:=h0 q;have h1:=A.thing_fields q
    omega
   rw [thing_of_load e];exact h.2
  obtain ⟨m1,m2,m3,m4,m5,m6,m7⟩:=slide_spec (f:=f) (sz:=sz) (l:=l) (a:=a+sz p) (b:=b) (A:=jSlide1 f A p) hs.2 (by rw [k1];exact d4) hz' hn.2 h0
  have hle:=Sit.le h0 hs.2
  rw [List.foldl_cons]
  refine ⟨m1.trans k1,fun x hx hxx=>?_,fun q hq j hj hjs=>?_,fun x hx=>k3 x (m4 x hx),m5.trans k4,m6.trans k5,m7.trans k6⟩
  ·have:=h0 p
   rw [m2 x hx (by omega),k2 x hx,if_neg (by omega)]
  ·rcases List.mem_cons.1 hq with rfl | hq
   ·rw [hs.1]
    rw [m2 (a+j) (by omega) (by omega),k2 (a+j) (by omega),if_pos (by omega)]
    congr 1;omega
   ·have h:=hz q (by simp [hq])
    have hq0:0≤q:=by
     have:=h.1
     unfold Ar.inUse at this
     rw [Bool.or_eq_true,young_iff,old_iff] at this
     omega
    rw [m3 q hq j hj hjs,k2 (q+j) (by omega),if_neg]
    have:=d3 q hq
    omega
def jFd (s:Gs) (f:List Int) (b:Bool) (x:Int):Int:=if (b || !jAlive s x)=true then 3 else jNow f x
theorem turnN_spec {s:Gs} {f:List Int} {b:Bool}:∀ (n:Nat) {A:Ar} (i:Int),A.ok→(∀ j:Int,0≤j→j<n→A.inUse (i+j)=true∧R64 (jFd s f b (A.load (i+j)))) →
  (jTurnN s f b n A i).ok∧(jTurnN s f b n A i).nur=A.nur∧(jTurnN s f b n A i).yng=A.yng∧(jTurnN s f b n A i).grn=A.grn∧(jTurnN s f b n A i).ws.length=A.ws.length ∧
   (∀ q,(jTurnN s f b n A i).load q=if i≤q∧q<i+n then jFd s f b (A.load q) else A.load q)
 | 0,A,i,h,_=>⟨h,rfl,rfl,rfl,rfl,fun q=>by rw [if_neg (by omega)];rfl⟩
 | n+1,A,i,h,hr=>by
  have h0:=hr 0 (by omega) (by omega)
  rw [Int.add_zero] at h0
  have e:jTurn1 s f b A i=A.store i (jFd s f b (A.load i)):=rfl
  have hok:(jTurn1 s f b A i).ok:=by rw [e];exact h.store _ _ h0.2
  have hld:∀ q,(jTurn1 s f b A i).load q=if q=i then jFd s f b (A.load i) else A.load q:=fun q=>by
   rw [e,Ar.load_store h]
   by_cases hq:q=i
   ·rw [if_pos ⟨hq,h0.1⟩,if_pos hq]
   ·rw [if_neg (fun h=>hq h.1),if_neg hq]
  have huse:∀ x,(jTurn1 s f b A i).inUse x=A.inUse x:=fun x=>by unfold Ar.inUse Ar.young Ar.old;rw [e,Ar.store_nur,Ar.store_yng,Ar.store_grn]
  obtain ⟨m1,m2,m3,m4,m5,m6⟩:=turnN_spec (s:=s) (f:=f) (b:=b) n (A:=jTurn1 s f b A i) (i+1) hok (fun j h1 h2=>by
   have:=hr (1+j) (by omega) (by omega)
   rw [huse,hld,if_neg (by omega),show i+1+j=i+(1+j) by omega]
   exact this)
  unfold jTurnN
  refine ⟨m1,m2.trans (by rw [e,Ar.store_nur]),m3.trans (by rw [e,Ar.store_yng]),m4.trans (by rw [e,Ar.store_grn]),m5.trans (by rw [e,Ar.store_len]),fun q=>?_⟩
  rw [m6 q]
  by_cases hq:q=i
  ·subst hq
   rw [if_neg (by omega),if_pos (by omega),hld,if_pos rfl]
  ·rw [hld,if_neg hq]
   by_cases hc:i+1≤q∧q<i+1+n
   ·rw [if_pos hc,if_pos (by omega)]
   ·rw [if_neg hc,if_neg (by omega)]
end
section
section
variable {O:Wo} {W:Wd} {φ:Int→Int} {A B:Ar} {s:Gs} {is:List Bool} {f:List Int} {qw:List (Int × Int)}
theorem choose_ids {φ:Int→Int} {P:Int→Prop}:∀ {l:List Int},(∀ p ∈ l, ∃ i,P i∧φ i=p)→∃ m:List Int,m.map φ=l∧∀ i ∈ m,P i
 | [],_=>⟨[],rfl,by simp⟩
 | p :: l,h=>by
  obtain ⟨i,hi,e⟩:=h p (by simp)
  obtain ⟨m,hm,hP⟩:=choose_ids (l:=l) (fun q hq=>h q (by simp [hq]))
  refine ⟨i :: m,by simp [e,hm],fun k hk=>?_⟩
  rcases List.mem_cons.1 hk with rfl | hk
  ·exact hi
  ·exact hP k hk
theorem nodup_of_map {φ:Int→Int}:∀ {l:List Int},(l.map φ).Nodup→l.Nodup
 | [],_=>List.nodup_nil
 | a :: l,h=>by
  rw [List.map_cons,List.nodup_cons] at h
  rw [List.nodup_cons]
  exact ⟨fun ha=>h.1 (List.mem_map.2 ⟨a,ha,rfl⟩),nodup_of_map h.2⟩
theorem slid_of {sz f:Int→Int} (h0:∀ p,0≤sz p) {n nur b:Int} (hb:b≤n) (hn:0≤nur):∀ {l m:List Int} {a:Int},Sit sz f (l ++ m) a b→nur≤a→(∀ p ∈ l,a≤p∧p+sz p≤n)→l.Pairwise (fun p q=>p+sz p≤q) →
  (∀ q ∈ m,0≤q∧q+sz q≤nur)→Slid sz n (l ++ m) a
 | [],[],a,_,_,_,_,_=>trivial
 | [],q :: m,a,hs,ha,hl,hp,hm=>by
  have hq:=hm q (by simp)
  have hle:=Sit.le h0 hs.2
  have h1:=h0 q
  refine ⟨by omega,hq.1,by omega,by omega,fun r hr=>.inr (by have:=hm r (by simp [show r ∈ m from hr]);omega),?_⟩
  exact slid_of h0 hb hn (l:=[]) (m:=m) hs.2 (by omega) (by simp) List.Pairwise.nil (fun r hr=>hm r (by simp [hr]))
 | p :: l,m,a,hs,ha,hl,hp,hm=>by
  have hpp:=hl p (by simp)
  have hle:=Sit.le h0 hs.2
  have h1:=h0 p
  rw [List.pairwise_cons] at hp
  refine ⟨by omega,by omega,hpp.2,by omega,fun r hr=>?_,?_⟩
  ·rcases List.mem_append.1 hr with h | h
   ·have:=hp.1 r h;left;omega
   ·right;have:=hm r h;omega
  ·exact slid_of h0 hb hn hs.2 (by omega) (fun r hr=>by have:=hp.1 r hr;have:=hl r (by simp [hr]);omega) hp.2 hm
theorem sumL_eq (is:List Bool):sumL is W.T=((((List.range W.T.length).map (Int.ofNat ·)).filter fun i=>atB is i).map fun i=>(W.th i).words).sum:=by
 rw [sum_filter]
 unfold sumL
 congr 1
 apply List.ext_getElem
 ·simp
 ·intro k h1 h2
  simp only [List.length_mapIdx] at h1
  simp only [List.getElem_mapIdx,List.getElem_map,List.getElem_range]
  have e1:W.th (Int.ofNat k)=W.T[k]:=by
   unfold Wd.th
   rw [List.getD_eq_getElem?_getD,show (Int.ofNat k).toNat=k from rfl,List.getElem?_eq_getElem h1];rfl
  have e2:atB is (Int.ofNat k)=is.getD k false:=atB_nat is k
  rw [e1,e2]
theorem Sit.sum {sz f:Int→Int}:∀ {l:List Int} {a b:Int},Sit sz f l a b→b=a+(l.map sz).sum
 | [],a,b,h=>by have h:a=b:=h;simp [h]
 | p :: l,a,b,h=>by
  have:=Sit.sum h.2
  simp only [List.map_cons,List.sum_cons];omega
theorem Sit.tile {sz:Int→Int} {φ g:Int→Int}:∀ {l:List Int} {a b:Int},Sit sz g (l.map φ) a b→(∀ i ∈ l,(A.thing (g (φ i))).2.2=0∧1+(A.thing (g (φ i))).2.1=sz (φ i))→Tile A (l.map fun i=>g (φ i)) a b
 | [],a,b,h,_=>h
 | i :: l,a,b,h,ht=>by
  have h1:=ht i (by simp)
  refine ⟨h.1,h1.1,?_⟩
  have:=Sit.tile h.2 (fun k hk=>ht k (by simp [hk]))
  have e:a+sz (φ i)=g (φ i)+1+(A.thing (g (φ i))).2.1:=by have:=h.1;omega
  rw [←e];exact this
def psiJ (f:List Int) (φ:Int→Int) (i:Int):Int:=lookT f (φ i)
theorem jNow_enc {v:Vl} {N:Int} (hok:W.okV v) (hN:v.1=3→0≤psiJ f φ v.2∧psiJ f φ v.2≤1280):jNow f (encV φ v)=encV (psiJ f φ) v:=by
 by_cases h3:v.1=3
 ·have:=hN h3
  rw [encV_ref φ h3,encV_ref _ h3]
  unfold jNow
  rw [if_pos (by omega),show (4*φ v.2+1)/4=φ v.2 by omega]
  show refW (psiJ f φ v.2)=_
  unfold refW
  rw [IntKind.wrap_i64];omega
 ·unfold jNow
  rw [if_neg (fun h=>h3 ((encV_mod hok).1 h))]
  exact encV_plain h3
structure Tn (O:Wo) (W:Wd) (φ:Int→Int) (s:Gs) (f:List Int) (is:List Bool):Prop where
 live:∀ i,atB is i=true→W.live i
 al:∀ v,W.okV v→(jAlive s (encV φ v)=true↔(v.1=3→atB is v.2=true))
 rng:∀ i,atB is i=true→0≤psiJ f φ i∧psiJ f φ i≤1280
theorem Tn.R64 (T:Tn O W φ s f is) {v:Vl} (hok:W.okV v) (hs:v.1=3→atB is v.2=true):R64 (encV (psiJ f φ) v):=by
 unfold Proofs.YtjifdalflepcoacGreat.R64
 rcases hok with h | h | h | h
 ·have e:encV (psiJ f φ) v=2:=by simp [encV,h.1]
  rw [e];decide
 ·have e:encV (psiJ f φ) v=4*v.2:=by simp [encV,h.1]
  have:=h.2
  unfold big at this
  rw [e];omega
 ·have e:encV (psiJ f φ) v=3:=by simp [encV,h.1]
  rw [e];decide
 ·rw [encV_ref _ h.1]
  have:=T.rng _ (hs h.1)
  omega
def brkJ (W:Wd) (is:List Bool) (i:Int):Bool:=decide ((W.th i).k=4) && !inS is ((W.th i).fs.getD 0 (0,0))
def newF (W:Wd) (is:List Bool) (i:Int) (v:Vl):Vl:=if (brkJ W is i || !inS is v)=true then (2,0) else v
theorem Tn.fd (T:Tn O W φ s f is) {i:Int} {v:Vl} (hok:W.okV v):jFd s f (brkJ W is i) (encV φ v)=encV (psiJ f φ) (newF W is i v)∧Proofs.YtjifdalflepcoacGreat.R64 (encV (psiJ f φ) (newF W is i v)):=by
 have ha:=T.al v hok
 rw [←inS_iff] at ha
 have ea:jAlive s (encV φ v)=inS is v:=Bool.eq_iff_iff.2 ha
 unfold jFd newF
 rw [ea]
 by_cases hc:(brkJ W is i || !inS is v)=true
 ·rw [if_pos hc,if_pos hc,enc_gone]
  exact ⟨rfl,R64_three⟩
 ·rw [if_neg hc,if_neg hc]
  have hs:v.1=3→atB is v.2=true:=by
   rw [←inS_iff]
   cases h:inS is v
   ·rw [h] at hc;simp at hc
   ·rfl
  exact ⟨jNow_enc (N:=0) hok (fun h3=>T.rng _ (hs h3)),T.R64 hok hs⟩
theorem cutF_new (h:W.ok) (hcl:Closed W.nd qw fun k=>atB is k=true) {i:Int} (hl:W.live i) (hb:atB is i=true):cutF W is i=(W.th i).fs.map (newF W is i):=by
 have shut:∀ j,Leads W.nd qw (fun k=>atB is k=true) i j→atB is j=true:=fun j hj=>hcl i j hb hj
 rw [cutF_eq hl.1 hb]
 have hf:=h.tk i hl
 have hs:=fitsW_spec hf
 by_cases k4:(W.th i).k=4
 ·obtain ⟨a,b,e⟩:=list_two (Wd.two h hl (.inr (.inl k4)))
  rw [e]
  simp only [List.getD_cons_zero,List.getD_cons_succ,List.map_cons,List.map_nil]
  have e0:(W.th i).fs.getD 0 (0,0)=a:=by rw [e];rfl
  cases hk:inS is a
  ·have:brkJ W is i=true:=by unfold brkJ;rw [e0,hk];simp [k4]
   rw [if_pos ⟨k4,rfl⟩]
   simp [newF,this]
  ·have hb':brkJ W is i=false:=by unfold brkJ;rw [e0,hk];simp
   rw [if_neg (fun h=>by cases h.2),if_neg (fun h=>by cases h.2)]
   have h2:inS is b=true:=inS_iff.2 fun h3=>shut _ (.inr (.inr (.inl ⟨k4,by
    show (W.th i).fs[1]? = _
    rw [e];show some b=_;congr 1;exact Prod.ext h3 rfl,fun v hv h5=>by
    have hv':(W.th i).fs[0]? = some v:=hv
    rw [e] at hv'
    have:a=v:=by simpa using hv'
    subst this
    exact inS_iff.1 hk h5⟩)))
   simp [newF,hb',hk,h2]
 ·have hb':brkJ W is i=false:=by unfold brkJ;simp [k4]
  rw [if_neg (fun h=>k4 h.1)]
  by_cases k3:(W.th i).k=3
  ·obtain ⟨a,b,e⟩:=list_two (Wd.two h hl (.inl k3))
   rw [e]
   simp only [List.getD_cons_zero,List.getD_cons_succ,List.map_cons,List.map_nil]
   have h2:inS is b=true:=inS_iff.2 fun h3=>shut _ (.inr (.inl ⟨k3,by
    show (W.th i).fs[1]? = _
    rw [e];show some b=_;congr 1;exact Prod.ext h3 rfl⟩))
   cases hk:inS is a
   ·rw [if_pos ⟨k3,rfl⟩]
    simp [newF,hb',hk,h2]
   ·rw [if_neg (fun h=>by cases h.2)]
    simp [newF,hb',hk,h2]
  ·rw [if_neg (fun h=>k3 h.1)]
   by_cases k12:(W.th i).k=1∨(W.th i).k=2
   ·symm
    rw [List.map_congr_left (g:=id),List.map_id]
    intro v hv
    have:inS is v=true:=inS_iff.2 fun h3=>shut _ (.inl ⟨k12,by show ((3,v.2):Vl) ∈ (W.th i).fs;rw [←h3];exact hv⟩)
    simp [newF,hb',this]
   ·have k5:(W.th i).k=5:=by omega
    rw [k5] at hf
    simp [fitsW] at hf
    have:(W.th i).fs=[]:=hf
    rw [this];rfl
theorem Tn.turns (R:Rep O W φ) (T:Tn O W φ s f is):∀ (l:List Int) {A:Ar},l.Nodup→(∀ i ∈ l,atB is i=true)→A.ok→A.nur=O.ar.nur→A.yng=O.ar.yng→A.grn=O.ar.grn→A.ws.length=O.ar.ws.length →
  (∀ i ∈ l, ∀ j:Int,0≤j→j≤(W.th i).fs.length→A.load (φ i+j)=O.ar.load (φ i+j)) →
  ((l.map φ).foldl (jTurn s f) A).ok∧((l.map φ).foldl (jTurn s f) A).nur=O.ar.nur∧((l.map φ).foldl (jTurn s f) A).yng=O.ar.yng∧((l.map φ).foldl (jTurn s f) A).grn=O.ar.grn∧((l.map φ).foldl (jTurn s f) A).ws.length=O.ar.ws.length ∧
   (∀ i ∈ l,((l.map φ).foldl (jTurn s f) A).load (φ i)=O.ar.load (φ i)∧∀ (j:Nat) (v:Vl),(W.th i).fs[j]? = some v→((l.map φ).foldl (jTurn s f) A).load (φ i+1+j)=encV (psiJ f φ) (newF W is i v)) ∧
   (∀ k,W.live k→¬ k ∈ l→∀ j:Int,0≤j→j≤(W.th k).fs.length→((l.map φ).foldl (jTurn s f) A).load (φ k+j)=A.load (φ k+j))
 | [],A,_,_,h0,h1,h2,h3,h4,_=>⟨h0,h1,h2,h3,h4,by simp,fun _ _ _ _ _ _=>rfl⟩
 | i :: l,A,hn,hb,h0,h1,h2,h3,h4,hA=>by
  rw [List.nodup_cons] at hn
  have hbi:=hb i (by simp)
  have hl:=T.live i hbi
  have hth:=R.th i hl
  have hAi:=hA i (by simp)
  have hA0:=hAi 0 (by omega) (by omega)
  rw [Int.add_zero] at hA0
  have eth:A.thing (φ i)=((W.th i).k,((W.th i).fs.length:Int),0):=by rw [thing_of_load' hA0,hth]
  have fld:∀ (j:Nat) (v:Vl),(W.th i).fs[j]? = some v→A.load (φ i+1+j)=encV φ v:=fun j v hv=>by
   have hj:=(List.getElem?_eq_some_iff.1 hv).1
   rw [Int.add_assoc,hAi (1+(j:Int)) (by omega) (by omega),←Int.add_assoc]
   exact R.fl i hl j v hv
  have hbrk:(decide ((A.thing (φ i)).1=4) && !jAlive s (A.load (φ i+1)))=brkJ W is i:=by
   rw [eth]
   unfold brkJ
   by_cases k4:(W.th i).k=4
   ·obtain ⟨a,b,e⟩:=list_two (Wd.two R.hw hl (.inr (.inl k4)))
    have hj0:(W.th i).fs[0]? = some a:=by rw [e];rfl
    have:=fld 0 a hj0
    rw [show φ i+1+((0:Nat):Int)=φ i+1 by omega] at this
    have ok0:=R.hw.tv i hl a (List.mem_of_getElem? hj0)
    rw [this,Bool.eq_iff_iff.2 ((T.al a ok0).trans inS_iff.symm),e]
    simp
   ·simp [k4]
  have eT:jTurn s f A (φ i)=jTurnN s f (brkJ W is i) (W.th i).fs.length A (φ i+1):=by
   unfold jTurn
   rw [hbrk,eth]
   simp
  have use:∀ q,A.inUse q=O.ar.inUse q:=fun q=>by unfold Ar.inUse Ar.young Ar.old;rw [h1,h2,h3]
  have huse:∀ {k:Int},W.live k→∀ j:Int,0≤j→j≤(W.th k).fs.length→O.ar.inUse (φ k+j)=true:=fun hk j h5 h6=>R.use hk h5 h6
  obtain ⟨m1,m2,m3,m4,m5,m6⟩:=turnN_spec (s:=s) (f:=f) (b:=brkJ W is i) (W.th i).fs.length (A:=A) (φ i+1) h0 (fun j hj0 hj1=>by
   refine ⟨by rw [use,Int.add_assoc];exact huse hl _ (by omega) (by omega),?_⟩
   have hv:(W.th i).fs[j.toNat]? = some (W.th i).fs[j.toNat]:=List.getElem?_eq_getElem (by omega)
   have:=fld _ _ hv
   rw [show ((j.toNat:Nat):Int)=j by omega] at this
   rw [this]
   have:=T.fd (i:=i) (R.hw.tv i hl _ (List.mem_of_getElem? hv))
   rw [this.1];exact this.2)
  rw [←eT] at m1 m2 m3 m4 m5 m6
  have keep:∀ k,W.live k→k≠i→∀ j:Int,0≤j→j≤(W.th k).fs.length→(jTurn s f A (φ i)).load (φ k+j)=A.load (φ k+j):=fun k hk hne j h5 h6=>by
   rw [m6,if_neg]
   have:=R.apart hk hl hne
   omega
  obtain ⟨n1,n2,n3,n4,n5,n6,n7⟩:=Tn.turns R T l (A:=jTurn s f A (φ i)) hn.2 (fun k hk=>hb k (by simp [hk])) m1 (m2.trans h1) (m3.trans h2) (m4.trans h3) (m5.trans h4) (fun k hk j h5 h6=>by
   have hne:k≠i:=fun e=>hn.1 (e ▸ hk)
   rw [keep k (T.live k (hb k (by simp [hk]))) hne j h5 h6]
   exact hA k (by simp [hk]) j h5 h6)
  rw [List.map_cons,List.foldl_cons]
  refine ⟨n1,n2,n3,n4,n5,fun k hk=>?_,fun k hk hkl j h5 h6=>?_⟩
  ·rcases List.mem_cons.1 hk with rfl | hk
   ·constructor
    ·have:=n7 k hl hn.1 0 (by omega) (by omega)
     rw [Int.add_zero] at this
     rw [this,m6,if_neg (by omega),hA0]
    ·intro j v hv
     have hj:=(List.getElem?_eq_some_iff.1 hv).1
     have:=n7 k hl hn.1 (1+(j:Int)) (by omega) (by omega)
     rw [←Int.add_assoc] at this
     rw [this,m6,if_pos (by omega),fld j v hv]
     exact (T.fd (R.hw.tv k hl v (List.mem_of_getElem? hv))).1
   ·exact n6 k hk
  ·rw [List.mem_cons,not_or] at hkl
   rw [n7 k hk hkl.2 j h5 h6,keep k hk hkl.1 j h5 h6]
end
end
section
section
variable {O:Wo} {W:Wd} {φ:Int→Int}
theorem Wd.cut_great (W:Wd) (h2:¬ sumL (W.pass true).1 W.T > W.grow):W.cut true=(0,W.after true):=by
 unfold Wd.cut
 rw [if_neg (fun h'=>by cases h'.1),if_neg h2]
theorem Wd.cut_great_no (W:Wd) (h2:sumL (W.pass true).1 W.T > W.grow):W.cut true=(3,W):=by
 unfold Wd.cut
 rw [if_neg (fun h'=>by cases h'.1),if_pos h2]
structure Pl (O:Wo) (W:Wd) (φ:Int→Int) (is:List Bool) (N:List Int):Prop where
 eq:N.map φ=jThings O
 nd:N.Nodup
 nm:∀ i,i ∈ N↔atB is i=true
 sit:Sit (fun p=>1+(O.ar.thing p).2.1) (lookT (jPl O).1) (jThings O) O.ar.nur (O.ar.nur+(jPl O).2)
 sum:(jPl O).2=sumL is W.T
 slid:(jPl O).2≤(O.ar.ws.length:Int)-O.ar.nur→Slid (fun p=>1+(O.ar.thing p).2.1) O.ar.ws.length (jThings O) O.ar.nur
theorem jAll_nodup (R:Rep O W φ):(jAll O).Nodup:=by
 unfold jAll
 rw [List.nodup_append]
 refine ⟨R.tz.nodup,R.ty.nodup,fun a ha b hb=>?_⟩
 have h1:=R.tz.mem a ha
 have h2:=R.ty.mem b hb
 have h3:=O.ar.thing_fields b
 have:=R.ho.ha.h1
 omega
theorem Tile.apart' {A:Ar} {l:List Int} {a b:Int} (h:Tile A l a b):l.Pairwise fun p q=>p+(1+(A.thing p).2.1)≤q:=
 h.apart.imp fun h=>by omega
theorem Rep.plan (R:Rep O W φ):Pl O W φ (W.pass true).1 ((choose_ids (φ:=φ) (P:=fun i=>atB (W.pass true).1 i=true) (l:=jThings O) (fun p hp=>by
  have:=(List.mem_filter.1 hp).2
  exact (R.jpasses.1.M.at_ p).1 this)).choose):=by
 obtain ⟨hN,hP⟩:=(choose_ids (φ:=φ) (P:=fun i=>atB (W.pass true).1 i=true) (l:=jThings O) (fun p hp=>by
  have:=(List.mem_filter.1 hp).2
  exact (R.jpasses.1.M.at_ p).1 this)).choose_spec
 generalize (choose_ids (φ:=φ) (P:=fun i=>atB (W.pass true).1 i=true) (l:=jThings O) (fun p hp=>by
  have:=(List.mem_filter.1 hp).2
  exact (R.jpasses.1.M.at_ p).1 this)).choose=N at hN hP
 have P:=R.jpasses.1
 have hnd:=jAll_nodup R
 have htn:(jThings O).Nodup:=hnd.filter _
 have hok:=R.ho.ha
 have b1:=hok.h1;have b2:=hok.h2;have b3:=hok.h3
 have rng:∀ p ∈ jAll O,0≤p∧p<(List.replicate O.ar.ws.length (0:Int)).length:=fun p hp=>by
  rw [List.length_replicate]
  have hf:=O.ar.thing_fields p
  rcases List.mem_append.1 hp with h | h
  ·have:=R.tz.mem p h;omega
  ·have:=R.ty.mem p h;omega
 have inA:∀ i,W.live i→φ i ∈ jAll O:=fun i hi=>by
  unfold jAll
  rw [List.mem_append]
  cases ho:(W.th i).old
  ·exact .inr (R.iny i hi ho)
  ·exact .inl (R.ino i hi ho)
 have nm:∀ i,i ∈ N↔atB (W.pass true).1 i=true:=fun i=>by
  constructor
  ·exact hP i
  ·intro hb
   have hl:=P.M.sl i hb
   have:φ i ∈ jThings O:=List.mem_filter.2 ⟨inA i hl,(P.M.at_ _).2 ⟨i,hb,rfl⟩⟩
   rw [←hN] at this
   obtain ⟨k,hk,e⟩:=List.mem_map.1 this
   rw [←R.inj k i (P.M.sl k (hP k hk)) hl e];exact hk
 have hNn:N.Nodup:=nodup_of_map (by rw [hN];exact htn)
 obtain ⟨s1,s2,s3⟩:=jPlan_spec (A:=O.ar) (lv:=(jPass O).1.lv) (base:=O.ar.nur) (t:=(List.replicate O.ar.ws.length 0,0)) hnd rng
 rw [Int.add_zero] at s1
 have hsum:(jPl O).2=sumL (W.pass true).1 W.T:=by
  have h1:=s1.sum
  rw [sumL_eq]
  have h2:(((jAll O).filter fun i=>atB (jPass O).1.lv i).map fun p=>1+(O.ar.thing p).2.1)=N.map fun i=>(W.th i).words:=by
   show (jThings O).map _=_
   rw [←hN,List.map_map]
   refine List.map_congr_left fun i hi=>?_
   have:=R.th i (P.M.sl i (hP i hi))
   simp only [Function.comp]
   rw [this];rfl
  rw [h2] at h1
  have h3:N.Perm (((List.range W.T.length).map (Int.ofNat ·)).filter fun i=>atB (W.pass true).1 i):=by
   rw [List.perm_ext_iff_of_nodup hNn ((nodup_range_int _).filter _)]
   intro i
   rw [nm,List.mem_filter]
   constructor
   ·intro h
    have hl:=P.M.sl i h
    exact ⟨List.mem_map.2 ⟨i.toNat,by rw [List.mem_range];have:=hl.2.1;have:=hl.1;omega,by have:=hl.1;show ((i.toNat:Nat):Int)=i;omega⟩,h⟩
   ·exact fun h=>h.2
  have h4:=sum_perm (h3.map fun i=>(W.th i).words)
  show (jPl O).2=_
  rw [←h4]
  unfold jPl
  omega
 refine ⟨hN,hNn,nm,s1,hsum,fun hle=>?_⟩
 have et:jThings O=(O.ar.things.2.filter fun i=>atB (jPass O).1.lv i) ++ (O.ar.things.1.filter fun i=>atB (jPass O).1.lv i):=by unfold jThings jAll;rw [List.filter_append]
 have s1':Sit (fun p=>1+(O.ar.thing p).2.1) (lookT (jPl O).1) (jThings O) O.ar.nur (O.ar.nur+(jPl O).2):=s1
 rw [et] at s1' ⊢
 refine slid_of (fun p=>by have:=O.ar.thing_fields p;omega) (n:=O.ar.ws.length) (b:=O.ar.nur+(jPl O).2) (nur:=O.ar.nur) (by omega) (by omega) s1' (Int.le_refl _) (fun p hp=>?_) (R.tz.apart'.filter _) (fun q hq=>?_)
 ·have:=R.tz.mem p (List.mem_filter.1 hp).1;omega
 ·have:=R.ty.mem q (List.mem_filter.1 hq).1;omega
theorem Rep.majorN (R:Rep O W φ) (hfull:¬ sumL (W.pass true).1 W.T > W.grow) :
  (jCut O).1=0∧∃ (N:List Int) (ψ:Int→Int),N.map φ=jThings O∧(jCut O).2.ar.things=([],N.map ψ)∧(∀ i ∈ N,(W.after true).live i)∧Rep (jCut O).2 (W.after true) ψ:=by
 have hsy:=R.sy;have hso:=R.so;have hnur:=R.nur;have hlen:=R.len
 obtain ⟨P,hq,hI⟩:=R.jpasses
 have PL:=R.plan
 generalize Exists.choose _=N at PL
 obtain ⟨m,hfst,hcnt,hits⟩:=Wd.pass_mid R.hw true
 have hallN:(jPl O).2≤(O.ar.ws.length:Int)-O.ar.nur:=by rw [PL.sum];omega
 have e1:jCut O=(0,⟨((jSlid O).cut (jPl O).2.toNat).clear,O.cd.map fun _=>false,O.rt.map (jNow (jPl O).1),
   (newRegs jAlive sameW (jPass O).1 (jPass O).2.2).map (jNowE (jPl O).1),(newWait jAlive sameW (jPass O).1 (jPass O).2.1).map (jNowE (jPl O).1)⟩):=by unfold jCut;rw [if_neg (by rw [PL.sum];omega)]
 rw [e1]
 have hokA:=R.hw.after (major:=true) (by omega)
 have hokO:=R.ho.ha
 have b1:=hokO.h1;have b2:=hokO.h2;have b3:=hokO.h3;have b4:=hokO.h4
 have h0:∀ p,0≤(fun p=>1+(O.ar.thing p).2.1) p:=fun p=>by have:=O.ar.thing_fields p;dsimp only;omega
 have hall0:=Sit.le h0 PL.sit
 have hsl:=PL.slid hallN
 have hsit:=PL.sit
 generalize hf:(jPl O).1=f at *
 generalize hall:(jPl O).2=all at *
 generalize hs:(jPass O).1=s at *
 generalize his:(W.pass true).1=is at *
 have lvN:∀ {i},i ∈ N→W.live i:=fun hi=>P.M.sl _ ((PL.nm _).1 hi)
 have thN:∀ {i},i ∈ N→(O.ar.thing (φ i))=((W.th i).k,((W.th i).fs.length:Int),0):=fun hi=>R.th _ (lvN hi)
 have place:∀ {i},i ∈ N→(O.ar.nur:Int)≤psiJ f φ i∧psiJ f φ i+(1+(W.th i).fs.length)≤O.ar.nur+all:=fun {i} hi=>by
  have:=Sit.mem h0 hsit (φ i) (by rw [←PL.eq];exact List.mem_map.2 ⟨i,hi,rfl⟩)
  rw [thN hi] at this
  exact this
 have T:Tn O W φ s f is:=⟨fun i hi=>P.M.sl i hi,fun v hv=>P.M.alive R hv,fun i hi=>by have:=place ((PL.nm i).2 hi);omega⟩
 obtain ⟨t1,t2,t3,t4,t5,t6,-⟩:=T.turns R N PL.nd (fun i hi=>(PL.nm i).1 hi) hokO rfl rfl rfl rfl (fun _ _ _ _ _=>rfl)
 have eT:(N.map φ).foldl (jTurn s f) O.ar=jTurned O:=by rw [PL.eq];unfold jTurned;rw [hs,hf]
 rw [eT] at t1 t2 t3 t4 t5 t6
 generalize hTd:jTurned O=B0 at *
 have use0:∀ q,B0.inUse q=O.ar.inUse q:=fun q=>by unfold Ar.inUse Ar.young Ar.old;rw [t2,t3,t4]
 have hus:∀ {i},i ∈ N→∀ j:Int,0≤j→j≤(W.th i).fs.length→B0.inUse (φ i+j)=true:=fun hi j h1 h2=>by rw [use0];exact R.use (lvN hi) h1 h2
 obtain ⟨u1,u2,u3,u4,u5,u6,u7⟩:=slide_spec (f:=f) (sz:=fun p=>1+(O.ar.thing p).2.1) (l:=jThings O) (A:=B0) hsit (by rw [t5];exact hsl) (fun p hp=>by
  rw [←PL.eq] at hp
  obtain ⟨i,hi,rfl⟩:=List.mem_map.1 hp
  have h1:=hus hi 0 (by omega) (by omega)
  rw [Int.add_zero] at h1
  refine ⟨h1,?_⟩
  rw [thing_of_load (t6 i hi).1]) ((jAll_nodup R).filter _) h0
 have eS:(jThings O).foldl (jSlide1 f) B0=jSlid O:=by unfold jSlid;rw [hTd,hf]
 rw [eS] at u1 u2 u3 u4 u5 u6 u7
 generalize hSd:jSlid O=Bs at *
 obtain ⟨B,hB⟩:∃ B,(Bs.cut all.toNat).clear=B:=⟨_,rfl⟩
 rw [hB]
 have bn:B.nur=O.ar.nur:=by rw [←hB];exact u5.trans t2
 have by_:B.yng=0:=by rw [←hB];rfl
 have bg:(B.grn:Int)=O.ar.nur+all:=by
  rw [←hB]
  show ((Bs.nur+all.toNat:Nat):Int)=_
  rw [u5,t2];omega
 have bw:B.ws=Bs.ws:=by rw [←hB];rfl
 have blen:B.ws.length=O.ar.ws.length:=by rw [bw,u1,t5]
 have okB:B.ok:=by
  refine ⟨by rw [by_];exact Nat.zero_le _,by rw [bn];omega,by rw [blen];omega,by rw [blen];exact b4,fun x hx=>?_⟩
  rw [bw] at hx
  exact t1.hw x (u4 x hx)
 have oldB:∀ x:Int,(O.ar.nur:Int)≤x→x<O.ar.nur+all→B.old x=true:=fun x h1 h2=>by rw [Proofs.YtjifdalflepcoacGreat.old_iff,bn,bg];exact ⟨h1,h2⟩
 have ldB:∀ {i},i ∈ N→∀ j:Int,0≤j→j≤(W.th i).fs.length→B.load (psiJ f φ i+j)=B0.load (φ i+j):=fun {i} hi j h1 h2=>by
  have hp:=place hi
  have ho:=oldB (psiJ f φ i+j) (by omega) (by omega)
  have hu:B.inUse (psiJ f φ i+j)=true:=by unfold Ar.inUse;rw [ho];simp
  have:=u3 (φ i) (by rw [←PL.eq];exact List.mem_map.2 ⟨i,hi,rfl⟩) j h1 (by rw [thN hi];dsimp only;omega)
  rw [thing_wd hu,thing_wd (hus hi j h1 h2)]
  have e2:wd B (psiJ f φ i+j)=wd Bs (psiJ f φ i+j):=by unfold wd;rw [bw]
  rw [e2];exact this
 have thB:∀ {i},i ∈ N→B.thing (psiJ f φ i)=((W.th i).k,((W.th i).fs.length:Int),0):=fun {i} hi=>by
  have h1:=ldB hi 0 (by omega) (by omega)
  rw [Int.add_zero,Int.add_zero,(t6 i hi).1] at h1
  rw [thing_of_load' h1];exact thN hi
 have lv:∀ {i},(W.after true).live i↔i ∈ N:=fun {i}=>by rw [Wd.after_live R.hw,his,PL.nm]
 have isN:∀ {i},i ∈ N→atB is i=true:=fun hi=>(PL.nm _).1 hi
 have tha:∀ {i},i ∈ N→(W.after true).th i=cutT is i.toNat (W.th i):=fun {i} hi=>by rw [←his];exact Wd.th_after (lvN hi).1 (lvN hi).2.1
 have olda:∀ {i},i ∈ N→((W.after true).th i).old=true:=fun {i} hi=>by
  rw [tha hi,(cutT_live (by rw [atB_toNat (lvN hi).1];exact isN hi)).2]
 have clen:∀ {i},i ∈ N→(cutT is i.toNat (W.th i)).fs.length=(W.th i).fs.length:=fun {i} hi=>cutT_len (by rw [atB_toNat (lvN hi).1];exact isN hi) (R.hw.tk i (lvN hi))
 have hth:B.things=([],N.map (psiJ f φ)):=by
  refine Tile.things okB (by rw [by_];rfl) ?_
  rw [bn,bg]
  have:=Sit.tile (A:=B) (φ:=φ) (l:=N) (by rw [PL.eq];exact hsit) (fun i hi=>by
   have:=thB hi
   unfold psiJ at this
   rw [this]
   dsimp only
   rw [thN hi]
   exact ⟨rfl,rfl⟩)
  exact this
 have tz:Tile B B.things.2 B.nur B.grn:=by
  rw [hth,bn,bg]
  exact Sit.tile (A:=B) (φ:=φ) (l:=N) (by rw [PL.eq];exact hsit) (fun i hi=>by
   have:=thB hi
   unfold psiJ at this
   rw [this]
   dsimp only
   rw [thN hi]
   exact ⟨rfl,rfl⟩)
 have inj:∀ i j,i ∈ N→j ∈ N→psiJ f φ i=psiJ f φ j→i=j:=fun i j hi hj e=>by
  have:=tz.nodup
  rw [hth] at this
  exact inj_of_nodup this hi hj e
 have nowV:∀ {v:Vl},W.okV v→(v.1=3→v.2 ∈ N)→jNow f (encV φ v)=encV (psiJ f φ) v:=fun hv h=>jNow_enc (N:=0) hv (fun h3=>by have:=place (h h3);omega)
 have nowE:∀ {e:Int × Int},e.1 ∈ N→e.2 ∈ N→jNowE f (encE φ e)=encE (psiJ f φ) e:=fun {e} h1 h2=>by
  rw [encE_eq,encE_eq]
  unfold jNowE
  dsimp only
  rw [nowV (v:=(3,e.1)) (.inr (.inr (.inr ⟨rfl,lvN h1⟩))) (fun _=>h1),nowV (v:=(3,e.2)) (.inr (.inr (.inr ⟨rfl,lvN h2⟩))) (fun _=>h2)]
 have hrg:(newRegs jAlive sameW s (jPass O).2.2).map (jNowE f)=(W.after true).regs.map (encE (psiJ f φ)):=by
  rw [hI]
  show _=(newRegs atB nowW (W.pass true).1 (W.pass true).2.2).map _
  rw [his]
  have itx:∀ i ∈ (W.pass true).2.2,W.okE i.1∧(i.2.1=false→atB is i.1.2=true):=by
   intro i hi
   have h1:(i.1,i.2.1) ∈ (W.pass true).2.2.map (fun i=>(i.1,i.2.1)):=List.mem_map.2 ⟨i,hi,rfl⟩
   rw [hits] at h1
   obtain ⟨e,he',e2⟩:=List.mem_map.1 h1
   have e3:e=i.1:=congrArg (fun p:(Int × Int) × Bool=>p.1) e2
   have e4:(!atB (W.clo W.wait (W.first true)) e.2)=i.2.1:=congrArg (fun p:(Int × Int) × Bool=>p.2) e2
   have hgv:=R.hw.gv e he'
   rw [e3] at hgv e4
   exact ⟨hgv,fun hd=>hfst _ (by rw [hd] at e4;simpa using e4)⟩
  generalize (W.pass true).2.2=l at itx
  unfold newRegs
  induction l with
  | nil=>rfl
  | cons i l ih=>
   have hi:=itx i (by simp)
   have ih:=ih (fun j hj=>itx j (by simp [hj]))
   have ea:jAlive s (encI φ i).1.1=atB is i.1.1:=by
    show jAlive _ (encE φ i.1).1=_
    rw [encE_eq];exact P.alive R hi.1.1
   simp only [List.map_cons,List.filter_cons,ea]
   have e2:(encI φ i).2=i.2:=rfl
   rw [e2]
   by_cases hc:(!i.2.1 && atB is i.1.1)=true
   ·rw [if_pos hc,if_pos hc]
    simp only [List.map_cons]
    simp only [Bool.and_eq_true,Bool.not_eq_true'] at hc
    rw [ih]
    congr 1
    exact nowE ((PL.nm _).2 hc.2) ((PL.nm _).2 (hi.2 hc.1))
   ·rw [if_neg hc,if_neg hc];exact ih
 have hwt:(newWait jAlive sameW s (jPass O).2.1).map (jNowE f)=(W.after true).wait.map (encE (psiJ f φ)):=by
  rw [hq]
  show _=(newWait atB nowW (W.pass true).1 (W.pass true).2.1).map _
  rw [his]
  have hok:=P.ok
  have hsh:∀ f ∈ (W.pass true).2.1,atB is f.1=true→atB is f.2=true:=fun f hf h=>P.shut f.1 f.2 h (.inr (.inr (.inr ⟨(hok f hf).2.1,hf⟩)))
  clear hcnt
  revert hok hsh
  generalize (W.pass true).2.1=mm
  unfold newWait
  intro hok hsh
  induction mm with
  | nil=>rfl
  | cons g mm ih=>
   have ih:=ih (fun g hg=>hok g (by simp [hg])) (fun g hg=>hsh g (by simp [hg]))
   have hg:=hok g (by simp)
   have ea:jAlive s (encE φ g).1=atB is g.1:=by rw [encE_eq];exact P.alive R hg.1
   simp only [List.map_cons,List.filter_cons,ea]
   by_cases hc:atB is g.1=true
   ·rw [if_pos hc,if_pos hc]
    simp only [List.map_cons]
    rw [ih]
    congr 1
    exact nowE ((PL.nm _).2 hc) ((PL.nm _).2 (hsh g (by simp) hc))
   ·rw [if_neg hc,if_neg hc];exact ih
 have hrt:O.rt.map (jNow f)=W.roots.map (encV (psiJ f φ)):=by
  rw [R.rt,List.map_map]
  refine List.map_congr_left fun v hv=>?_
  refine nowV (R.hw.rv v hv) (fun h3=>(PL.nm _).2 (m.first _ ?_))
  have hl:=Wd.okV_ref (R.hw.rv v hv) h3
  exact Wd.first_at.2 ⟨hl.1,hl.2.1, .inr (by rw [←h3];exact hv)⟩
 have hE64:∀ e,(W.after true).okE e→R64e (encE (psiJ f φ) e):=fun e he=>by
  have h1:=place (lv.1 he.1);have h2:=place (lv.1 he.2.2)
  constructor
  ·show R64 (4*psiJ f φ e.1+1);unfold R64;omega
  ·show R64 (4*psiJ f φ e.2+1);unfold R64;omega
 refine ⟨rfl,N,psiJ f φ,PL.eq,hth,fun i hi=>lv.2 hi,⟨⟨okB,?_,fun x hx=>?_,fun e he=>?_,fun e he=>?_,?_,by simpa using R.ho.hc⟩,hokA,by rw [hth];exact (by rw [by_];rfl),tz,fun i j hi hj e=>inj i j (lv.1 hi) (lv.1 hj) e,fun p hp=>?_,fun i hi ho=>?_,fun i hi ho=>?_,fun i hi=>?_,fun i hi j v hv=>?_,
  hrt,hrg,hwt,?_,?_,by rw [List.length_map];exact R.cl,fun i hi ho v hv h3 hy=>?_⟩⟩
 ·show (O.rt.map _).length=12
  rw [List.length_map];exact R.ho.h12
 ·have hx':x ∈ O.rt.map (jNow f):=hx
  rw [hrt] at hx'
  obtain ⟨v,hv,rfl⟩:=List.mem_map.1 hx'
  exact T.R64 (R.hw.rv v hv) (fun h3=>m.first _ (by
   have hl:=Wd.okV_ref (R.hw.rv v hv) h3
   exact Wd.first_at.2 ⟨hl.1,hl.2.1, .inr (by rw [←h3];exact hv)⟩))
 ·have he':e ∈ (newRegs jAlive sameW s (jPass O).2.2).map (jNowE f):=he
  rw [hrg] at he'
  obtain ⟨g,hg,rfl⟩:=List.mem_map.1 he'
  exact hE64 g (hokA.gv g hg)
 ·have he':e ∈ (newWait jAlive sameW s (jPass O).2.1).map (jNowE f):=he
  rw [hwt] at he'
  obtain ⟨g,hg,rfl⟩:=List.mem_map.1 he'
  exact hE64 g (hokA.wv g hg)
 ·show ((newRegs jAlive sameW s (jPass O).2.2).map (jNowE f)).length+((newWait jAlive sameW s (jPass O).2.1).map (jNowE f)).length≤24
  rw [hrg,hwt,List.length_map,List.length_map];exact hokA.hq
 ·have hp':p ∈ B.things.1∨p ∈ B.things.2:=hp
  rw [hth] at hp'
  dsimp only at hp'
  rcases hp' with h | h
  ·cases h
  ·obtain ⟨i,hi,rfl⟩:=List.mem_map.1 h
   exact ⟨i,lv.2 hi,rfl⟩
 ·rw [olda (lv.1 hi)] at ho;cases ho
 ·show psiJ f φ i ∈ B.things.2
  rw [hth]
  exact List.mem_map.2 ⟨i,lv.1 hi,rfl⟩
 ·have hb:=lv.1 hi
  show B.thing _=_
  rw [thB hb,tha hb,cutT_kind,clen hb]
 ·have hb:=lv.1 hi
  rw [tha hb] at hv
  have hj:=(List.getElem?_eq_some_iff.1 hv).1
  rw [clen hb] at hj
  show B.load _=_
  rw [Int.add_assoc,ldB hb (1+(j:Int)) (by omega) (by omega),←Int.add_assoc]
  have hv':(cutF W is i)[j]? = some v:=hv
  rw [cutF_new R.hw P.shut (lvN hb) (isN hb),List.getElem?_map] at hv'
  have e2:(W.th i).fs[j]? = some (W.th i).fs[j]:=List.getElem?_eq_getElem hj
  rw [e2] at hv'
  simp only [Option.map_some,Option.some.injEq] at hv'
  rw [←hv']
  exact (t6 i hb).2 j _ e2
 ·show (B.nur:Int)=W.most
  rw [bn];exact R.nur
 ·show (B.ws.length:Int)=W.most+W.grow
  rw [blen];exact R.len
 ·have hl3:(W.after true).live v.2:=Wd.okV_ref (hokA.tv i hi v hv) h3
  rw [olda (lv.1 hl3)] at hy;cases hy
theorem Rep.major (R:Rep O W φ):(jCut O).1=(W.cut true).1∧∃ ψ,Rep (jCut O).2 (W.cut true).2 ψ:=by
 by_cases hfull:sumL (W.pass true).1 W.T > W.grow
 ·have hsy:=R.sy;have hso:=R.so;have hnur:=R.nur;have hlen:=R.len
  have PL:=R.plan
  generalize Exists.choose _=N at PL
  have e1:jCut O=(3,O):=by unfold jCut;rw [if_pos (by rw [PL.sum];omega)]
  rw [e1,W.cut_great_no hfull]
  exact ⟨rfl,φ,R⟩
 ·obtain ⟨e,-,ψ,-,-,-,R'⟩:=R.majorN hfull
  rw [W.cut_great hfull]
  exact ⟨e,ψ,R'⟩
end
end
section
def Wo.rtA (O:Wo) (k:Int):Int:=O.rt.getD k.toNat 0
def Wo.setRt (O:Wo) (r x:Int):Wo:={ O with rt:=O.rt.set r.toNat x }
def Wo.room (O:Wo) (n:Int):Int × Wo:=
 if n≤(O.ar.nur:Int)-O.ar.yng then (0,O)
 else if (O.ar.yng:Int)≤(O.ar.ws.length:Int)-O.ar.grn then mCut O else jCut O
def storesA (A:Ar) (p:Int):List Int→Ar
 | []=>A
 | x :: l=>storesA (A.store p x) (p+1) l
def Wo.lay (P:Wo) (r k:Int) (fr:List Int):Wo:=
 { P with ar:=storesA (P.ar.make k fr.length).2 ((P.ar.make k fr.length).1+1) (fr.map P.rtA),rt:=P.rt.set r.toNat (refW (P.ar.make k fr.length).1) }
def Wo.newT (O:Wo) (r k:Int) (fr:List Int):Int × Wo:=
 if (O.room (1+fr.length)).1=0 then (0,(O.room (1+fr.length)).2.lay r k fr) else O.room (1+fr.length)
def Wo.isG (O:Wo) (x:Int):Bool:=decide ((O.ar.thingAt x).2.2.2=0) && decide ((O.ar.thingAt x).2.1=5)
def Wo.reg (O:Wo) (a b:Int):Int × Wo:=
 if (O.ar.thingAt (O.rtA a)).2.2.2≠0 then ((O.ar.thingAt (O.rtA a)).2.2.2,O)
 else if O.isG (O.rtA b)=false then (2,O)
 else if 24≤O.rg.length+O.wt.length then (3,O)
 else (0, { O with rg:=O.rg ++ [(O.rtA b,O.rtA a)] })
def Wo.pop (O:Wo) (r a:Int):Int × Wo:=
 if O.isG (O.rtA a)=false then (2,O)
 else match popW O.wt (O.rtA a) with
  | none=>(4,O)
  | some q=>(0, { O with wt:=q.2,rt:=O.rt.set r.toNat q.1 })
def Wo.putC (O:Wo) (r:Int) (q:Int × Int):Int × Wo:=if q.2=0 then (0,O.setRt r q.1) else (q.2,O)
def Wo.lenC (O:Wo) (x:Int):Int × Int:=
 if (O.ar.thingAt x).2.2.2=0∧(O.ar.thingAt x).2.1=5 then (4*(O.ar.thingAt x).2.2.1,2) else (4*(O.ar.thingAt x).2.2.1,(O.ar.thingAt x).2.2.2)
def Wo.step (O:Wo) (x:St):Int × Wo:=
 if x.k=1 then (0,O.setRt x.r (4*x.n))
 else if x.k=2 then (0,O.setRt x.r 2)
 else if x.k=3 then (0,O.setRt x.r (O.rtA x.a))
 else if x.k=4 then O.newT x.r 1 [x.a,x.b]
 else if x.k=5 then O.newT x.r 2 (List.replicate x.n.toNat x.a)
 else if x.k=6 then O.newT x.r 3 [x.a,x.b]
 else if x.k=7 then O.newT x.r 4 [x.a,x.b]
 else if x.k=8 then O.newT x.r 5 []
 else if x.k=9 then O.reg x.a x.b
 else if x.k=10 then O.pop x.r x.a
 else if x.k=11 then O.putC x.r (O.ar.get (O.rtA x.a) x.i)
 else if x.k=12 then O.set (O.rtA x.a) x.i (O.rtA x.b)
 else if x.k=13 then O.putC x.r (O.lenC (O.rtA x.a))
 else if x.k=14 then (0,O.setRt x.r (4*if O.rtA x.a=O.rtA x.b then 1 else 0))
 else if x.k=15 then mCut O
 else jCut O
def Wo.do (O:Wo) (x:St):Int × Wo:=if checkM x=0 then O.step x else (checkM x,O)
theorem storesA_keep (A:Ar):∀ (l:List Int) (p:Int),(storesA A p l).nur=A.nur∧(storesA A p l).yng=A.yng∧(storesA A p l).grn=A.grn∧(storesA A p l).ws.length=A.ws.length:=by
 intro l
 induction l generalizing A with
 | nil=>intro p;exact ⟨rfl,rfl,rfl,rfl⟩
 | cons x l ih=>
  intro p
  obtain ⟨h1,h2,h3,h4⟩:=ih (A.store p x) (p+1)
  exact ⟨h1.trans (A.store_nur p x),h2.trans (A.store_yng p x),h3.trans (A.store_grn p x),h4.trans (A.store_len p x)⟩
theorem storesA_ok {A:Ar} (h:A.ok):∀ (l:List Int) (p:Int),(∀ x ∈ l,R64 x)→(storesA A p l).ok:=by
 intro l
 induction l generalizing A with
 | nil=>intro p _;exact h
 | cons x l ih=>intro p hx;exact ih (h.store p x (hx x (by simp))) (p+1) fun y hy=>hx y (by simp [hy])
theorem store_use (A:Ar) (p x q:Int):(A.store p x).inUse q=A.inUse q:=by
 unfold Ar.inUse Ar.young Ar.old
 rw [A.store_yng,A.store_nur,A.store_grn]
theorem storesA_load {A:Ar} (h:A.ok):∀ (l:List Int) (p:Int),(∀ x ∈ l,R64 x)→(∀ j:Nat,j<l.length→A.inUse (p+j)=true)→∀ q:Int,(storesA A p l).load q=if p≤q∧q<p+l.length then l.getD (q-p).toNat 0 else A.load q:=by
 intro l
 induction l generalizing A with
 | nil=>intro p _ _ q;rw [if_neg (fun h=>by have h2:=h.2;simp only [List.length_nil] at h2;omega)];rfl
 | cons x l ih=>
  intro p hx hu q
  have hp:A.inUse p=true:=by have:=hu 0 (by simp);simpa using this
  show (storesA (A.store p x) (p+1) l).load q=_
  rw [ih (h.store p x (hx x (by simp))) (p+1) (fun y hy=>hx y (by simp [hy])) (fun j hj=>by
   rw [store_use]
   have:=hu (j+1) (by simp;omega)
   rwa [show p+((j+1:Nat):Int)=p+1+(j:Int) by omega] at this) q,Ar.load_store h]
  simp only [List.length_cons]
  by_cases c:q=p
  ·subst c
   rw [if_neg (by omega),if_pos ⟨rfl,hp⟩,if_pos (by omega)]
   simp
  ·rw [if_neg (c:=q=p∧_) (fun h=>c h.1)]
   by_cases c2:p+1≤q∧q<p+1+l.length
   ·rw [if_pos c2,if_pos (by omega),show (q-p).toNat=(q-(p+1)).toNat+1 by omega]
    rfl
   ·rw [if_neg c2,if_neg (by omega)]
section
variable {O:Wo} {W:Wd} {φ:Int→Int}
theorem Rep.rtA (R:Rep O W φ) {k:Int} (hk:rootOk k=true):O.rtA k=encV φ (W.rt k):=by
 have h12:=R.hw.hr
 simp only [rootOk,Bool.and_eq_true,decide_eq_true_eq] at hk
 unfold Wo.rtA Wd.rt
 rw [R.rt]
 simp only [List.getD_eq_getElem?_getD,List.getElem?_map]
 rw [List.getElem?_eq_getElem (by omega)];rfl
theorem Rep.room (R:Rep O W φ) (n:Int):(O.room n).1=(W.room n).1∧∃ ψ,Rep (O.room n).2 (W.room n).2 ψ:=by
 have h1:=R.sy;have h2:=R.so;have h3:=R.nur;have h4:=R.len
 unfold Wo.room Wd.room
 by_cases c:n≤(O.ar.nur:Int)-O.ar.yng
 ·rw [if_pos c,if_neg (by omega)];exact ⟨rfl,φ,R⟩
 ·rw [if_neg c,if_pos (c:=n > W.most-W.young) (by omega)]
  by_cases c2:(O.ar.yng:Int)≤(O.ar.ws.length:Int)-O.ar.grn
  ·rw [if_pos c2,show decide (W.young > W.grow-W.olds)=false from decide_eq_false (by omega)]
   exact Rep.minor R
  ·rw [if_neg c2,show decide (W.young > W.grow-W.olds)=true from decide_eq_true (by omega)]
   exact Rep.major R
theorem Wd.room_no (W:Wd) {n:Int} (h:(W.room n).1≠0):(W.room n).2=W:=by
 unfold Wd.room at *
 split
 ·rename_i c
  rw [if_pos c] at h
  unfold Wd.cut at *
  split
  ·rfl
  ·rename_i c1
   rw [if_neg c1] at h
   split
   ·rfl
   ·rename_i c2
    rw [if_neg c2] at h;exact (h rfl).elim
 ·rfl
theorem refW_in {x:Int} (h0:0≤x) (h1:x≤1000000):refW x=4*x+1:=IntWalk.i64_in _ (by omega)
theorem Rep.lay {P:Wo} {V:Wd} {ψ:Int→Int} (R:Rep P V ψ) {k r:Int} {fr:List Int} (hf:fitsW k fr.length=true) (hr:1+(fr.length:Int)≤(P.ar.nur:Int)-P.ar.yng) (hk:∀ x ∈ fr,rootOk x=true) :
  Rep (P.lay r k fr) (V.put r k (fr.map V.rt)) (extF V.T.length P.ar.yng ψ):=by
 have ha:=R.ho.ha
 have a1:=ha.h1;have a2:=ha.h2;have a3:=ha.h3;have a4:=ha.h4
 obtain ⟨m1,m2,m3,m4,m5,m6,m7⟩:=Ar.make_loads ha ⟨hf,hr⟩
 have e1:(P.ar.make k fr.length).1=(P.ar.yng:Int):=by rw [Ar.make_yes ⟨hf,hr⟩]
 have hmo:=ha.make k fr.length
 have hl:fr.map P.rtA=fr.map (fun x=>encV ψ (V.rt x)):=List.map_congr_left fun x hx=>R.rtA (hk x hx)
 have hR:∀ x ∈ fr.map P.rtA,R64 x:=fun x hx=>by
  rw [hl] at hx
  obtain ⟨y,hy,rfl⟩:=List.mem_map.1 hx
  exact encV_R64 R (Wd.rt_ok R.hw _)
 have hU:∀ j:Nat,j<(fr.map P.rtA).length→(P.ar.make k fr.length).2.inUse ((P.ar.yng:Int)+1+j)=true:=fun j hj=>by
  rw [List.length_map] at hj
  unfold Ar.inUse Ar.young
  rw [Bool.or_eq_true]
  left
  simp;omega
 have SK:=storesA_keep (P.ar.make k fr.length).2 (fr.map P.rtA) ((P.ar.yng:Int)+1)
 have SL:=storesA_load hmo (fr.map P.rtA) ((P.ar.yng:Int)+1) hR hU
 have hlen:((fr.map V.rt).length:Int)=fr.length:=by simp
 unfold Wo.lay
 rw [e1,refW_in (by omega) (by omega)]
 refine R.put (storesA_ok hmo _ _ hR) (SK.1.trans m5) (SK.2.2.1.trans m6) (SK.2.2.2.trans m7) (by rw [SK.2.1,hlen];exact m4) (fun q hq=>?_) ?_ (fun j v hv=>?_) (fun v hv=>?_) (by rw [List.length_map];exact hf)
 ·rw [SL q,if_neg,m1 q hq]
  rintro ⟨h1,h2⟩
  simp only [List.length_map] at h2
  have:P.ar.young q=false:=by
   cases hy:P.ar.young q
   ·rfl
   ·have:=Proofs.YtjifdalflepcoacGreat.young_iff.1 hy;omega
  have h3:P.ar.old q=true:=by unfold Ar.inUse at hq;rw [this] at hq;exact hq
  have:=Proofs.YtjifdalflepcoacGreat.old_iff.1 h3
  omega
 ·unfold Ar.thing
  rw [SL,if_neg (by omega),m2,partsW_of hf,hlen]
 ·rw [List.getElem?_map] at hv
  cases hj:fr[j]? with
  | none=>rw [hj] at hv;cases hv
  | some y=>
   rw [hj] at hv
   simp only [Option.map_some,Option.some.injEq] at hv
   have hjl:=(List.getElem?_eq_some_iff.1 hj).1
   rw [SL,if_pos (by rw [List.length_map];omega),hl,show ((P.ar.yng:Int)+1+(j:Int)-((P.ar.yng:Int)+1)).toNat=j by omega]
   simp only [List.getD_eq_getElem?_getD,List.getElem?_map,hj,Option.map_some,Option.getD_some,hv]
 ·obtain ⟨y,hy,rfl⟩:=List.mem_map.1 hv
  exact Wd.rt_ok R.hw _
theorem Rep.newT (R:Rep O W φ) {k r:Int} {fr:List Int} (hf:fitsW k fr.length=true) (hk:∀ x ∈ fr,rootOk x=true) :
  (O.newT r k fr).1=(W.newT r k fr).1∧∃ ψ,Rep (O.newT r k fr).2 (W.newT r k fr).2 ψ:=by
 have hfl:=fitsW_spec hf
 obtain ⟨e,ψ,R2⟩:=R.room (1+fr.length)
 have hro:=R.hw.room (1+fr.length) (by omega)
 unfold Wo.newT Wd.newT
 by_cases c:(W.room (1+fr.length)).1=0
 ·rw [if_pos c,if_pos (e.trans c)]
  refine ⟨rfl,_,R2.lay hf ?_ hk⟩
  have:=hro.2 c;have:=R2.sy;have:=R2.nur
  omega
 ·rw [if_neg c,if_neg (by rw [e];exact c)]
  rw [Wd.room_no W c] at R2
  exact ⟨e,ψ,R2⟩
theorem Wd.thing_three {k:Int} (hok:W.ok):W.thing k<0↔(W.rt k).1≠3:=by
 unfold Wd.thing
 by_cases h3:(W.rt k).1=3
 ·rw [if_pos h3]
  have:=(Wd.okV_ref (Wd.rt_ok hok k) h3).1
  constructor
  ·intro;omega
  ·intro h;exact (h h3).elim
 ·rw [if_neg h3]
  exact ⟨fun _=>h3,fun _=>by omega⟩
theorem Rep.isG (R:Rep O W φ) {k:Int} (hk:rootOk k=true):O.isG (O.rtA k)=false↔W.guard k<0:=by
 unfold Wo.isG
 rw [R.rtA hk,R.thingAt (Wd.rt_ok R.hw k)]
 unfold Wd.guard
 by_cases h3:(W.rt k).1=3
 ·have et:W.thing k=(W.rt k).2:=if_pos h3
  have hlv:=Wd.okV_ref (Wd.rt_ok R.hw k) h3
  have:=hlv.1
  rw [if_pos h3,et]
  by_cases c:(W.th (W.rt k).2).k=5
  ·rw [if_neg (by omega)]
   simp [c];omega
  ·rw [if_pos (.inr c)]
   simp [c]
 ·rw [if_neg h3,if_pos (.inl ((Wd.thing_three R.hw).2 h3))]
  simp
theorem popW_enc {g:Int} (hg:W.live g) (hinj:∀ i j,W.live i→W.live j→φ i=φ j→i=j):∀ (l:List (Int × Int)),(∀ e ∈ l,W.okE e)→popW (l.map (encE φ)) (4*φ g+1)=(popW l g).map fun r=>(4*φ r.1+1,r.2.map (encE φ))
 | [],_=>rfl
 | e :: l,h=>by
  have ih:=popW_enc hg hinj l fun x hx=>h x (by simp [hx])
  have he:=(h e (by simp)).1
  rw [List.map_cons]
  unfold popW
  by_cases c:e.1=g
  ·rw [if_pos c,if_pos (by unfold encE;dsimp only;rw [c])];rfl
  ·rw [if_neg c,if_neg (by unfold encE;dsimp only;intro hh;exact c (hinj _ _ he hg (by omega))),ih]
   cases popW l g <;> rfl
theorem Rep.popd (R:Rep O W φ) {wt:List (Int × Int)} (h1:∀ e ∈ wt,e ∈ W.wait) (h2:wt.length≤W.wait.length):Rep { O with wt:=wt.map (encE φ) } { W with wait:=wt } φ:=by
 have e1:O.wt.length=W.wait.length:=by rw [R.wt];simp
 refine ⟨⟨R.ho.ha,R.ho.h12,R.ho.hR,R.ho.hg,fun x hx=>?_,?_,R.ho.hc⟩,?_,R.ty,R.tz,R.inj,R.onto,R.iny,R.ino,R.th,R.fl,R.rt,R.rg,rfl,R.nur,R.len,R.cl,R.card⟩
 ·obtain ⟨e,he,rfl⟩:=List.mem_map.1 hx
  refine R.ho.hw _ ?_
  rw [R.wt]
  exact List.mem_map.2 ⟨e,h1 e he,rfl⟩
 ·have:=R.ho.hq
  show O.rg.length+(wt.map _).length≤24
  rw [List.length_map];omega
 ·have h:=R.hw
  refine ⟨h.hr,h.rv,h.tk,h.tv,h.gv,fun x hx=>h.wv x (h1 x hx),?_,h.m1,h.m2,h.g1,h.g2,h.uy,h.uo⟩
  have:=h.hq
  show W.regs.length+wt.length≤24
  omega
theorem Rep.pop (R:Rep O W φ) {x:St} (hk:rootOk x.a=true):(O.pop x.r x.a).1=(W.pop x).1∧∃ ψ,Rep (O.pop x.r x.a).2 (W.pop x).2 ψ:=by
 unfold Wo.pop Wd.pop
 by_cases c:W.guard x.a<0
 ·rw [if_pos c,if_pos ((R.isG hk).2 c)];exact ⟨rfl,φ,R⟩
 ·rw [if_neg c,if_neg (fun h=>c ((R.isG hk).1 h))]
  have hg:=Wd.guard_live R.hw c
  have e:O.rtA x.a=4*φ (W.guard x.a)+1:=by
   rw [R.rtA hk]
   have hne:¬ (W.thing x.a<0∨(W.th (W.thing x.a)).k≠5):=fun h=>by unfold Wd.guard at c;rw [if_pos h] at c;omega
   have h3:(W.rt x.a).1=3:=Decidable.byContradiction fun h=>hne (.inl ((Wd.thing_three R.hw).2 h))
   have:W.guard x.a=(W.rt x.a).2:=by unfold Wd.guard;rw [if_neg hne];unfold Wd.thing;rw [if_pos h3]
   rw [this,encV_ref φ h3]
  rw [e,R.wt,popW_enc hg.1 R.inj _ R.hw.wv]
  cases hp:popW W.wait (W.guard x.a) with
  | none=>exact ⟨rfl,φ,R⟩
  | some q=>
   have hm:=popW_mem hp
   have R2:=R.popd (wt:=q.2) hm.2.1 (by omega)
   have hv:({ W with wait:=q.2 }:Wd).okV (3,q.1):=.inr (.inr (.inr ⟨rfl,(R.hw.wv _ hm.1).2.2⟩))
   have R3:=R2.setR hv x.r
   exact ⟨rfl,φ,R3⟩
theorem Rep.do (R:Rep O W φ) (x:St):(O.do x).1=(W.do x).1∧∃ ψ,Rep (O.do x).2 (W.do x).2 ψ:=by
 unfold Wo.do Wd.do
 by_cases hc:¬ checkM x=0
 ·rw [if_neg hc,if_neg hc];exact ⟨rfl,φ,R⟩
 have hc:checkM x=0:=Decidable.not_not.1 hc
 rw [if_pos hc,if_pos hc]
 have hu:=checkM_use hc
 have ok:∀ k,W.okV (W.rt k):=fun k=>Wd.rt_ok R.hw k
 unfold Wo.step Wd.step
 by_cases k1:x.k=1
 ·rw [if_pos k1,if_pos k1]
  exact ⟨rfl,φ,R.setR (Wd.okV_num (hu.2.2.2.2.1 k1).1 (hu.2.2.2.2.1 k1).2) _⟩
 rw [if_neg k1,if_neg k1]
 by_cases k2:x.k=2
 ·rw [if_pos k2,if_pos k2]
  exact ⟨rfl,φ,R.setR (v:=(0,0)) (.inl ⟨rfl,rfl⟩) _⟩
 rw [if_neg k2,if_neg k2]
 by_cases k3:x.k=3
 ·rw [if_pos k3,if_pos k3]
  have ha:rootOk x.a=true:=hu.2.2.1 (by rw [k3];rfl)
  rw [R.rtA ha]
  exact ⟨rfl,φ,R.setR (ok _) _⟩
 rw [if_neg k3,if_neg k3]
 by_cases k4:x.k=4
 ·rw [if_pos k4,if_pos k4]
  have ha:rootOk x.a=true:=hu.2.2.1 (by rw [k4];rfl)
  have hb:rootOk x.b=true:=hu.2.2.2.1 (by rw [k4];rfl)
  exact R.newT rfl (by simp [ha,hb])
 rw [if_neg k4,if_neg k4]
 by_cases k5:x.k=5
 ·rw [if_pos k5,if_pos k5]
  have ha:rootOk x.a=true:=hu.2.2.1 (by rw [k5];rfl)
  have h5:=hu.2.2.2.2.2 k5
  refine R.newT ?_ fun y hy=>by rw [(List.mem_replicate.1 hy).2];exact ha
  simp [fitsW];omega
 rw [if_neg k5,if_neg k5]
 by_cases k6:x.k=6
 ·rw [if_pos k6,if_pos k6]
  have ha:rootOk x.a=true:=hu.2.2.1 (by rw [k6];rfl)
  have hb:rootOk x.b=true:=hu.2.2.2.1 (by rw [k6];rfl)
  exact R.newT rfl (by simp [ha,hb])
 rw [if_neg k6,if_neg k6]
 by_cases k7:x.k=7
 ·rw [if_pos k7,if_pos k7]
  have ha:rootOk x.a=true:=hu.2.2.1 (by rw [k7];rfl)
  have hb:rootOk x.b=true:=hu.2.2.2.1 (by rw [k7];rfl)
  exact R.newT rfl (by simp [ha,hb])
 rw [if_neg k7,if_neg k7]
 by_cases k8:x.k=8
 ·rw [if_pos k8,if_pos k8]
  exact R.newT rfl (by simp)
 rw [if_neg k8,if_neg k8]
 by_cases k9:x.k=9
 ·rw [if_pos k9,if_pos k9]
  have ha:rootOk x.a=true:=hu.2.2.1 (by rw [k9];rfl)
  have hb:rootOk x.b=true:=hu.2.2.2.1 (by rw [k9];rfl)
  unfold Wo.reg Wd.reg
  have tA:=R.thingAt (ok x.a)
  rw [←R.rtA ha] at tA
  by_cases h3:¬ (W.rt x.a).1=3
  ·rw [if_neg h3] at tA
   rw [tA,if_pos (by decide),if_pos (.inl ((Wd.thing_three R.hw).2 h3))]
   exact ⟨rfl,φ,R⟩
  have h3:(W.rt x.a).1=3:=Decidable.not_not.1 h3
  rw [if_pos h3] at tA
  rw [tA]
  dsimp only
  rw [if_neg (show ¬ (0:Int)≠0 by decide)]
  by_cases c:W.guard x.b<0
  ·rw [if_pos ((R.isG hb).2 c),if_pos (.inr c)];exact ⟨rfl,φ,R⟩
  have hna:¬ W.thing x.a<0:=fun h=>(Wd.thing_three R.hw).1 h h3
  have n1:¬ O.isG (O.rtA x.b)=false:=fun h=>c ((R.isG hb).1 h)
  have n2:¬ (W.thing x.a<0∨W.guard x.b<0):=fun h=>by rcases h with h | h;exact hna h;exact c h
  rw [if_neg n1,if_neg n2]
  have e1:O.rg.length=W.regs.length:=by rw [R.rg];simp
  have e2:O.wt.length=W.wait.length:=by rw [R.wt];simp
  rw [e1,e2]
  by_cases c2:24≤W.regs.length+W.wait.length
  ·rw [if_pos c2,if_pos c2];exact ⟨rfl,φ,R⟩
  rw [if_neg c2,if_neg c2]
  have hg:=Wd.guard_live R.hw c
  have hla:=Wd.thing_live R.hw hna
  have hE:W.okE (W.guard x.b,W.thing x.a):=⟨hg.1,hg.2.1,hla⟩
  have eA:O.rtA x.a=4*φ (W.thing x.a)+1:=by rw [R.rtA ha,encV_ref φ h3];unfold Wd.thing;rw [if_pos h3]
  have eB:O.rtA x.b=4*φ (W.guard x.b)+1:=by
   rw [R.rtA hb]
   have hne:¬ (W.thing x.b<0∨(W.th (W.thing x.b)).k≠5):=fun h=>by unfold Wd.guard at c;rw [if_pos h] at c;omega
   have h3:(W.rt x.b).1=3:=Decidable.byContradiction fun h=>hne (.inl ((Wd.thing_three R.hw).2 h))
   have:W.guard x.b=(W.rt x.b).2:=by unfold Wd.guard;rw [if_neg hne];unfold Wd.thing;rw [if_pos h3]
   rw [this,encV_ref φ h3]
  refine ⟨rfl,φ,?_⟩
  rw [eA,eB]
  exact Rep.reg R hE (by omega)
 rw [if_neg k9,if_neg k9]
 by_cases k10:x.k=10
 ·rw [if_pos k10,if_pos k10]
  exact R.pop (hu.2.2.1 (by rw [k10];rfl))
 rw [if_neg k10,if_neg k10]
 have h3t:∀ k,(W.rt k).1=3→W.thing k=(W.rt k).2:=fun k h=>if_pos h
 have hfc:(if (W.rt x.a).1≠3∨(W.th (W.rt x.a).2).k=5 then (2:Int) else if x.i<0∨((W.th (W.rt x.a).2).fs.length:Int)≤x.i then 1 else 0)=W.fieldC x:=by
  unfold Wd.fieldC
  by_cases h3:(W.rt x.a).1=3
  ·have hna:¬ W.thing x.a<0:=fun h=>(Wd.thing_three R.hw).1 h h3
   rw [h3t _ h3]
   rw [h3t _ h3] at hna
   by_cases c:(W.th (W.rt x.a).2).k=5
   ·rw [if_pos (.inr c),if_pos (.inr c)]
   ·have n1:¬ ((W.rt x.a).1≠3∨(W.th (W.rt x.a).2).k=5):=fun h=>by rcases h with h | h;exact h h3;exact c h
    have n2:¬ ((W.rt x.a).2<0∨(W.th (W.rt x.a).2).k=5):=fun h=>by rcases h with h | h;exact hna h;exact c h
    rw [if_neg n1,if_neg n2]
  ·rw [if_pos (.inl h3),if_pos (.inl ((Wd.thing_three R.hw).2 h3))]
 by_cases k11:x.k=11
 ·rw [if_pos k11,if_pos k11]
  have ha:rootOk x.a=true:=hu.2.2.1 (by rw [k11];rfl)
  rw [R.rtA ha,R.get (ok x.a)]
  unfold Wo.putC Wd.get
  rw [←hfc]
  by_cases c1:(W.rt x.a).1≠3∨(W.th (W.rt x.a).2).k=5
  ·simp only [if_pos c1];exact ⟨rfl,φ,R⟩
  ·simp only [if_neg c1]
   by_cases c2:x.i<0∨((W.th (W.rt x.a).2).fs.length:Int)≤x.i
   ·simp only [if_pos c2];exact ⟨rfl,φ,R⟩
   ·simp only [if_neg c2]
    have h3:(W.rt x.a).1=3:=Decidable.byContradiction fun h=>c1 (.inl h)
    rw [h3t _ h3]
    refine ⟨rfl,φ,R.setR ?_ _⟩
    refine R.hw.tv _ (Wd.okV_ref (ok x.a) h3) _ ?_
    have hl:x.i.toNat<(W.th (W.rt x.a).2).fs.length:=by omega
    rw [List.getD_eq_getElem?_getD,List.getElem?_eq_getElem hl]
    exact List.getElem_mem _
 rw [if_neg k11,if_neg k11]
 by_cases k12:x.k=12
 ·rw [if_pos k12,if_pos k12]
  have ha:rootOk x.a=true:=hu.2.2.1 (by rw [k12];rfl)
  have hb:rootOk x.b=true:=hu.2.2.2.1 (by rw [k12];rfl)
  rw [R.rtA ha,R.rtA hb]
  obtain ⟨s1,s2,s3⟩:=Rep.set R (ok x.a) (ok x.b) x.i
  unfold Wd.set
  rw [hfc] at s1
  by_cases c:W.fieldC x=0
  ·rw [if_pos c]
   have h3:(W.rt x.a).1=3:=Decidable.byContradiction fun h=>by rw [←hfc,if_pos (.inl h)] at c;cases c
   rw [h3t _ h3]
   exact ⟨s1.trans c,φ,s3 (s1.trans c)⟩
  ·rw [if_neg c]
   rw [s2 (by rw [s1];exact c)]
   exact ⟨s1,φ,R⟩
 rw [if_neg k12,if_neg k12]
 by_cases k13:x.k=13
 ·rw [if_pos k13,if_pos k13]
  have ha:rootOk x.a=true:=hu.2.2.1 (by rw [k13];rfl)
  unfold Wo.lenC Wd.len
  rw [R.rtA ha,R.thingAt (ok x.a)]
  by_cases h3:(W.rt x.a).1=3
  ·have hna:¬ W.thing x.a<0:=fun h=>(Wd.thing_three R.hw).1 h h3
   have hlv:=Wd.okV_ref (ok x.a) h3
   rw [if_pos h3]
   by_cases c:(W.th (W.rt x.a).2).k=5
   ·have n2:W.thing x.a<0∨(W.th (W.thing x.a)).k=5:=.inr (by rw [h3t _ h3];exact c)
    rw [if_pos n2]
    dsimp only
    rw [if_pos ⟨rfl,c⟩]
    exact ⟨rfl,φ,R⟩
   ·have n2:¬ (W.thing x.a<0∨(W.th (W.thing x.a)).k=5):=fun h=>by rcases h with h | h;exact hna h;rw [h3t _ h3] at h;exact c h
    rw [if_neg n2]
    dsimp only
    rw [if_neg (fun h=>c h.2)]
    unfold Wo.putC
    rw [if_pos rfl,h3t _ h3]
    have hfl:=(fitsW_spec (R.hw.tk _ hlv)).2
    have hbg:big=1152921504606846976:=rfl
    have hn1:-big≤((W.th (W.rt x.a).2).fs.length:Int):=by omega
    have hn2:((W.th (W.rt x.a).2).fs.length:Int)<big:=by omega
    exact ⟨rfl,φ,R.setR (Wd.okV_num hn1 hn2) _⟩
  ·have n2:W.thing x.a<0∨(W.th (W.thing x.a)).k=5:=.inl ((Wd.thing_three R.hw).2 h3)
   rw [if_neg h3,if_pos n2]
   exact ⟨rfl,φ,R⟩
 rw [if_neg k13,if_neg k13]
 by_cases k14:x.k=14
 ·rw [if_pos k14,if_pos k14]
  have ha:rootOk x.a=true:=hu.2.2.1 (by rw [k14];rfl)
  have hb:rootOk x.b=true:=hu.2.2.2.1 (by rw [k14];rfl)
  rw [R.rtA ha,R.rtA hb]
  unfold Wd.same
  have key:(encV φ (W.rt x.a)=encV φ (W.rt x.b))↔W.rt x.a=W.rt x.b:=by
   refine ⟨fun h=>?_,fun h=>by rw [h]⟩
   have h1:=ok x.a;have h2:=ok x.b
   generalize W.rt x.a=u at *
   generalize W.rt x.b=v at *
   obtain ⟨u1,u2⟩:=u;obtain ⟨v1,v2⟩:=v
   unfold encV at h
   rcases h1 with a | a | a | a <;> rcases h2 with b | b | b | b
   all_goals (obtain ⟨a1,a2⟩:=a;obtain ⟨b1,b2⟩:=b;dsimp only at a1 a2 b1 b2 h;subst a1;subst b1)
   all_goals simp at h
   all_goals first | omega | skip
   ·rw [a2,b2]
   ·rw [show u2=v2 by omega]
   ·rw [a2,b2]
   ·rw [R.inj _ _ a2 b2 (by omega)]
  by_cases c:W.rt x.a=W.rt x.b
  ·rw [if_pos (key.2 c),if_pos c]
   exact ⟨rfl,φ,R.setR (Wd.okV_num (n:=1) (by decide) (by decide)) _⟩
  ·rw [if_neg (fun h=>c (key.1 h)),if_neg c]
   exact ⟨rfl,φ,R.setR (Wd.okV_num (n:=0) (by decide) (by decide)) _⟩
 rw [if_neg k14,if_neg k14]
 by_cases k15:x.k=15
 ·rw [if_pos k15,if_pos k15];exact Rep.minor R
 ·rw [if_neg k15,if_neg k15];exact Rep.major R
end
end
section
def woC (O:Wo) (d xa b:Int) (a c:Nat):Int × Wo:=
 if d=0 then (if fitsW xa b=true∧1+b≤(O.ar.nur:Int)-O.ar.yng then (1, { O with ar:=(O.ar.make xa b).2,rt:=O.rt.set c (4*O.ar.yng+1) }) else (0,O))
 else if d=1 then O.set (O.rtA a) b (O.rtA c)
 else if d=2 then O.putC c (O.ar.get (O.rtA a) b)
 else if d=3 then (if -big≤xa∧xa<big then (0,O.setRt c (4*xa)) else (1,O))
 else if d=4 then (0,O.setRt c 2)
 else if d=5 then (if (O.reg a c).1=0 then 0 else 1,(O.reg a c).2)
 else (0,O)
noncomputable def wdC (W:Wd) (d xa b:Int) (a c:Nat):Int × Wd:=
 if d=0 then (if (W.fresh c xa b).1=true then 1 else 0,(W.fresh c xa b).2)
 else if d=1 then W.do ⟨12,0,a,c,b,0⟩
 else if d=2 then W.do ⟨11,c,a,0,b,0⟩
 else if d=3 then W.do ⟨1,c,0,0,0,xa⟩
 else if d=4 then (0,(W.do ⟨2,c,0,0,0,0⟩).2)
 else if d=5 then (if (W.do ⟨9,0,a,c,0,0⟩).1=0 then 0 else 1,(W.do ⟨9,0,a,c,0,0⟩).2)
 else (0,W)
theorem Wo.do_yes {O:Wo} {x:St} (h:checkM x=0):O.do x=O.step x:=if_pos h
theorem Wo.do_no {O:Wo} {x:St} (h:¬ checkM x=0):O.do x=(checkM x,O):=if_neg h
theorem check12 {a c:Nat} (ha:a<12) (hc:c<12) (b:Int):checkM ⟨12,0,a,c,b,0⟩=0:=by simp [checkM,usesM,rootOk];omega
theorem check11 {a c:Nat} (ha:a<12) (hc:c<12) (b:Int):checkM ⟨11,c,a,0,b,0⟩=0:=by simp [checkM,usesM,rootOk];omega
theorem check9 {a c:Nat} (ha:a<12) (hc:c<12):checkM ⟨9,0,a,c,0,0⟩=0:=by simp [checkM,usesM,rootOk];omega
theorem check2 {c:Nat} (hc:c<12):checkM ⟨2,c,0,0,0,0⟩=0:=by simp [checkM,usesM,rootOk];omega
theorem check1 {c:Nat} (hc:c<12) (n:Int):checkM ⟨1,c,0,0,0,n⟩=if -big≤n∧n<big then 0 else 1:=by
 have h:(c:Int)<12:=by omega
 by_cases hn:-big≤n∧n<big
 ·simp [checkM,usesM,rootOk,hn,h]
 ·simp [checkM,usesM,rootOk,hn,h]
section
variable {O:Wo} {W:Wd} {φ:Int→Int}
theorem Rep.young_eq (R:Rep O W φ):(O.ar.nur:Int)-O.ar.yng=W.most-W.young:=by rw [R.nur,R.sy]
theorem Rep.cs (R:Rep O W φ) (d xa b:Int) {a c:Nat} (ha:a<12) (hc:c<12):(woC O d xa b a c).1=(wdC W d xa b a c).1∧∃ ψ,Rep (woC O d xa b a c).2 (wdC W d xa b a c).2 ψ:=by
 unfold woC wdC
 by_cases d0:d=0
 ·rw [if_pos d0,if_pos d0]
  unfold Wd.fresh
  rw [←R.young_eq]
  by_cases hf:fitsW xa b=true∧1+b≤(O.ar.nur:Int)-O.ar.yng
  ·simp only [if_pos hf]
   refine ⟨rfl,extF W.T.length O.ar.yng φ,?_⟩
   have:=R.fresh (r:=c) hf
   rwa [Int.toNat_natCast] at this
  ·simp only [if_neg hf]
   exact ⟨rfl,φ,R⟩
 rw [if_neg d0,if_neg d0]
 by_cases d1:d=1
 ·rw [if_pos d1,if_pos d1]
  have:=R.do ⟨12,0,a,c,b,0⟩
  rw [Wo.do_yes (check12 ha hc b)] at this
  exact this
 rw [if_neg d1,if_neg d1]
 by_cases d2:d=2
 ·rw [if_pos d2,if_pos d2]
  have:=R.do ⟨11,c,a,0,b,0⟩
  rw [Wo.do_yes (check11 ha hc b)] at this
  exact this
 rw [if_neg d2,if_neg d2]
 by_cases d3:d=3
 ·rw [if_pos d3,if_pos d3]
  have:=R.do ⟨1,c,0,0,0,xa⟩
  have e:=check1 hc xa
  by_cases hn:-big≤xa∧xa<big
  ·rw [if_pos hn] at e ⊢
   rw [Wo.do_yes e] at this
   exact this
  ·rw [if_neg hn] at e ⊢
   rw [Wo.do_no (by rw [e];decide),e] at this
   exact this
 rw [if_neg d3,if_neg d3]
 by_cases d4:d=4
 ·rw [if_pos d4,if_pos d4]
  have:=R.do ⟨2,c,0,0,0,0⟩
  rw [Wo.do_yes (check2 hc)] at this
  exact ⟨rfl,this.2⟩
 rw [if_neg d4,if_neg d4]
 by_cases d5:d=5
 ·rw [if_pos d5,if_pos d5]
  have:=R.do ⟨9,0,a,c,0,0⟩
  rw [Wo.do_yes (check9 ha hc)] at this
  refine ⟨?_,this.2⟩
  have h1:(O.reg a c).1=(W.do ⟨9,0,a,c,0,0⟩).1:=this.1
  rw [h1]
 rw [if_neg d5,if_neg d5]
 exact ⟨rfl,φ,R⟩
end
section
variable {W:Wd}
end
end
section
open Go.RowKit
structure BH where
 p:Nat
 a:WH
 b:RW
def BH.Own (h:BH) (k:Nat):Prop:=k=h.p∨h.a.Own k∨h.b.Own k
structure BothAt (w:World) (h:BH) (O:Wo) (W:Wd):Prop where
 hp:Blk w h.p [.pointer (some ⟨h.a.p,0,none⟩), .pointer (some ⟨h.b.p,0,none⟩)] 37
 H:WoodAt w h.a O
 R:WorldAt w h.b W
def BothTo (w:World) (h:BH) (w':World) (O:Wo) (W:Wd):Prop:=
 ∃ h',BothAt w' h' O W∧h'.p=h.p∧Keeps h.Own w w'∧∀ k,h'.Own k→h.Own k∨w.heap.size≤k
section
variable {w w':World} {h:BH} {O O':Wo} {W W':Wd}
theorem BothAt.apart (B:BothAt w h O W) (k:Nat):¬ (h.a.Own k∧h.b.Own k):=by
 rintro ⟨h1,h2⟩
 obtain ⟨c,T,hc,hT⟩:=B.H.own_type h1
 obtain ⟨_,c',T',hc',hT'⟩:=B.R.own_type h2
 rcases hT with rfl | rfl | rfl | rfl | rfl | rfl | rfl <;> rcases hT' with rfl | rfl | rfl | rfl <;> exact hc.ne hc' (by decide) rfl
theorem BothAt.p_a (B:BothAt w h O W):¬ h.a.Own h.p:=fun h1=>by
 obtain ⟨c,T,hc,hT⟩:=B.H.own_type h1
 rcases hT with rfl | rfl | rfl | rfl | rfl | rfl | rfl <;> exact hc.ne B.hp (by decide) rfl
theorem BothAt.p_b (B:BothAt w h O W):¬ h.b.Own h.p:=fun h1=>by
 obtain ⟨_,c,T,hc,hT⟩:=B.R.own_type h1
 rcases hT with rfl | rfl | rfl | rfl <;> exact hc.ne B.hp (by decide) rfl
theorem BothAt.keep {S:Nat→Prop} (B:BothAt w h O W) (k:Keeps S w w') (hn:∀ b,h.Own b→¬ S b):BothAt w' h O W:=
 ⟨k.blk B.hp (hn _ (.inl rfl)),B.H.keep k (fun b hb=>hn b (.inr (.inl hb))),B.R.keep k (fun b hb=>hn b (.inr (.inr hb)))⟩
theorem BothAt.same (B:BothAt w h O W) (k:Keeps (fun _=>False) w w'):BothAt w' h O W:=B.keep k (fun _ _ h=>h)
theorem BothTo.same (B:BothAt w h O W) (k:Keeps (fun _=>False) w w'):BothTo w h w' O W:=⟨h,B.same k,rfl,k.mono (fun _ _ h=>h.elim),fun k hk=>.inl hk⟩
theorem BothTo.wood (B:BothAt w h O W) (t:WoodTo w h.a w' O'):BothTo w h w' O' W:=by
 obtain ⟨h',H',e',k',o'⟩:=t
 refine ⟨⟨h.p,h',h.b⟩,⟨?_,H',B.R.keep k' (fun b hb e=>B.apart b ⟨e,hb⟩)⟩,rfl,k'.mono (fun b _ hb=>.inr (.inl hb)),fun k hk=>?_⟩
 ·have:=k'.blk B.hp B.p_a
  rw [←e'] at this
  exact this
 ·rcases hk with hk | hk | hk
  ·exact .inl (.inl hk)
  ·exact (o' k hk).imp (fun h=>.inr (.inl h)) id
  ·exact .inl (.inr (.inr hk))
theorem BothTo.world (B:BothAt w h O W) (t:WorldTo w h.b w' W'):BothTo w h w' O W':=by
 obtain ⟨h',H',e',k',o'⟩:=t
 refine ⟨⟨h.p,h.a,h'⟩,⟨?_,B.H.keep k' (fun b hb e=>B.apart b ⟨hb,e⟩),H'⟩,rfl,k'.mono (fun b _ hb=>.inr (.inr hb)),fun k hk=>?_⟩
 ·have:=k'.blk B.hp B.p_b
  rw [←e'] at this
  exact this
 ·rcases hk with hk | hk | hk
  ·exact .inl (.inl hk)
  ·exact .inl (.inr (.inl hk))
  ·exact (o' k hk).imp (fun h=>.inr (.inr h)) id
structure BM (w0 w:World) (p:Nat) (h:BH) (O:Wo) (W:Wd):Prop where
 B:BothAt w h O W
 e:h.p=p
 K:Keeps (fun _=>False) w0 w
 own:∀ k,h.Own k→w0.heap.size≤k
theorem BM.to {w0:World} {p:Nat} (M:BM w0 w p h O W) (t:BothTo w h w' O' W'):∃ h',BM w0 w' p h' O' W':=by
 obtain ⟨h',H',e',k',o'⟩:=t
 refine ⟨h',H',e'.trans M.e,M.K.then k' (fun b hb=>.inr (M.own b hb)),fun b hb=>?_⟩
 rcases o' b hb with h1 | h1
 ·exact M.own b h1
 ·have:=M.K.size;omega
theorem BM.same {w0:World} {p:Nat} (M:BM w0 w p h O W) (k:Keeps (fun _=>False) w w'):BM w0 w' p h O W:=⟨M.B.same k,M.e,M.K.trans k,M.own⟩
end
theorem Root_c (k:Int) (w:World):Calls Tryz.prog 25 #[.int .i64 k] w fun e w'=>e=.returned (.int .i64 (rootN k))∧w=w':=by
 have h1:=unS_wrap k;have h2:=rootN_tmod k;have h3:=rootN_mod k;have h4:=rootN_wrap k
 have H1:=Hz h1;have H2:=Hz h2;have H3:=Hz h3;have H4:=Hz h4
 clear h1 h2 h3 h4
 go_enter Tryz.func25,Tryz.ntmps25
 go_wp2_with fail
 go_ret
 refine ⟨ret_i64 ?_,rfl⟩
 rw [H1.out,H2.out,IntWalk.wrap64_in _ (by have:=rootN_lt k;omega)]
def BothRet (w:World) (n o:Int) (e:Ending) (w':World):Prop:=
 ∃ h:BH,e=.returned (.tuple #[.pointer (some ⟨h.p,0,none⟩), .bool true])∧BothAt w' h (Wo.new n o) (Wd.new n o)∧Keeps (fun _=>False) w w'∧∀ k,h.Own k→w.heap.size≤k
theorem start_no (n o:Int) (w:World) (h:Ar.fits n o=false) :
  Calls Tryz.prog 13 #[.int .i64 n, .int .i64 o] w fun e w'=>e=.returned (.tuple #[.pointer none, .bool false])∧Keeps (fun _=>False) w w':=by
 go_enter Tryz.func13,Tryz.ntmps13
 go_wp2_with fail
 refine (WNew_no n o _ h).mono ?_
 rintro e w1 ⟨rfl,hk⟩
 have HK:=Hz hk
 clear hk
 go_wp2_with fail
 go_ret2
 exact ⟨rfl,HK.out.alloc _⟩
theorem start_yes (n o:Int) (w:World) (h:Ar.fits n o=true) :
  Calls Tryz.prog 13 #[.int .i64 n, .int .i64 o] w fun e w'=>BothRet w n o e w':=by
 have hb:16≤n∧n≤256∧0≤o∧o≤1024:=by simp [Ar.fits] at h;omega
 have HB:=Hz hb
 go_enter Tryz.func13,Tryz.ntmps13
 go_wp2_with fail
 refine (WNew_yes n o _ h).mono ?_
 rintro e w1 ⟨h,rfl,H1,k1,o1⟩
 obtain ⟨g,oo,cap,hro,hown,hgl,c3,-,-⟩:=H1.roots
 have e12:(Wo.new n o).rt.length=12:=by simp [Wo.new]
 rw [e12] at c3
 have c0:=H1.ptrs.1;have pl:=H1.hp.lt
 have HA:=Hz H1;have HK:=Hz k1;have HO:=Hz o1
 clear H1 k1 o1 hro hown hgl e12 hb
 go_wp2_with fail
 have hka:=(Kz w1).alloc (.cells #[.int .i64 0, .int .i64 0] 28)
 have HA2:=Hz (HA.out.keep hka (fun _ _ h=>h));have HK2:=Hz (HK.out.trans hka)
 generalize w1.alloc (.cells #[.int .i64 0, .int .i64 0] 28)=w2 at *
 clear hka c0 c3 pl
 refine (RNewWorld_c n o HB.out.1 HB.out.2.1 HB.out.2.2.1 HB.out.2.2.2 w2).mono ?_
 rintro e w3 ⟨hr,rfl,HR,kr,or⟩
 have HA3:=Hz (HA2.out.keep kr (fun _ _ h=>h));have HK3:=Hz (HK2.out.trans kr)
 have HR3:=Hz HR;have HO3:=Hz or
 clear HR kr or
 go_wp2_with fail
 go_ret2
 have ka:=(Kz w3).alloc (.cells #[.pointer (some ⟨h.p,0,none⟩), .pointer (some ⟨hr.p,0,none⟩)] 37)
 refine ⟨⟨w3.heap.size,h,hr⟩,rfl,⟨Blk.newAt _ rfl rfl,HA3.out.keep ka (fun _ _ h=>h),HR3.out.same ka⟩,HK3.out.trans ka,fun k hk=>?_⟩
 rcases hk with rfl | hk | hk
 ·exact HK3.out.size
 ·exact HO.out k hk
 ·exact Nat.le_trans HK2.out.size (HO3.out k hk)
end
section
open Go.RowKit
def WH.In (h:WH) (k:Nat):Prop:=(k=h.pa∨k=h.g)∨k=h.cb
def WoodIn (w:World) (h:WH) (w':World) (O:Wo):Prop:=WoodAt w' h O∧Keeps h.In w w'
theorem WH.In.own {h:WH} {k:Nat} (hk:h.In k):h.Own k:=by
 rcases hk with hk | hk
 ·exact .inr (.inl hk)
 ·exact .inr (.inr (.inl (.inr hk)))
section
variable {w w':World} {h:WH} {O O':Wo}
theorem WoodIn.arena (H:WoodAt w h O) {A:Ar} (t:ArenaTo w h.pa h.g w' A) (hn:A.nur=O.ar.nur):WoodIn w h w' { O with ar:=A }:=
 ⟨H.arena t hn,t.k.mono (fun k _ hk=>.inl hk)⟩
theorem WSet_in (x i y:Int) (H:WoodAt w h O) (hy:R64 y) :
  Calls Tryz.prog 47 #[.pointer (some ⟨h.p,0,none⟩), .int .i64 x, .int .i64 i, .int .i64 y] w fun e w'=>
   e=.returned (.int .i64 (O.set x i y).1)∧WoodIn w h w' (O.set x i y).2:=by
 have HH:=Hz H;have HY:=Hz hy
 have pl:=H.hp.lt
 have h4:=H.ok.ha.h4
 have HN:=Hz (show 0≤(O.ar.nur:Int)∧(O.ar.nur:Int)≤1000000 by have:=H.ok.ha.h1;have:=H.ok.ha.h2;have:=H.ok.ha.h3;omega)
 by_cases hc:(O.ar.get x i).2=0
 ·have HE:=Hz (Wo.set_yes (y:=y) hc)
  obtain ⟨p1,-,p2,p3,p4,p5,-⟩:=get_place H.ok.ha hc
  have p6:=(O.ar.thing_fields (x/4)).2
  have p7:i<12:=by omega
  have P1:=Hz p1;have HC:=Hz hc
  clear H hy hc p1 p5 p6
  go_enter Tryz.func47,Tryz.ntmps47
  go_wp2_with fail
  refine (Get_c x i HH.out).mono ?_
  rintro e w1 ⟨rfl,rfl⟩
  rw [HC.out]
  go_wp2_with fail
  refine (At_yes x _ P1.out).mono ?_
  rintro e w1 ⟨rfl,rfl⟩
  obtain ⟨c0,-,-,-⟩:=HH.out.ptrs
  go_wp2_with fail
  refine (Store_c (x/4+1+i) y _ HH.out.ha HY.out).mono ?_
  rintro e w1 ⟨rfl,ht⟩
  have HT:=Hz ht.k
  have HW:=Hz (HH.out.arena ht (O.ar.store_nur _ _))
  have HTO:=Hz (WoodIn.arena HH.out ht (O.ar.store_nur _ _))
  clear c0 pl ht
  generalize hA:O.ar.store (x/4+1+i) y=A at *
  have HA:=Hz hA;clear hA
  obtain ⟨c0,c1,-,-⟩:=HW.out.ptrs
  have pl:=HW.out.hp.lt
  by_cases hy4:y%4=1
  ·have HY4:=Hz hy4
   cases hyo:A.young (y/4)
   ·have HF:=Hz (show ¬ (y%4=1∧A.young (y/4)=true∧A.old (x/4)=true) by rw [hyo];exact fun h=>by cases h.2.1)
    clear hy4
    go_wp2_with fail
    refine (At_yes y _ HY4.out).mono ?_
    rintro e w2 ⟨rfl,rfl⟩
    go_wp2_with fail
    refine (Young_c (y/4) _ HW.out.ha).mono ?_
    rintro e w2 ⟨rfl,rfl⟩
    rw [hyo]
    go_wp2_with fail
    go_ret
    refine ⟨by rw [HE.out];rfl,?_⟩
    rw [HE.out,if_neg HF.out]
    exact HTO.out
   ·cases hol:A.old (x/4)
    ·have HF:=Hz (show ¬ (y%4=1∧A.young (y/4)=true∧A.old (x/4)=true) by rw [hol];exact fun h=>by cases h.2.2)
     clear hy4
     go_wp2_with fail
     refine (At_yes y _ HY4.out).mono ?_
     rintro e w2 ⟨rfl,rfl⟩
     go_wp2_with fail
     refine (Young_c (y/4) _ HW.out.ha).mono ?_
     rintro e w2 ⟨rfl,rfl⟩
     rw [hyo]
     go_wp2_with fail
     refine (Old_c (x/4) _ HW.out.ha).mono ?_
     rintro e w2 ⟨rfl,rfl⟩
     rw [hol]
     go_wp2_with fail
     go_ret
     refine ⟨by rw [HE.out];rfl,?_⟩
     rw [HE.out,if_neg HF.out]
     exact HTO.out
    ·have HF:=Hz (show (y%4=1∧A.young (y/4)=true∧A.old (x/4)=true) from ⟨hy4,hyo,hol⟩)
     clear hy4
     go_wp2_with fail
     refine (At_yes y _ HY4.out).mono ?_
     rintro e w2 ⟨rfl,rfl⟩
     go_wp2_with fail
     refine (Young_c (y/4) _ HW.out.ha).mono ?_
     rintro e w2 ⟨rfl,rfl⟩
     rw [hyo]
     go_wp2_with fail
     refine (Old_c (x/4) _ HW.out.ha).mono ?_
     rintro e w2 ⟨rfl,rfl⟩
     rw [hol]
     go_wp2_with fail
     have hcc:=HW.out.hc
     have hcl:=HW.out.ok.hc
     have hnn:A.nur=O.ar.nur:=by rw [←HA.out];exact O.ar.store_nur _ _
     refine (Mark_c h.pc h.cb A.nur (x/4) O.cd _ hcc (by rw [hnn];exact HN.out.1) (by rw [hnn];exact HN.out.2) (by omega) (by omega) (by simpa using Nat.le_trans hcl (by decide))).mono ?_
     rintro e w2 ⟨rfl,hc2,hk2⟩
     have HTO2:=Hz (show WoodIn w h w2 { O with ar:=A,cd:=markL O.ar.nur O.cd (x/4) } by
      have:=HW.out.cards hc2 (by rw [markL_length];exact hcl) hk2
      rw [hnn] at this
      exact ⟨this,(HT.out.mono (fun k _ hk=>.inl hk)).then hk2 (fun k hk=>.inl (.inr hk))⟩)
     clear hcc hcl hnn hc2 hk2
     go_wp2_with fail
     go_ret
     refine ⟨by rw [HE.out];rfl,?_⟩
     rw [HE.out,if_pos HF.out]
     exact HTO2.out
  ·have HY4:=Hz hy4
   have HF:=Hz (show ¬ (y%4=1∧A.young (y/4)=true∧A.old (x/4)=true) from fun h=>hy4 h.1)
   clear hy4
   go_wp2_with fail
   refine (At_no y _ HY4.out).mono ?_
   rintro e w2 ⟨rfl,rfl⟩
   go_wp2_with fail
   go_ret
   refine ⟨by rw [HE.out];rfl,?_⟩
   rw [HE.out,if_neg HF.out]
   exact HTO.out
 ·have HE:=Hz (Wo.set_no (y:=y) hc)
  have HTC:=Hz (Get_c x i H)
  obtain ⟨⟨a,c⟩,hT⟩:∃ t,O.ar.get x i=t:=⟨_,rfl⟩
  rw [hT] at hc HE HTC
  dsimp only at hc HE HTC
  have hcb:(c != 0)=true:=by simpa using hc
  clear H hc hT
  go_enter Tryz.func47,Tryz.ntmps47
  go_wp2_with fail
  refine HTC.out.mono ?_
  rintro e w1 ⟨rfl,rfl⟩
  go_wp2_with fail
  go_ret
  refine ⟨by rw [HE.out];rfl,?_⟩
  rw [HE.out]
  exact ⟨HH.out,Keeps.refl _ _⟩
end
end
section
open Go.RowKit
def BothDoRet (w:World) (h:BH) (O:Wo) (W:Wd) (d xa xb:Int) (a c:Nat) (e:Ending) (w':World):Prop:=
 e=.returned (.bool (decide ((woC O d xa xb a c).1=(wdC W d xa xb a c).1)))∧BothTo w h w' (woC O d xa xb a c).2 (wdC W d xa xb a c).2
section
variable {w w':World} {h:BH} {O O':Wo} {W W':Wd}
theorem WoodAt.sideTo {h:WH} {rg wt:List (Int × Int)} (H:WoodAt w h O) (t:SideTo w h.ps h.rv h.wv w' rg wt) (hok:Wo.ok { O with rg:=rg,wt:=wt }):WoodTo w h w' { O with rg:=rg,wt:=wt }:=by
 obtain ⟨rv',wv',hs,k,o⟩:=t
 have n1:∀ {b:Nat} {c:List Value} {T:TypeId},Blk w b c T→T≠133→T≠101→¬ SideFp h.ps h.rv h.wv b:=fun hb h1 h2=>H.side_ne hb h1 h2
 refine ⟨⟨h.p,h.pa,h.g,h.pc,h.cb,h.ps,rv',wv',h.ro⟩,⟨k.blk H.hp (n1 H.hp (by decide) (by decide)),H.ha.keep k (n1 H.ha.hp (by decide) (by decide)) (n1 H.ha.hg (by decide) (by decide)),H.hc.keep k (n1 H.hc.hp (by decide) (by decide)) (n1 H.hc.hq (by decide) (by decide)),hs,H.hr.keep k (fun b hb=>?_),H.ap,hok⟩,rfl,k.mono (fun b _ hb=>.inr (.inr (.inr (.inl hb)))),fun b hb=>?_⟩
 ·obtain ⟨_,c,hc⟩:=H.hr.own hb
  exact n1 hc (by decide) (by decide)
 ·rcases hb with hb | hb | hb | hb | hb
  ·exact .inl (.inl hb)
  ·exact .inl (.inr (.inl hb))
  ·exact .inl (.inr (.inr (.inl hb)))
  ·exact (o b hb).imp (fun h=>.inr (.inr (.inr (.inl h)))) id
  ·exact .inl (.inr (.inr (.inr (.inr hb))))
theorem BothAt.inW (B:BothAt w h O W) (t:WoodIn w h.a w' O'):BothAt w' h O' W∧Keeps h.Own w w':=by
 have kk:=t.2.mono (fun k _ hk=>hk.own)
 exact ⟨⟨kk.blk B.hp B.p_a,t.1,B.R.keep kk (fun b hb e=>B.apart b ⟨e,hb⟩)⟩,kk.mono (fun b _ hb=>.inr (.inl hb))⟩
theorem BothAt.rootW (B:BothAt w h O W) {g o cap k:Nat} {x:Int} (e:h.a.ro=.slice (some ⟨g,o,none⟩) 12 cap) (hk:k<12) (hx:R64 x) :
  BothAt (w.setCell ⟨g,o+k,none⟩ (.int .i64 x)) h { O with rt:=O.rt.set k x } W∧Keeps h.Own w (w.setCell ⟨g,o+k,none⟩ (.int .i64 x)):=by
 have h12:=B.H.ok.h12
 obtain ⟨H',k'⟩:=B.H.setRoot (k:=k) (x:=x) (by rw [h12];exact e) (by rw [h12];exact hk) hx
 have kk:Keeps h.a.Own w (w.setCell ⟨g,o+k,none⟩ (.int .i64 x)):=k'.mono (fun b _ hb=>.inr (.inr (.inr (.inr hb))))
 exact ⟨⟨kk.blk B.hp B.p_a,H',B.R.keep kk (fun b hb e=>B.apart b ⟨e,hb⟩)⟩,kk.mono (fun b _ hb=>.inr (.inl hb))⟩
theorem BothAt.pcells (B:BothAt w h O W):w.cell? ⟨h.p,0,none⟩=some (.pointer (some ⟨h.a.p,0,none⟩))∧w.cell? ⟨h.p,1,none⟩=some (.pointer (some ⟨h.b.p,0,none⟩))∧h.p<w.heap.size:=
 ⟨B.hp.cell 0,B.hp.cell 1,B.hp.lt⟩
theorem BothAt.rcells (B:BothAt w h O W) {g o cap c:Nat} (e:h.a.ro=.slice (some ⟨g,o,none⟩) 12 cap) (hc:c<12):w.cell? ⟨h.a.p,0,none⟩=some (.pointer (some ⟨h.a.pa,0,none⟩))∧w.cell? ⟨h.a.p,3,none⟩=some (.slice (some ⟨g,o,none⟩) 12 cap)∧h.a.p<w.heap.size ∧
  g<w.heap.size∧w.frozen? ⟨g,o+c,none⟩=false∧w.cell? ⟨g,o+c,none⟩=some (.int .i64 (O.rtA c)):=by
 have h12:=B.H.ok.h12
 obtain ⟨g',o',cap',hro,hown,hgl,q3,fz,rcs⟩:=B.H.roots
 rw [h12,e] at hro
 cases hro
 rw [h12] at q3
 refine ⟨B.H.ptrs.1,q3,B.H.hp.lt,hgl,fz _,?_⟩
 have:=rcs c (by omega)
 unfold Wo.rtA
 rw [Int.toNat_natCast]
 exact this
theorem BothTo.from_keep {w1:World} (k:Keeps h.Own w w1) (t:BothTo w1 h w' O' W'):BothTo w h w' O' W':=by
 obtain ⟨h1,H1,e1,k1,o1⟩:=t
 exact ⟨h1,H1,e1,k.trans k1,fun b hb=>(o1 b hb).imp id (fun h=>Nat.le_trans k.size h)⟩
theorem bothDo0_c (xa xb xc:Int) (B:BothAt w h O W) (hT:W.T.length≤90000) (hb:R64 xb) :
  Calls Tryz.prog 15 #[.pointer (some ⟨h.p,0,none⟩), .agg #[.int .i64 0, .int .i64 xa, .int .i64 xb, .int .i64 xc]] w (BothDoRet w h O W 0 xa xb (rootN xa) (rootN xc)):=by
 have ka:=(Kz w).alloc (.cells #[.int .i64 0, .int .i64 xa, .int .i64 xb, .int .i64 xc] 31)
 have hs:Blk (w.alloc (.cells #[.int .i64 0, .int .i64 xa, .int .i64 xb, .int .i64 xc] 31)) w.heap.size [.int .i64 0, .int .i64 xa, .int .i64 xb, .int .i64 xc] 31:=Blk.newAt _ rfl rfl
 have HB1:=Hz (B.same ka);have SB:=Hz hs;have K1:=Hz ka;have HBB:=Hz hb
 clear ka hs B hb
 go_enter Tryz.func15,Tryz.ntmps15
 go_wp2_with fail
 generalize w.alloc (.cells #[.int .i64 0, .int .i64 xa, .int .i64 xb, .int .i64 xc] 31)=w1 at *
 generalize w.heap.size=sb at *
 have s0:=SB.out.cell 0;have s1:=SB.out.cell 1;have s2:=SB.out.cell 2;have s3:=SB.out.cell 3;have sl:=SB.out.lt
 simp only [List.getElem?_cons_zero,List.getElem?_cons_succ] at s0 s1 s2 s3
 refine wp_region_ro (.free 0 (.free 3 (.pure 1 (.pure 4 (.run 2 (.run 5 (.swi [] (.free 6 (.free 7 (.fin)))))))))) [5,6,7] (fun w'=>w'.cell? ⟨sb,1,none⟩=some (.int .i64 xa)∧w'.cell? ⟨sb,3,none⟩=some (.int .i64 xc)) (by kernel_rfl) (by kernel_rfl) ⟨s1,s3⟩ ?_
 iterate 4 first | (refine wpRO_free rfl rfl _ (fun w'=>by go_simp;exact Gives.mk _ _) (fun K hK=>?_);go_simp;refine hK _ ?_;clear hK K) | (refine wpRO_skipF rfl rfl (fun K hK=>?_);go_simp;refine hK _ ?_;clear hK K) | (refine wpRO_pure rfl rfl _ (fun w' hG=>by obtain ⟨s1,s3⟩:=hG;exact gives_agg2 rfl (by decide +kernel) rfl (by assumption) (by assumption)) (fun K hK=>?_);go_simp;refine hK _ ?_;clear hK K) | (refine wpRO_pure rfl rfl _ (fun w' hG=>by obtain ⟨s1,s3⟩:=hG;go_simp;exact Gives.mk _ _) (fun K hK=>?_);go_simp;refine hK _ ?_;clear hK K) | (refine wpRO_skip rfl rfl (fun K hK=>?_);go_simp;refine hK _ ?_;clear hK K)
 refine wpRO_run rfl rfl (fun K hK=>?_);unfold gRun;go_simp
 refine (Root_c xa _).mono ?_
 rintro e w2 ⟨rfl,rfl⟩
 refine hK _ _ (fun hg=>hg) ?_
 clear hK K
 refine wpRO_chg rfl rfl rfl (fun K hK=>?_);unfold gRun;go_simp
 refine (Root_c xc _).mono ?_
 rintro e w2 ⟨rfl,rfl⟩
 refine hK _ _ ?_
 clear hK K
 refine wpRO_swi (fun _=>True) trivial ?_
 iterate 2 first | (refine wpRO_free rfl rfl _ (fun w'=>by go_simp;exact Gives.mk _ _) (fun K hK=>?_);go_simp;refine hK _ ?_;clear hK K) | (refine wpRO_skipF rfl rfl (fun K hK=>?_);go_simp;refine hK _ ?_;clear hK K)
 refine wpRO_fin ?_
 have ha12:=rootN_lt xa;have hc12:=rootN_lt xc
 generalize rootN xa=a at *
 generalize rootN xc=c at *
 have HB2:=Hz (HB1.out.same ((Kz w1).drew));have K2:=Hz (K1.out.drew);have SB2:=Hz (show Blk w1.drew sb _ _ from SB.out.drew)
 clear s0 s1 s2 s3 sl HB1 K1 SB
 generalize w1.drew=w2 at *
 have s0:=SB2.out.cell 0;have s1:=SB2.out.cell 1;have s2:=SB2.out.cell 2;have s3:=SB2.out.cell 3;have sl:=SB2.out.lt
 simp only [List.getElem?_cons_zero,List.getElem?_cons_succ] at s0 s1 s2 s3
 have b0:=HB2.out.hp.cell 0;have b1:=HB2.out.hp.cell 1;have bl:=HB2.out.hp.lt
 simp only [List.getElem?_cons_zero,List.getElem?_cons_succ] at b0 b1
 have hor12:=HB2.out.H.ok.h12
 obtain ⟨g,o,cap,hro,hown,hgl,q3,fz,rcs⟩:=HB2.out.H.roots
 obtain ⟨q0,q1,q2,-⟩:=HB2.out.H.ptrs
 have ra:=rcs a (by omega);have rc:=rcs c (by omega)
 have fc:=fz (o+c)
 rw [hor12] at q3 hro
 have HRO:=Hz hro;have HOWN:=Hz hown;have HO12:=Hz hor12;have HFZ:=Hz fz;have HRCS:=Hz rcs
 have ql:=HB2.out.H.hp.lt
 clear hro hown hor12 fz rcs
 have yl:(O.ar.yng:Int)≤1280:=by have:=HB2.out.H.ok.ha.h1;have:=HB2.out.H.ok.ha.h2;have:=HB2.out.H.ok.ha.h3;have:=HB2.out.H.ok.ha.h4;omega
 have ha12i:(a:Int)<12:=by omega
 have hc12i:(c:Int)<12:=by omega
 have HRB:=Hz (show R64 (O.ar.make xa xb).1 by unfold Ar.make;split <;> (unfold R64;dsimp only);have:=HB2.out.H.ok.ha.h1;have:=HB2.out.H.ok.ha.h2;have:=HB2.out.H.ok.ha.h3;have:=HB2.out.H.ok.ha.h4;all_goals omega)
 clear ra rc fc
 go_wp2_with fail
 refine wp_region_ro (.free 0 (.free 1 (.free 2 (.free 7 (.free 9 (.pure 3 (.free 4 (.free 5 (.pure 6 (.pure 8 (.pure 10 (.run 11 (.swi [] (.free 12 (.fin))))))))))))))) [11,12] (fun w'=>w'.cell? ⟨h.p,0,none⟩=some (.pointer (some ⟨h.a.p,0,none⟩))∧w'.cell? ⟨h.a.p,0,none⟩=some (.pointer (some ⟨h.a.pa,0,none⟩))∧w'.cell? ⟨sb,1,none⟩=some (.int .i64 xa)∧w'.cell? ⟨sb,2,none⟩=some (.int .i64 xb)) (by kernel_rfl) (by kernel_rfl) ⟨b0,q0,s1,s2⟩ ?_
 iterate 11 first | (refine wpRO_free rfl rfl _ (fun w'=>by go_simp;exact Gives.mk _ _) (fun K hK=>?_);go_simp;refine hK _ ?_;clear hK K) | (refine wpRO_skipF rfl rfl (fun K hK=>?_);go_simp;refine hK _ ?_;clear hK K) | (refine wpRO_pure rfl rfl _ (fun w' hG=>by obtain ⟨b0,q0,s1,s2⟩:=hG;exact gives_agg2 rfl (by decide +kernel) rfl (by assumption) (by assumption)) (fun K hK=>?_);go_simp;refine hK _ ?_;clear hK K) | (refine wpRO_pure rfl rfl _ (fun w' hG=>by obtain ⟨b0,q0,s1,s2⟩:=hG;go_simp;exact Gives.mk _ _) (fun K hK=>?_);go_simp;refine hK _ ?_;clear hK K) | (refine wpRO_skip rfl rfl (fun K hK=>?_);go_simp;refine hK _ ?_;clear hK K)
 refine wpRO_chg rfl rfl rfl (fun K hK=>?_);unfold gRun;go_simp
 refine (Make_c xa xb _ (HB2.out.same ((Kz w2).drew)).H.ha HBB.out).mono ?_
 rintro e w3 ⟨rfl,ht⟩
 refine hK _ _ ?_
 clear hK K
 refine wpRO_swi (fun _=>True) trivial ?_
 iterate 1 first | (refine wpRO_free rfl rfl _ (fun w'=>by go_simp;exact Gives.mk _ _) (fun K hK=>?_);go_simp;refine hK _ ?_;clear hK K) | (refine wpRO_skipF rfl rfl (fun K hK=>?_);go_simp;refine hK _ ?_;clear hK K)
 refine wpRO_fin ?_
 have B2:=HB2.out.same ((Kz w2).drew)
 have hin:=B2.inW (WoodIn.arena B2.H ht (by unfold Ar.make;split <;> rfl))
 have HB3:=Hz hin.1
 have K3:=Hz (((K2.out.drew).mono (fun _ _ h=>h.elim)).trans hin.2:Keeps h.Own w w3)
 have SB3:=Hz (show Blk w3 sb _ _ from ht.k.blk SB2.out.drew (fun e=>by
  rcases e with e | e
  ·exact SB2.out.ne HB2.out.H.ha.hp (by decide) e
  ·exact SB2.out.ne HB2.out.H.ha.hg (by decide) e))
 clear B2 hin ht b0 b1 bl q0 q1 q2 q3 ql s0 s1 s2 s3 sl hgl HB2 K2 SB2 HRCS HFZ
 obtain ⟨⟨f,W'⟩,hF⟩:∃ t,W.fresh c xa xb=t:=⟨_,rfl⟩
 have HF:=Hz hF
 clear hF
 by_cases hf:fitsW xa xb=true∧1+xb≤(O.ar.nur:Int)-O.ar.yng
 ·have hy:(O.ar.make xa xb).1=(O.ar.yng:Int):=by rw [Ar.make_yes hf]
  have HWO:=Hz (show woC O 0 xa xb a c=(1, { O with ar:=(O.ar.make xa xb).2,rt:=O.rt.set c (4*O.ar.yng+1) }) by unfold woC;rw [if_pos rfl,if_pos hf])
  rw [hy]
  clear hf hy
  obtain ⟨b0,b1,bl⟩:=HB3.out.pcells
  obtain ⟨q0,q3,ql,gl,gf,gc⟩:=HB3.out.rcells HRO.out hc12
  have s1:=SB3.out.cell 1;have s2:=SB3.out.cell 2;have sl:=SB3.out.lt
  simp only [List.getElem?_cons_zero,List.getElem?_cons_succ] at s1 s2
  go_wp2_with fail
  refine wp_region_ro (.free 0 (.free 1 (.free 2 (.free 7 (.free 8 (.pure 3 (.free 4 (.free 5 (.pure 6 (.run 9 (.free 10 (.run 11 (.swi [] (.fin)))))))))))))) [11] (fun w'=>w'.cell? ⟨h.p,0,none⟩=some (.pointer (some ⟨h.a.p,0,none⟩))∧w'.cell? ⟨h.a.p,3,none⟩=some (.slice (some ⟨g,o,none⟩) 12 cap)) (by kernel_rfl) (by kernel_rfl) ⟨b0,q3⟩ ?_
  iterate 9 first | (refine wpRO_free rfl rfl _ (fun w'=>by go_simp;exact Gives.mk _ _) (fun K hK=>?_);go_simp;refine hK _ ?_;clear hK K) | (refine wpRO_skipF rfl rfl (fun K hK=>?_);go_simp;refine hK _ ?_;clear hK K) | (refine wpRO_pure rfl rfl _ (fun w' hG=>by obtain ⟨b0,q3⟩:=hG;exact gives_agg2 rfl (by decide +kernel) rfl (by assumption) (by assumption)) (fun K hK=>?_);go_simp;refine hK _ ?_;clear hK K) | (refine wpRO_pure rfl rfl _ (fun w' hG=>by obtain ⟨b0,q3⟩:=hG;go_simp;exact Gives.mk _ _) (fun K hK=>?_);go_simp;refine hK _ ?_;clear hK K) | (refine wpRO_skip rfl rfl (fun K hK=>?_);go_simp;refine hK _ ?_;clear hK K)
  refine wpRO_run rfl rfl (fun K hK=>?_);unfold gRun;go_simp
  refine (Ref_c (O.ar.yng:Int) _ (by omega) (by omega)).mono ?_
  rintro e w5 ⟨rfl,rfl⟩
  refine hK _ _ (fun hg=>hg) ?_
  clear hK K
  iterate 1 first | (refine wpRO_free rfl rfl _ (fun w'=>by go_simp;exact Gives.mk _ _) (fun K hK=>?_);go_simp;refine hK _ ?_;clear hK K) | (refine wpRO_skipF rfl rfl (fun K hK=>?_);go_simp;refine hK _ ?_;clear hK K)
  refine wpRO_chg rfl rfl rfl (fun K hK=>?_);unfold gRun;go_simp
  refine hK _ _ ?_
  clear hK K
  refine wpRO_swi (fun _=>True) trivial (wpRO_fin ?_)
  have hin:=HB3.out.rootW (k:=c) (x:=4*(O.ar.yng:Int)+1) HRO.out hc12 (by unfold R64;omega)
  have HB4:=Hz (hin.1.same ((Kz _).drew))
  have K4:=Hz ((K3.out.trans hin.2).drew)
  have SB4:=Hz (show Blk _ sb _ _ from ((Keeps.refl (·=g) w3).setCell (p:=⟨g,o+c,none⟩) (.inl rfl) (.int .i64 (4*(O.ar.yng:Int)+1))).drew.blk SB3.out (fun e=>by
   obtain ⟨_,l,hl⟩:=HB3.out.H.hr.own (k:=g) (by rw [HRO.out];rfl)
   exact SB3.out.ne hl (by decide) e))
  clear hin HB3 K3 SB3 b0 b1 bl q0 q3 ql gl gf gc s1 s2 sl
  generalize (w3.setCell ⟨g,o+c,none⟩ (.int .i64 (4*(O.ar.yng:Int)+1))).drew=w4 at *
  obtain ⟨b0,b1,bl⟩:=HB4.out.pcells
  have s1:=SB4.out.cell 1;have s2:=SB4.out.cell 2;have sl:=SB4.out.lt
  simp only [List.getElem?_cons_zero,List.getElem?_cons_succ] at s1 s2
  have hfr:=WFresh_c c xa xb ((HB4.out.same ((Kz w4).drew)).R) hT hc12 HBB.out.1 HBB.out.2
  rw [HF.out] at hfr
  have HFR:=Hz hfr
  clear hfr b0
  cases f
  all_goals
   go_wp2_with fail
   refine wp_region_ro (.free 0 (.free 1 (.free 2 (.free 4 (.free 5 (.free 7 (.free 10 (.free 11 (.pure 3 (.pure 6 (.pure 8 (.run 9 (.swi [] (.free 12 (.free 13 (.fin)))))))))))))))) [9,12,13] (fun w'=>w'.cell? ⟨h.p,1,none⟩=some (.pointer (some ⟨h.b.p,0,none⟩))∧w'.cell? ⟨sb,1,none⟩=some (.int .i64 xa)∧w'.cell? ⟨sb,2,none⟩=some (.int .i64 xb)) (by kernel_rfl) (by kernel_rfl) ⟨b1,s1,s2⟩ ?_
   iterate 11 first | (refine wpRO_free rfl rfl _ (fun w'=>by go_simp;exact Gives.mk _ _) (fun K hK=>?_);go_simp;refine hK _ ?_;clear hK K) | (refine wpRO_skipF rfl rfl (fun K hK=>?_);go_simp;refine hK _ ?_;clear hK K) | (refine wpRO_pure rfl rfl _ (fun w' hG=>by obtain ⟨b1,s1,s2⟩:=hG;exact gives_agg2 rfl (by decide +kernel) rfl (by assumption) (by assumption)) (fun K hK=>?_);go_simp;refine hK _ ?_;clear hK K) | (refine wpRO_pure rfl rfl _ (fun w' hG=>by obtain ⟨b1,s1,s2⟩:=hG;go_simp;exact Gives.mk _ _) (fun K hK=>?_);go_simp;refine hK _ ?_;clear hK K) | (refine wpRO_skip rfl rfl (fun K hK=>?_);go_simp;refine hK _ ?_;clear hK K)
   refine wpRO_chg rfl rfl rfl (fun K hK=>?_);unfold gRun;go_simp
   refine HFR.out.mono ?_
   rintro e w5 ⟨rfl,ht⟩
   refine hK _ _ ?_
   clear hK K
   refine wpRO_swi (fun _=>True) trivial ?_
   iterate 2 first | (refine wpRO_free rfl rfl _ (fun w'=>by go_simp;exact Gives.mk _ _) (fun K hK=>?_);go_simp;refine hK _ ?_;clear hK K) | (refine wpRO_skipF rfl rfl (fun K hK=>?_);go_simp;refine hK _ ?_;clear hK K)
   refine wpRO_fin ?_
   have TO:=Hz (BothTo.from_keep K4.out.drew (BothTo.world (HB4.out.same ((Kz w4).drew)) ht))
   have HWD:=Hz (show wdC W 0 xa xb a c=_ by unfold wdC;rw [if_pos rfl,HF.out])
   clear ht b1 s1 s2 sl bl
   go_wp2_with fail
   go_ret
   unfold BothDoRet
   rw [HWO.out,HWD.out]
   exact ⟨rfl,TO.out⟩
 ·have hy:O.ar.make xa xb=(-1,O.ar):=Ar.make_no hf
  have HWO:=Hz (show woC O 0 xa xb a c=(0,O) by unfold woC;rw [if_pos rfl,if_neg hf])
  have HB4:=Hz (show BothAt w3 h O W by have:=HB3.out;rw [hy] at this;exact this)
  have K4:=K3;have SB4:=SB3
  rw [hy]
  clear hf hy HB3 K3 SB3
  generalize w3=w4 at *
  obtain ⟨b0,b1,bl⟩:=HB4.out.pcells
  have s1:=SB4.out.cell 1;have s2:=SB4.out.cell 2;have sl:=SB4.out.lt
  simp only [List.getElem?_cons_zero,List.getElem?_cons_succ] at s1 s2
  have hfr:=WFresh_c c xa xb ((HB4.out.same ((Kz w4).drew)).R) hT hc12 HBB.out.1 HBB.out.2
  rw [HF.out] at hfr
  have HFR:=Hz hfr
  clear hfr b0
  cases f
  all_goals
   go_wp2_with fail
   refine wp_region_ro (.free 0 (.free 1 (.free 2 (.free 4 (.free 5 (.free 7 (.free 10 (.free 11 (.pure 3 (.pure 6 (.pure 8 (.run 9 (.swi [] (.free 12 (.free 13 (.fin)))))))))))))))) [9,12,13] (fun w'=>w'.cell? ⟨h.p,1,none⟩=some (.pointer (some ⟨h.b.p,0,none⟩))∧w'.cell? ⟨sb,1,none⟩=some (.int .i64 xa)∧w'.cell? ⟨sb,2,none⟩=some (.int .i64 xb)) (by kernel_rfl) (by kernel_rfl) ⟨b1,s1,s2⟩ ?_
   iterate 11 first | (refine wpRO_free rfl rfl _ (fun w'=>by go_simp;exact Gives.mk _ _) (fun K hK=>?_);go_simp;refine hK _ ?_;clear hK K) | (refine wpRO_skipF rfl rfl (fun K hK=>?_);go_simp;refine hK _ ?_;clear hK K) | (refine wpRO_pure rfl rfl _ (fun w' hG=>by obtain ⟨b1,s1,s2⟩:=hG;exact gives_agg2 rfl (by decide +kernel) rfl (by assumption) (by assumption)) (fun K hK=>?_);go_simp;refine hK _ ?_;clear hK K) | (refine wpRO_pure rfl rfl _ (fun w' hG=>by obtain ⟨b1,s1,s2⟩:=hG;go_simp;exact Gives.mk _ _) (fun K hK=>?_);go_simp;refine hK _ ?_;clear hK K) | (refine wpRO_skip rfl rfl (fun K hK=>?_);go_simp;refine hK _ ?_;clear hK K)
   refine wpRO_chg rfl rfl rfl (fun K hK=>?_);unfold gRun;go_simp
   refine HFR.out.mono ?_
   rintro e w5 ⟨rfl,ht⟩
   refine hK _ _ ?_
   clear hK K
   refine wpRO_swi (fun _=>True) trivial ?_
   iterate 2 first | (refine wpRO_free rfl rfl _ (fun w'=>by go_simp;exact Gives.mk _ _) (fun K hK=>?_);go_simp;refine hK _ ?_;clear hK K) | (refine wpRO_skipF rfl rfl (fun K hK=>?_);go_simp;refine hK _ ?_;clear hK K)
   refine wpRO_fin ?_
   have TO:=Hz (BothTo.from_keep K4.out.drew (BothTo.world (HB4.out.same ((Kz w4).drew)) ht))
   have HWD:=Hz (show wdC W 0 xa xb a c=_ by unfold wdC;rw [if_pos rfl,HF.out])
   clear ht b1 s1 s2 sl bl
   go_wp2_with fail
   go_ret
   unfold BothDoRet
   rw [HWO.out,HWD.out]
   exact ⟨rfl,TO.out⟩
end
end
section
open Go.RowKit
theorem Keeps.cell_eq {S:Nat→Prop} {w w':World} (k:Keeps S w w') {b:Nat} (hb:b<w.heap.size) (hn:¬ S b) (i:Nat):w'.cell? ⟨b,i,none⟩=w.cell? ⟨b,i,none⟩:=
 World.cell?_of_block (w:=w) (a:=⟨b,i,none⟩) (k.block b hb hn)
theorem get_R64 {A:Ar} (h:A.ok) (x i:Int):R64 (A.get x i).1:=by
 unfold Ar.get
 split
 ·unfold R64;decide
 ·split
  ·unfold R64;decide
  ·exact h.load _
section
variable {w w':World} {h:BH} {O O':Wo} {W W':Wd}
theorem WoodAt.in_p {h:WH} (H:WoodAt w h O):¬ h.In h.p:=fun e=>by
 rcases e with (e | e) | e
 ·exact H.hp.ne H.ha.hp (by decide) e
 ·exact H.hp.ne H.ha.hg (by decide) e
 ·exact H.hp.ne H.hc.hq (by decide) e
theorem WoodAt.in_ro {h:WH} (H:WoodAt w h O) {g:Nat} (hg:ownB h.ro g):¬ h.In g:=fun e=>by
 obtain ⟨_,l,hl⟩:=H.hr.own hg
 rcases e with (e | e) | e
 ·exact hl.ne H.ha.hp (by decide) e
 ·exact H.ap (e ▸ hg)
 ·exact hl.ne H.hc.hq (by decide) e
theorem bothDo1_c (xa xb xc:Int) (B:BothAt w h O W) (hb:R64 xb) :
  Calls Tryz.prog 15 #[.pointer (some ⟨h.p,0,none⟩), .agg #[.int .i64 1, .int .i64 xa, .int .i64 xb, .int .i64 xc]] w (BothDoRet w h O W 1 xa xb (rootN xa) (rootN xc)):=by
 have ka:=(Kz w).alloc (.cells #[.int .i64 1, .int .i64 xa, .int .i64 xb, .int .i64 xc] 31)
 have hs:Blk (w.alloc (.cells #[.int .i64 1, .int .i64 xa, .int .i64 xb, .int .i64 xc] 31)) w.heap.size [.int .i64 1, .int .i64 xa, .int .i64 xb, .int .i64 xc] 31:=Blk.newAt _ rfl rfl
 have HB1:=Hz (B.same ka);have SB:=Hz hs;have K1:=Hz ka;have HBB:=Hz hb
 clear ka hs B hb
 go_enter Tryz.func15,Tryz.ntmps15
 go_wp2_with fail
 generalize w.alloc (.cells #[.int .i64 1, .int .i64 xa, .int .i64 xb, .int .i64 xc] 31)=w1 at *
 generalize w.heap.size=sb at *
 have s0:=SB.out.cell 0;have s1:=SB.out.cell 1;have s2:=SB.out.cell 2;have s3:=SB.out.cell 3;have sl:=SB.out.lt
 simp only [List.getElem?_cons_zero,List.getElem?_cons_succ] at s0 s1 s2 s3
 refine wp_region_ro (.free 0 (.free 3 (.pure 1 (.pure 4 (.run 2 (.run 5 (.swi [] (.free 6 (.free 7 (.fin)))))))))) [5,6,7] (fun w'=>w'.cell? ⟨sb,1,none⟩=some (.int .i64 xa)∧w'.cell? ⟨sb,3,none⟩=some (.int .i64 xc)) (by kernel_rfl) (by kernel_rfl) ⟨s1,s3⟩ ?_
 iterate 4 first | (refine wpRO_free rfl rfl _ (fun w'=>by go_simp;exact Gives.mk _ _) (fun K hK=>?_);go_simp;refine hK _ ?_;clear hK K) | (refine wpRO_skipF rfl rfl (fun K hK=>?_);go_simp;refine hK _ ?_;clear hK K) | (refine wpRO_pure rfl rfl _ (fun w' hG=>by obtain ⟨s1,s3⟩:=hG;exact gives_agg2 rfl (by decide +kernel) rfl (by assumption) (by assumption)) (fun K hK=>?_);go_simp;refine hK _ ?_;clear hK K) | (refine wpRO_pure rfl rfl _ (fun w' hG=>by obtain ⟨s1,s3⟩:=hG;go_simp;exact Gives.mk _ _) (fun K hK=>?_);go_simp;refine hK _ ?_;clear hK K) | (refine wpRO_skip rfl rfl (fun K hK=>?_);go_simp;refine hK _ ?_;clear hK K)
 refine wpRO_run rfl rfl (fun K hK=>?_);unfold gRun;go_simp
 refine (Root_c xa _).mono ?_
 rintro e w2 ⟨rfl,rfl⟩
 refine hK _ _ (fun hg=>hg) ?_
 clear hK K
 refine wpRO_chg rfl rfl rfl (fun K hK=>?_);unfold gRun;go_simp
 refine (Root_c xc _).mono ?_
 rintro e w2 ⟨rfl,rfl⟩
 refine hK _ _ ?_
 clear hK K
 refine wpRO_swi (fun _=>True) trivial ?_
 iterate 2 first | (refine wpRO_free rfl rfl _ (fun w'=>by go_simp;exact Gives.mk _ _) (fun K hK=>?_);go_simp;refine hK _ ?_;clear hK K) | (refine wpRO_skipF rfl rfl (fun K hK=>?_);go_simp;refine hK _ ?_;clear hK K)
 refine wpRO_fin ?_
 have ha12:=rootN_lt xa;have hc12:=rootN_lt xc
 generalize rootN xa=a at *
 generalize rootN xc=c at *
 have HB2:=Hz (HB1.out.same ((Kz w1).drew));have K2:=Hz (K1.out.drew);have SB2:=Hz (show Blk w1.drew sb _ _ from SB.out.drew)
 clear s0 s1 s2 s3 sl HB1 K1 SB
 generalize w1.drew=w2 at *
 have s0:=SB2.out.cell 0;have s1:=SB2.out.cell 1;have s2:=SB2.out.cell 2;have s3:=SB2.out.cell 3;have sl:=SB2.out.lt
 simp only [List.getElem?_cons_zero,List.getElem?_cons_succ] at s0 s1 s2 s3
 have b0:=HB2.out.hp.cell 0;have b1:=HB2.out.hp.cell 1;have bl:=HB2.out.hp.lt
 simp only [List.getElem?_cons_zero,List.getElem?_cons_succ] at b0 b1
 have hor12:=HB2.out.H.ok.h12
 obtain ⟨g,o,cap,hro,hown,hgl,q3,fz,rcs⟩:=HB2.out.H.roots
 obtain ⟨q0,q1,q2,-⟩:=HB2.out.H.ptrs
 have ra:=rcs a (by omega);have rc:=rcs c (by omega)
 have fc:=fz (o+c)
 rw [hor12] at q3 hro
 have HRO:=Hz hro;have HOWN:=Hz hown;have HO12:=Hz hor12;have HFZ:=Hz fz;have HRCS:=Hz rcs
 have ql:=HB2.out.H.hp.lt
 clear hro hown hor12 fz rcs
 have yl:(O.ar.yng:Int)≤1280:=by have:=HB2.out.H.ok.ha.h1;have:=HB2.out.H.ok.ha.h2;have:=HB2.out.H.ok.ha.h3;have:=HB2.out.H.ok.ha.h4;omega
 have ha12i:(a:Int)<12:=by omega
 have hc12i:(c:Int)<12:=by omega
 have HRc:=Hz (show R64 (O.rtA c) from HB2.out.H.ok.hR _ (by unfold Wo.rtA;rw [Int.toNat_natCast,List.getD_eq_getElem?_getD,List.getElem?_eq_getElem (by rw [HO12.out];exact hc12)];exact List.getElem_mem _))
 have ra:w2.cell? ⟨g,o+a,none⟩=some (.int .i64 (O.rtA a)):=by unfold Wo.rtA;rw [Int.toNat_natCast];exact ra
 have rc:w2.cell? ⟨g,o+c,none⟩=some (.int .i64 (O.rtA c)):=by unfold Wo.rtA;rw [Int.toNat_natCast];exact rc
 have HWO:=Hz (show woC O 1 xa xb a c=O.set (O.rtA a) xb (O.rtA c) by unfold woC;rw [if_neg (by decide),if_pos rfl])
 have HWD:=Hz (show wdC W 1 xa xb a c=W.do ⟨12,0,a,c,xb,0⟩ by unfold wdC;rw [if_neg (by decide),if_pos rfl])
 have hset:=WSet_in (O.rtA a) xb (O.rtA c) (HB2.out.same ((Kz w2).drew)).H HRc.out
 have hdo:=fun w' (R:WorldAt w' h.b W)=>WDoSet_c 0 a c xb 0 R
 generalize O.rtA a=va at *
 generalize O.rtA c=vc at *
 obtain ⟨⟨sc,O'⟩,hS⟩:∃ t,O.set va xb vc=t:=⟨_,rfl⟩
 obtain ⟨⟨dc,W'⟩,hD⟩:∃ t,W.do ⟨12,0,a,c,xb,0⟩=t:=⟨_,rfl⟩
 rw [hS] at hset HWO
 rw [hD] at HWD
 simp only [hD] at hdo
 have HSET:=Hz hset;have HDO:=Hz hdo
 clear hS hD hset hdo fc
 go_wp2_with fail
 refine wp_region_ro (.free 0 (.free 1 (.free 2 (.free 4 (.free 5 (.free 6 (.free 11 (.free 14 (.free 16 (.free 17 (.free 18 (.free 23 (.free 27 (.free 28 (.free 29 (.free 31 (.free 32 (.free 33 (.pure 3 (.pure 7 (.free 8 (.free 9 (.pure 10 (.free 12 (.pure 13 (.pure 15 (.pure 19 (.free 20 (.free 21 (.pure 22 (.free 24 (.pure 25 (.pure 30 (.pure 34 (.free 35 (.run 26 (.run 36 (.swi [] (.free 37 (.free 38 (.fin))))))))))))))))))))))))))))))))))))))))) [36,37,38] (fun w'=>w'.cell? ⟨h.p,0,none⟩=some (.pointer (some ⟨h.a.p,0,none⟩))∧w'.cell? ⟨h.a.p,3,none⟩=some (.slice (some ⟨g,o,none⟩) 12 cap)∧w'.cell? ⟨g,o+a,none⟩=some (.int .i64 va)∧w'.cell? ⟨g,o+c,none⟩=some (.int .i64 vc)∧w'.cell? ⟨sb,2,none⟩=some (.int .i64 xb)∧w'.cell? ⟨h.p,1,none⟩=some (.pointer (some ⟨h.b.p,0,none⟩))) (by kernel_rfl) (by kernel_rfl) ⟨b0,q3,ra,rc,s2,b1⟩ ?_
 iterate 35 first | (refine wpRO_free rfl rfl _ (fun w'=>by go_simp;exact Gives.mk _ _) (fun K hK=>?_);go_simp;refine hK _ ?_;clear hK K) | (refine wpRO_skipF rfl rfl (fun K hK=>?_);go_simp;refine hK _ ?_;clear hK K) | (refine wpRO_pure rfl rfl _ (fun w' hG=>by obtain ⟨b0,q3,ra,rc,s2,b1⟩:=hG;exact gives_agg2 rfl (by decide +kernel) rfl (by assumption) (by assumption)) (fun K hK=>?_);go_simp;refine hK _ ?_;clear hK K) | (refine wpRO_pure rfl rfl _ (fun w' hG=>by obtain ⟨b0,q3,ra,rc,s2,b1⟩:=hG;go_simp;exact Gives.mk _ _) (fun K hK=>?_);go_simp;refine hK _ ?_;clear hK K) | (refine wpRO_skip rfl rfl (fun K hK=>?_);go_simp;refine hK _ ?_;clear hK K)
 refine wpRO_run rfl rfl (fun K hK=>?_);unfold gRun;go_simp
 refine HSET.out.mono ?_
 rintro e w3 ⟨rfl,ht⟩
 have hin:=(HB2.out.same ((Kz w2).drew)).inW ht
 have HB3:=Hz hin.1
 have K3:=Hz (((K2.out.drew).mono (fun _ _ h=>h.elim)).trans hin.2:Keeps h.Own w w3)
 have hk3:Keeps h.a.In w2 w3:=((Kz w2).drew.mono (fun _ _ h=>h.elim)).trans ht.2
 have np:¬ h.a.In h.p:=fun e=>HB2.out.p_a e.own
 have ns:¬ h.a.In sb:=fun e=>by
  rcases e with (e | e) | e
  ·exact SB2.out.ne HB2.out.H.ha.hp (by decide) e
  ·exact SB2.out.ne HB2.out.H.ha.hg (by decide) e
  ·exact SB2.out.ne HB2.out.H.hc.hq (by decide) e
 have ng:=HB2.out.H.in_ro HOWN.out
 refine hK _ _ (fun _=>⟨(hk3.cell_eq bl np _).trans b0,(hk3.cell_eq ql HB2.out.H.in_p _).trans q3,(hk3.cell_eq hgl ng _).trans ra,(hk3.cell_eq hgl ng _).trans rc,(hk3.cell_eq sl ns _).trans s2,(hk3.cell_eq bl np _).trans b1⟩) ?_
 clear hK K hin hk3 np ns ng ht
 refine wpRO_chg rfl rfl rfl (fun K hK=>?_);unfold gRun;go_simp
 refine (HDO.out _ HB3.out.R).mono ?_
 rintro e w4 ⟨rfl,ht⟩
 refine hK _ _ ?_
 clear hK K
 refine wpRO_swi (fun _=>True) trivial ?_
 iterate 2 first | (refine wpRO_free rfl rfl _ (fun w'=>by go_simp;exact Gives.mk _ _) (fun K hK=>?_);go_simp;refine hK _ ?_;clear hK K) | (refine wpRO_skipF rfl rfl (fun K hK=>?_);go_simp;refine hK _ ?_;clear hK K)
 refine wpRO_fin ?_
 have TO:=Hz (BothTo.from_keep K3.out (BothTo.world HB3.out ht))
 clear ht b0 b1 bl q0 q1 q2 q3 ql s0 s1 s2 s3 sl hgl ra rc
 go_wp2_with fail
 go_ret
 unfold BothDoRet
 rw [HWO.out,HWD.out]
 exact ⟨by simp [Bool.beq_eq_decide_eq],TO.out⟩
end
end
section
open Go.RowKit
theorem putC_yes {O:Wo} {r y:Int}:O.putC r (y,0)=(0,O.setRt r y):=rfl
theorem putC_no {O:Wo} {r y e:Int} (h:e≠0):O.putC r (y,e)=(e,O):=by unfold Wo.putC;rw [if_neg h]
section
variable {w w':World} {h:BH} {O O':Wo} {W W':Wd}
theorem bothDo2_c (xa xb xc:Int) (B:BothAt w h O W) (hb:R64 xb) :
  Calls Tryz.prog 15 #[.pointer (some ⟨h.p,0,none⟩), .agg #[.int .i64 2, .int .i64 xa, .int .i64 xb, .int .i64 xc]] w (BothDoRet w h O W 2 xa xb (rootN xa) (rootN xc)):=by
 have ka:=(Kz w).alloc (.cells #[.int .i64 2, .int .i64 xa, .int .i64 xb, .int .i64 xc] 31)
 have hs:Blk (w.alloc (.cells #[.int .i64 2, .int .i64 xa, .int .i64 xb, .int .i64 xc] 31)) w.heap.size [.int .i64 2, .int .i64 xa, .int .i64 xb, .int .i64 xc] 31:=Blk.newAt _ rfl rfl
 have HB1:=Hz (B.same ka);have SB:=Hz hs;have K1:=Hz ka;have HBB:=Hz hb
 clear ka hs B hb
 go_enter Tryz.func15,Tryz.ntmps15
 go_wp2_with fail
 generalize w.alloc (.cells #[.int .i64 2, .int .i64 xa, .int .i64 xb, .int .i64 xc] 31)=w1 at *
 generalize w.heap.size=sb at *
 have s0:=SB.out.cell 0;have s1:=SB.out.cell 1;have s2:=SB.out.cell 2;have s3:=SB.out.cell 3;have sl:=SB.out.lt
 simp only [List.getElem?_cons_zero,List.getElem?_cons_succ] at s0 s1 s2 s3
 refine wp_region_ro (.free 0 (.free 3 (.pure 1 (.pure 4 (.run 2 (.run 5 (.swi [] (.free 6 (.free 7 (.fin)))))))))) [5,6,7] (fun w'=>w'.cell? ⟨sb,1,none⟩=some (.int .i64 xa)∧w'.cell? ⟨sb,3,none⟩=some (.int .i64 xc)) (by kernel_rfl) (by kernel_rfl) ⟨s1,s3⟩ ?_
 iterate 4 first | (refine wpRO_free rfl rfl _ (fun w'=>by go_simp;exact Gives.mk _ _) (fun K hK=>?_);go_simp;refine hK _ ?_;clear hK K) | (refine wpRO_skipF rfl rfl (fun K hK=>?_);go_simp;refine hK _ ?_;clear hK K) | (refine wpRO_pure rfl rfl _ (fun w' hG=>by obtain ⟨s1,s3⟩:=hG;exact gives_agg2 rfl (by decide +kernel) rfl (by assumption) (by assumption)) (fun K hK=>?_);go_simp;refine hK _ ?_;clear hK K) | (refine wpRO_pure rfl rfl _ (fun w' hG=>by obtain ⟨s1,s3⟩:=hG;go_simp;exact Gives.mk _ _) (fun K hK=>?_);go_simp;refine hK _ ?_;clear hK K) | (refine wpRO_skip rfl rfl (fun K hK=>?_);go_simp;refine hK _ ?_;clear hK K)
 refine wpRO_run rfl rfl (fun K hK=>?_);unfold gRun;go_simp
 refine (Root_c xa _).mono ?_
 rintro e w2 ⟨rfl,rfl⟩
 refine hK _ _ (fun hg=>hg) ?_
 clear hK K
 refine wpRO_chg rfl rfl rfl (fun K hK=>?_);unfold gRun;go_simp
 refine (Root_c xc _).mono ?_
 rintro e w2 ⟨rfl,rfl⟩
 refine hK _ _ ?_
 clear hK K
 refine wpRO_swi (fun _=>True) trivial ?_
 iterate 2 first | (refine wpRO_free rfl rfl _ (fun w'=>by go_simp;exact Gives.mk _ _) (fun K hK=>?_);go_simp;refine hK _ ?_;clear hK K) | (refine wpRO_skipF rfl rfl (fun K hK=>?_);go_simp;refine hK _ ?_;clear hK K)
 refine wpRO_fin ?_
 have ha12:=rootN_lt xa;have hc12:=rootN_lt xc
 generalize rootN xa=a at *
 generalize rootN xc=c at *
 have HB2:=Hz (HB1.out.same ((Kz w1).drew));have K2:=Hz (K1.out.drew);have SB2:=Hz (show Blk w1.drew sb _ _ from SB.out.drew)
 clear s0 s1 s2 s3 sl HB1 K1 SB
 generalize w1.drew=w2 at *
 have s0:=SB2.out.cell 0;have s1:=SB2.out.cell 1;have s2:=SB2.out.cell 2;have s3:=SB2.out.cell 3;have sl:=SB2.out.lt
 simp only [List.getElem?_cons_zero,List.getElem?_cons_succ] at s0 s1 s2 s3
 have b0:=HB2.out.hp.cell 0;have b1:=HB2.out.hp.cell 1;have bl:=HB2.out.hp.lt
 simp only [List.getElem?_cons_zero,List.getElem?_cons_succ] at b0 b1
 have hor12:=HB2.out.H.ok.h12
 obtain ⟨g,o,cap,hro,hown,hgl,q3,fz,rcs⟩:=HB2.out.H.roots
 obtain ⟨q0,q1,q2,-⟩:=HB2.out.H.ptrs
 have ra:=rcs a (by omega);have rc:=rcs c (by omega)
 have fc:=fz (o+c)
 rw [hor12] at q3 hro
 have HRO:=Hz hro;have HOWN:=Hz hown;have HO12:=Hz hor12;have HFZ:=Hz fz;have HRCS:=Hz rcs
 have ql:=HB2.out.H.hp.lt
 clear hro hown hor12 fz rcs
 have yl:(O.ar.yng:Int)≤1280:=by have:=HB2.out.H.ok.ha.h1;have:=HB2.out.H.ok.ha.h2;have:=HB2.out.H.ok.ha.h3;have:=HB2.out.H.ok.ha.h4;omega
 have ha12i:(a:Int)<12:=by omega
 have hc12i:(c:Int)<12:=by omega
 have ra:w2.cell? ⟨g,o+a,none⟩=some (.int .i64 (O.rtA a)):=by unfold Wo.rtA;rw [Int.toNat_natCast];exact ra
 have HWO:=Hz (show woC O 2 xa xb a c=O.putC c (O.ar.get (O.rtA a) xb) by unfold woC;rw [if_neg (by decide),if_neg (by decide),if_pos rfl])
 have HWD:=Hz (show wdC W 2 xa xb a c=W.do ⟨11,c,a,0,xb,0⟩ by unfold wdC;rw [if_neg (by decide),if_neg (by decide),if_pos rfl])
 have hget:=Get_c (O.rtA a) xb (HB2.out.same ((Kz w2).drew)).H
 have hdo:=fun w' (R:WorldAt w' h.b W)=>WDoGet_c c a 0 xb 0 R
 have HYR:=Hz (get_R64 HB2.out.H.ok.ha (O.rtA a) xb)
 generalize O.rtA a=va at *
 obtain ⟨⟨y,e⟩,hS⟩:∃ t,O.ar.get va xb=t:=⟨_,rfl⟩
 obtain ⟨⟨dc,W'⟩,hD⟩:∃ t,W.do ⟨11,c,a,0,xb,0⟩=t:=⟨_,rfl⟩
 rw [hS] at hget HWO HYR
 rw [hD] at HWD
 simp only [hD] at hdo
 have HGET:=Hz hget;have HDO:=Hz hdo
 clear hS hD hget hdo fc rc
 go_wp2_with fail
 refine wp_region_ro (.free 0 (.free 1 (.free 2 (.free 4 (.free 5 (.free 6 (.free 11 (.free 14 (.pure 3 (.pure 7 (.free 8 (.free 9 (.pure 10 (.free 12 (.pure 13 (.pure 15 (.run 16 (.swi [] (.free 17 (.free 18 (.free 19 (.free 20 (.free 21 (.fin)))))))))))))))))))))))) [16,17,18,19,20,21] (fun w'=>w'.cell? ⟨h.p,0,none⟩=some (.pointer (some ⟨h.a.p,0,none⟩))∧w'.cell? ⟨h.a.p,3,none⟩=some (.slice (some ⟨g,o,none⟩) 12 cap)∧w'.cell? ⟨g,o+a,none⟩=some (.int .i64 va)∧w'.cell? ⟨sb,2,none⟩=some (.int .i64 xb)) (by kernel_rfl) (by kernel_rfl) ⟨b0,q3,ra,s2⟩ ?_
 iterate 16 first | (refine wpRO_free rfl rfl _ (fun w'=>by go_simp;exact Gives.mk _ _) (fun K hK=>?_);go_simp;refine hK _ ?_;clear hK K) | (refine wpRO_skipF rfl rfl (fun K hK=>?_);go_simp;refine hK _ ?_;clear hK K) | (refine wpRO_pure rfl rfl _ (fun w' hG=>by obtain ⟨b0,q3,ra,s2⟩:=hG;exact gives_agg2 rfl (by decide +kernel) rfl (by assumption) (by assumption)) (fun K hK=>?_);go_simp;refine hK _ ?_;clear hK K) | (refine wpRO_pure rfl rfl _ (fun w' hG=>by obtain ⟨b0,q3,ra,s2⟩:=hG;go_simp;exact Gives.mk _ _) (fun K hK=>?_);go_simp;refine hK _ ?_;clear hK K) | (refine wpRO_skip rfl rfl (fun K hK=>?_);go_simp;refine hK _ ?_;clear hK K)
 refine wpRO_chg rfl rfl rfl (fun K hK=>?_);unfold gRun;go_simp
 refine HGET.out.mono ?_
 rintro e3 w3 ⟨rfl,rfl⟩
 refine hK _ _ ?_
 clear hK K
 refine wpRO_swi (fun _=>True) trivial ?_
 iterate 5 first | (refine wpRO_free rfl rfl _ (fun w'=>by go_simp;exact Gives.mk _ _) (fun K hK=>?_);go_simp;refine hK _ ?_;clear hK K) | (refine wpRO_skipF rfl rfl (fun K hK=>?_);go_simp;refine hK _ ?_;clear hK K)
 refine wpRO_fin ?_
 have HB3:=Hz (HB2.out.same ((Kz w2).drew))
 have K3:=Hz (K2.out.drew.mono (fun _ _ h=>h.elim):Keeps h.Own w w2.drew)
 have SB3:=Hz (show Blk w2.drew sb _ _ from SB2.out.drew)
 clear HB2 K2 SB2 HRCS HFZ b0 b1 bl q0 q1 q2 q3 ql s0 s1 s2 s3 sl hgl ra HGET
 generalize w2.drew=w3 at *
 by_cases he:e=0
 ·subst he
  obtain ⟨b0,b1,bl⟩:=HB3.out.pcells
  obtain ⟨q0,q3,ql,gl,gf,gc⟩:=HB3.out.rcells HRO.out hc12
  have hin:=HB3.out.rootW (k:=c) (x:=y) HRO.out hc12 HYR.out
  have HB4:=Hz hin.1
  have K4:=Hz (K3.out.trans hin.2)
  have SB4:=Hz (show Blk _ sb _ _ from ((Keeps.refl (·=g) w3).setCell (p:=⟨g,o+c,none⟩) (.inl rfl) (.int .i64 (y))).blk SB3.out (fun e=>by
   obtain ⟨_,l,hl⟩:=HB3.out.H.hr.own (k:=g) (by rw [HRO.out];rfl)
   exact SB3.out.ne hl (by decide) e))
  clear hin b1 HB3 K3 SB3
  go_wp2_with fail
  generalize w3.setCell ⟨g,o+c,none⟩ (.int .i64 y)=w4 at *
  clear b0 bl q0 q3 ql gl gf gc
  obtain ⟨b0,b1,bl⟩:=HB4.out.pcells
  have s2:=SB4.out.cell 2;have sl:=SB4.out.lt
  simp only [List.getElem?_cons_zero,List.getElem?_cons_succ] at s2
  go_wp2_with fail
  refine wp_region_ro (.free 0 (.free 1 (.free 2 (.free 3 (.free 5 (.free 6 (.free 7 (.pure 4 (.pure 8 (.free 9 (.run 10 (.swi [] (.free 11 (.free 12 (.fin))))))))))))))) [10,11,12] (fun w'=>w'.cell? ⟨h.p,1,none⟩=some (.pointer (some ⟨h.b.p,0,none⟩))∧w'.cell? ⟨sb,2,none⟩=some (.int .i64 xb)) (by kernel_rfl) (by kernel_rfl) ⟨b1,s2⟩ ?_
  iterate 10 first | (refine wpRO_free rfl rfl _ (fun w'=>by go_simp;exact Gives.mk _ _) (fun K hK=>?_);go_simp;refine hK _ ?_;clear hK K) | (refine wpRO_skipF rfl rfl (fun K hK=>?_);go_simp;refine hK _ ?_;clear hK K) | (refine wpRO_pure rfl rfl _ (fun w' hG=>by obtain ⟨b1,s2⟩:=hG;exact gives_agg2 rfl (by decide +kernel) rfl (by assumption) (by assumption)) (fun K hK=>?_);go_simp;refine hK _ ?_;clear hK K) | (refine wpRO_pure rfl rfl _ (fun w' hG=>by obtain ⟨b1,s2⟩:=hG;go_simp;exact Gives.mk _ _) (fun K hK=>?_);go_simp;refine hK _ ?_;clear hK K) | (refine wpRO_skip rfl rfl (fun K hK=>?_);go_simp;refine hK _ ?_;clear hK K)
  refine wpRO_chg rfl rfl rfl (fun K hK=>?_);unfold gRun;go_simp
  refine (HDO.out _ (HB4.out.same ((Kz w4).drew)).R).mono ?_
  rintro e5 w5 ⟨rfl,ht⟩
  refine hK _ _ ?_
  clear hK K
  refine wpRO_swi (fun _=>True) trivial ?_
  iterate 2 first | (refine wpRO_free rfl rfl _ (fun w'=>by go_simp;exact Gives.mk _ _) (fun K hK=>?_);go_simp;refine hK _ ?_;clear hK K) | (refine wpRO_skipF rfl rfl (fun K hK=>?_);go_simp;refine hK _ ?_;clear hK K)
  refine wpRO_fin ?_
  have TO:=Hz (BothTo.from_keep K4.out.drew (BothTo.world (HB4.out.same ((Kz w4).drew)) ht))
  clear ht b0 b1 s2 sl bl
  go_wp2_with fail
  go_ret
  unfold BothDoRet
  rw [HWO.out,HWD.out,putC_yes]
  exact ⟨by simp [Bool.beq_eq_decide_eq],TO.out⟩
 ·have hd:(e == 0)=false:=by simpa using he
  have HB4:=HB3;have K4:=K3;have SB4:=SB3
  have HPN:=Hz (putC_no (O:=O) (r:=(c:Int)) (y:=y) he)
  clear HB3 K3 SB3 he
  generalize w3=w4 at *
  obtain ⟨b0,b1,bl⟩:=HB4.out.pcells
  have s2:=SB4.out.cell 2;have sl:=SB4.out.lt
  simp only [List.getElem?_cons_zero,List.getElem?_cons_succ] at s2
  go_wp2_with fail
  refine wp_region_ro (.free 0 (.free 1 (.free 2 (.free 3 (.free 5 (.free 6 (.free 7 (.pure 4 (.pure 8 (.free 9 (.run 10 (.swi [] (.free 11 (.free 12 (.fin))))))))))))))) [10,11,12] (fun w'=>w'.cell? ⟨h.p,1,none⟩=some (.pointer (some ⟨h.b.p,0,none⟩))∧w'.cell? ⟨sb,2,none⟩=some (.int .i64 xb)) (by kernel_rfl) (by kernel_rfl) ⟨b1,s2⟩ ?_
  iterate 10 first | (refine wpRO_free rfl rfl _ (fun w'=>by go_simp;exact Gives.mk _ _) (fun K hK=>?_);go_simp;refine hK _ ?_;clear hK K) | (refine wpRO_skipF rfl rfl (fun K hK=>?_);go_simp;refine hK _ ?_;clear hK K) | (refine wpRO_pure rfl rfl _ (fun w' hG=>by obtain ⟨b1,s2⟩:=hG;exact gives_agg2 rfl (by decide +kernel) rfl (by assumption) (by assumption)) (fun K hK=>?_);go_simp;refine hK _ ?_;clear hK K) | (refine wpRO_pure rfl rfl _ (fun w' hG=>by obtain ⟨b1,s2⟩:=hG;go_simp;exact Gives.mk _ _) (fun K hK=>?_);go_simp;refine hK _ ?_;clear hK K) | (refine wpRO_skip rfl rfl (fun K hK=>?_);go_simp;refine hK _ ?_;clear hK K)
  refine wpRO_chg rfl rfl rfl (fun K hK=>?_);unfold gRun;go_simp
  refine (HDO.out _ (HB4.out.same ((Kz w4).drew)).R).mono ?_
  rintro e5 w5 ⟨rfl,ht⟩
  refine hK _ _ ?_
  clear hK K
  refine wpRO_swi (fun _=>True) trivial ?_
  iterate 2 first | (refine wpRO_free rfl rfl _ (fun w'=>by go_simp;exact Gives.mk _ _) (fun K hK=>?_);go_simp;refine hK _ ?_;clear hK K) | (refine wpRO_skipF rfl rfl (fun K hK=>?_);go_simp;refine hK _ ?_;clear hK K)
  refine wpRO_fin ?_
  have TO:=Hz (BothTo.from_keep K4.out.drew (BothTo.world (HB4.out.same ((Kz w4).drew)) ht))
  clear ht b0 b1 s2 sl bl
  go_wp2_with fail
  go_ret
  unfold BothDoRet
  rw [HWO.out,HWD.out,HPN.out]
  exact ⟨by simp [Bool.beq_eq_decide_eq],TO.out⟩
end
end
end Go.Proofs.YtjifdalflepcoacGreat
