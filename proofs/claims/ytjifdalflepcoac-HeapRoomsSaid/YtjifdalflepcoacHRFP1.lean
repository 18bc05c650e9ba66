/-
  Parts of the proof, merged: what the functions do, and plain laws.
-/
import Derived.Test.YtjifdalflepcoacHRFP0
import Derived.Deep.MidRow
import Derived.Test.YtjifdalflepcoacProg
set_option maxHeartbeats 16000000
set_option maxRecDepth 100000
set_option linter.unusedVariables false
set_option linter.unusedSimpArgs false
namespace Go.Proofs.Ytjifdalflepcoac
section
section
variable {O:Wo} {W:Wd} {φ ψ ψ':Int→Int} {A A':Ar} {S S' Al:Int→Prop} {N N':List Int} {qw:List (Int × Int)}
theorem Cu.start (R:Rep O W φ):Cu O W φ O.ar (fun i=>W.live i∧(W.th i).old=true) φ []:=by
 refine ⟨Sm.refl R.ho.ha,fun i h=>h.1,fun i h1 h2=>⟨h1,h2⟩,fun _ _ _=>rfl,List.nodup_nil,fun i=>?_,rfl,fun i h=>R.th i h.1,fun _ _ _ _ _ _ _=>rfl,(by intro i hi;cases hi),fun i h j v hv=>.inl (R.fl i h.1 j v hv)⟩
 constructor
 ·intro h;cases h
 ·rintro ⟨h1,h2⟩;rw [h1.2] at h2;cases h2
theorem Cu.roots (R:Rep O W φ) (hr:(O.ar.yng:Int)≤(O.ar.ws.length:Int)-O.ar.grn):∀ (l:List Vl) {A:Ar} {S:Int→Prop} {ψ:Int→Int} {N:List Int},Cu O W φ A S ψ N→(∀ v ∈ l,W.okV v) →
  CuTo O W φ A S ψ N (mRoots A (l.map (encV φ))).1 (fun k=>((3,k):Vl) ∈ l) fun S' ψ' N'=>(∀ v ∈ l,v.1=3→S' v.2)∧(mRoots A (l.map (encV φ))).2=l.map (encV ψ')
 | [],A,S,ψ,N,C,_=>⟨S,ψ,N,C,Ext.refl,fun k h=>.inl h,by simp,rfl⟩
 | v :: l,A,S,ψ,N,C,hl=>by
  obtain ⟨S1,ψ1,N1,C1,E1,h1,h2,h3,_⟩:=C.bring R hr (hl v (by simp)) (x:=encV φ v) (.inl rfl)
  obtain ⟨S2,ψ2,N2,C2,E2,h4,h5,h6⟩:=Cu.roots R hr l C1 (fun u hu=>hl u (by simp [hu]))
  simp only [List.map_cons,mRoots]
  refine ⟨S2,ψ2,N2,C2,E1.trans E2,fun k hk=>?_,fun u hu h=>?_,?_⟩
  ·rcases h4 k hk with h | h
   ·rcases h1 k h with h' | ⟨h',rfl⟩
    ·exact .inl h'
    ·exact .inr (by rw [←h'];simp)
   ·exact .inr (by simp [h])
  ·rcases List.mem_cons.1 hu with rfl | hu
   ·exact E2.sub _ (h3 h)
   ·exact h5 u hu h
  ·rw [h2,h6]
   congr 1
   exact (encV_congr (fun h=>E2.at_ _ (h3 h))).symm
theorem Sc.dirty (R:Rep O W φ) (hr:(O.ar.yng:Int)≤(O.ar.ws.length:Int)-O.ar.grn) (hal:Closed W.nd qw Al):∀ (l:List Int) {s:Ms} {S:Int→Prop} {ψ:Int→Int} {N:List Int},Sc O W φ Al s S ψ N→(∀ p ∈ l, ∃ i,W.live i∧(W.th i).old=true∧p=φ i) →
  ∃ S' ψ' N',Sc O W φ Al (mDirty O.ar.nur O.cd s l) S' ψ' N'∧SE W s S ψ N (mDirty O.ar.nur O.cd s l) S' ψ' N'∧∀ i,W.live i→(W.th i).old=true→φ i ∈ l→Looked W (mDirty O.ar.nur O.cd s l) S' ψ' i∨Clean W i
 | [],s,S,ψ,N,H,_=>⟨S,ψ,N,H,SE.refl,fun i _ _ h=>by cases h⟩
 | p :: l,s,S,ψ,N,H,hl=>by
  obtain ⟨i,hi,ho,rfl⟩:=hl p (by simp)
  have hS:=H.C.so i hi ho
  have step:∃ S1 ψ1 N1,Sc O W φ Al (if dirtyL O.ar.nur O.cd (φ i)=true then mLook s (φ i) else s) S1 ψ1 N1∧SE W s S ψ N (if dirtyL O.ar.nur O.cd (φ i)=true then mLook s (φ i) else s) S1 ψ1 N1∧(Looked W (if dirtyL O.ar.nur O.cd (φ i)=true then mLook s (φ i) else s) S1 ψ1 i∨Clean W i):=by
   by_cases hd:dirtyL O.ar.nur O.cd (φ i)=true
   ·rw [if_pos hd,←H.C.po i hi ho]
    obtain ⟨S1,ψ1,N1,H1,E1,hL⟩:=H.look R hr hal hS
    exact ⟨S1,ψ1,N1,H1,E1, .inl hL⟩
   ·rw [if_neg hd]
    refine ⟨S,ψ,N,H,SE.refl, .inr ⟨ho,fun v hv h3=>?_⟩⟩
    cases hv':(W.th v.2).old
    ·exact (hd (R.card i hi ho v hv h3 hv')).elim
    ·rfl
  obtain ⟨S1,ψ1,N1,H1,E1,k1⟩:=step
  obtain ⟨S2,ψ2,N2,H2,E2,k2⟩:=Sc.dirty R hr hal l H1 (fun p hp=>hl p (by simp [hp]))
  have e:mDirty O.ar.nur O.cd s (φ i :: l)=mDirty O.ar.nur O.cd (if dirtyL O.ar.nur O.cd (φ i)=true then mLook s (φ i) else s) l:=rfl
  rw [e]
  refine ⟨S2,ψ2,N2,H2,E1.trans E2,fun k hk hko hkl=>?_⟩
  rcases List.mem_cons.1 hkl with h | h
  ·have:=R.inj k i hk hi h
   subst this
   rcases k1 with h1 | h1
   ·exact .inl (h1.mono E2 (E1.E.sub k hS))
   ·exact .inr h1
  ·exact k2 k hk hko h
structure Ps (O:Wo) (W:Wd) (φ:Int→Int) (rw_:List Int) (t:Mt) (q:List (Int × Int)) (is:List Bool) (qw:List (Int × Int)) (ψ:Int→Int) (N:List Int):Prop where
 H:Sc O W φ (fun k=>atB is k=true) t.1 (fun k=>atB is k=true) ψ N
 n:Sn O W t.1 (fun k=>atB is k=true) ψ N t.2
 c:t.2=t.1.A.grn
 q:Qrel φ ψ (fun k=>atB is k=true) q qw
 ok:∀ e ∈ qw,W.okE e
 shut:Closed W.nd qw fun k=>atB is k=true
 len:is.length=W.T.length
 rt:∀ v ∈ W.roots,v.1=3→atB is v.2=true
 rw_:rw_=W.roots.map (encV ψ)
theorem Sc.setAl {s:Ms} (H:Sc O W φ Al s S ψ N) {Bl:Int→Prop} (h:∀ k,S k→Bl k):Sc O W φ Bl s S ψ N:=⟨H.C,h,H.wk,H.ep⟩
theorem Sc.drainP (R:Rep O W φ) (hr:(O.ar.yng:Int)≤(O.ar.ws.length:Int)-O.ar.grn) (hqw:∀ e ∈ qw,W.okE e) {d:Md} {is:List Bool} (hlen:is.length=W.T.length) (hS:∀ k,S k↔atB is k=true)
  (H:Sc O W φ (fun k=>Alive W.nd qw (fun k=>atB is k=true) k) d.s S ψ N) (hs:Sn O W d.s S ψ N d.c) (hc:d.c≤d.s.A.grn) (hq:Qrel φ ψ S d.q qw) {rts:List Int} (hrt:∀ v ∈ W.roots,v.1=3→S v.2) (hrw:rts=W.roots.map (encV ψ)) :
  ∃ ψ' N',Ps O W φ rts ((mDrain 2000 d).s,(mDrain 2000 d).c) (mDrain 2000 d).q (W.clo qw is) qw ψ' N'∧SE W d.s S ψ N (mDrain 2000 d).s (fun k=>atB (W.clo qw is) k=true) ψ' N':=by
 have h3:=H.C.sm.ok.h3;have h4:=H.C.sm.ok.h4;have h5:=H.C.sm.len
 obtain ⟨S1,ψ1,N1,H1,E1,n1,c1,q1,k1⟩:=H.drain R hr (Alive.closed W.nd qw _) hqw 2000 hs hc hq (by omega)
 have e:S1=fun k=>atB (W.clo qw is) k=true:=by
  funext k
  refine propext ⟨fun hk=>?_,fun hk=>?_⟩
  ·have hl:=H1.C.sl k hk
   exact cloL_at.2 ⟨hl.1,by rw [hlen];exact hl.2.1,H1.al k hk⟩
  ·exact (cloL_at.1 hk).2.2.least (fun j hj=>E1.E.sub j ((hS j).2 hj)) k1
 subst e
 refine ⟨ψ1,N1,⟨H1.setAl (fun k hk=>hk),n1,c1,q1,hqw,k1,by unfold Wd.clo;rw [cloL_length,hlen],fun v hv h=>E1.E.sub _ (hrt v hv h),?_⟩,E1⟩
 rw [hrw]
 exact List.map_congr_left fun v hv=>(encV_congr (fun h=>E1.E.at_ _ (hrt v hv h))).symm
theorem Rep.pre (R:Rep O W φ) (hr:(O.ar.yng:Int)≤(O.ar.ws.length:Int)-O.ar.grn):∃ ψ N,Ps O W φ (mRoots O.ar O.rt).2 ((mPre O).s,(mPre O).c) (mPre O).q (W.clo W.wait (W.first false)) W.wait ψ N:=by
 have hal:=Alive.closed W.nd W.wait (fun k=>atB (W.first false) k=true)
 have C0:=Cu.start R
 obtain ⟨S1,ψ1,N1,C1,E1,h1,h2,h3⟩:=Cu.roots R hr W.roots C0 R.hw.rv
 rw [←R.rt] at C1 E1 h3
 have hS1:∀ k,S1 k↔atB (W.first false) k=true:=fun k=>by
  rw [Wd.first_at]
  constructor
  ·intro hk
   have hl:=C1.sl k hk
   refine ⟨hl.1,hl.2.1,?_⟩
   rcases h1 k hk with h | h
   ·exact .inl ⟨h.2,hl.2.2,rfl⟩
   ·exact .inr h
  ·rintro ⟨h0,h4,h5 | h5⟩
   ·exact C1.so k ⟨h0,h4,h5.2.1⟩ h5.1
   ·exact h2 _ h5 rfl
 have H1:Sc O W φ (fun k=>Alive W.nd W.wait (fun k=>atB (W.first false) k=true) k) ⟨(mRoots O.ar O.rt).1,[],[]⟩ S1 ψ1 N1:=⟨C1,fun k hk=>Alive.base ((hS1 k).1 hk),(by intro p hp;cases hp),(by intro p hp;cases hp)⟩
 have hz:∀ p ∈ O.ar.things.2, ∃ i,W.live i∧(W.th i).old=true∧p=φ i:=fun p hp=>by
  have:=(R.perm_o.mem_iff (a:=p)).1 hp
  obtain ⟨i,hi,rfl⟩:=List.mem_map.1 this
  have:=Wd.mem_idx.1 hi
  exact ⟨i,this.1,this.2,rfl⟩
 obtain ⟨S2,ψ2,N2,H2,E2,k2⟩:=H1.dirty R hr hal O.ar.things.2 hz
 have hn2:Sn O W (mDirty O.ar.nur O.cd ⟨(mRoots O.ar O.rt).1,[],[]⟩ O.ar.things.2) S2 ψ2 N2 O.ar.grn:=
  ⟨⟨[],N2,rfl,rfl,(by intro i hi;cases hi)⟩,fun i hi ho=>k2 i hi ho (R.ino i hi ho)⟩
 have hq0:∀ (m:List (Int × Int)),Qrel φ ψ2 S2 (m.map (encE φ)) m:=fun m=>by
  induction m with
  | nil=>trivial
  | cons f m ih=>
   refine ⟨⟨?_, .inl ?_⟩,ih⟩
   ·rw [encV_ref φ rfl];rfl
   ·rw [encV_ref φ rfl];rfl
 have h3':=H2.C.sm.ok.h3;have h4':=H2.C.sm.ok.h4;have h5':=H2.C.sm.len
 have hflen:(W.first false).length=W.T.length:=Wd.first_length W false
 obtain ⟨S3,ψ3,N3,H3,E3,n3,c3,q3,k3⟩:=H2.drain R hr hal R.hw.wv 2000 (d:=⟨mDirty O.ar.nur O.cd ⟨(mRoots O.ar O.rt).1,[],[]⟩ O.ar.things.2,O.ar.grn,O.wt⟩) hn2 (Int.ofNat_le.2 (Nat.le_trans E1.grn E2.E.grn)) (by
  show Qrel φ ψ2 S2 O.wt W.wait
  rw [R.wt];exact hq0 _) (by show ((O.ar.ws.length:Int)-_).toNat<2000;omega)
 have e:S3=fun k=>atB (W.clo W.wait (W.first false)) k=true:=by
  funext k
  refine propext ⟨fun hk=>?_,fun hk=>?_⟩
  ·have hl:=H3.C.sl k hk
   exact cloL_at.2 ⟨hl.1,by rw [hflen];exact hl.2.1,H3.al k hk⟩
  ·exact (cloL_at.1 hk).2.2.least (fun j hj=>E3.E.sub j (E2.E.sub j ((hS1 j).2 hj))) k3
 subst e
 have at3:∀ k,S1 k→ψ3 k=ψ1 k:=fun k hk=>(E3.E.at_ k (E2.E.sub k hk)).trans (E2.E.at_ k hk)
 refine ⟨ψ3,N3,⟨H3.setAl (fun k hk=>hk),n3,c3,q3,R.hw.wv,k3,by unfold Wd.clo;rw [cloL_length,hflen],fun v hv h=>E3.E.sub _ (E2.E.sub _ (h2 v hv h)),?_⟩⟩
 rw [h3]
 exact List.map_congr_left fun v hv=>(encV_congr (fun h=>at3 _ (h2 v hv h))).symm
theorem Ps.keep (R:Rep O W φ) (hr:(O.ar.yng:Int)≤(O.ar.ws.length:Int)-O.ar.grn) {rts:List Int} {t:Mt} {q:List (Int × Int)} {is:List Bool} (P:Ps O W φ rts t q is qw ψ N) {x g:Int} (hx:W.live x) (hg:W.live g) (hk:(W.th g).k=5) :
  ∃ ψ' N',Ps O W φ rts (mtKeep t q (encV φ (3,x))).1 ((mtKeep t q (encV φ (3,x))).2.1 ++ [(encV φ (3,g),(mtKeep t q (encV φ (3,x))).2.2)]) (W.clo qw (is.set x.toNat true)) (qw ++ [(g,x)]) ψ' N':=by
 have okx:W.okV (3,x):=.inr (.inr (.inr ⟨rfl,hx⟩))
 obtain ⟨S1,ψ1,N1,C1,E1,h1,h2,h3,_⟩:=P.H.C.bring R hr okx (x:=encV φ (3,x)) (.inl rfl)
 have hS1:∀ k,S1 k↔atB (is.set x.toNat true) k=true:=fun k=>by
  rw [atB_set hx.1 (by rw [P.len];exact hx.2.1)]
  constructor
  ·intro hk
   rcases h1 k hk with h | ⟨_,rfl⟩
   ·exact .inr h
   ·exact .inl rfl
  ·rintro (rfl | h)
   ·exact h3 rfl
   ·exact E1.sub k h
 obtain ⟨H1,SE1⟩:=(P.H.setAl (Bl:=fun k=>Alive W.nd qw (fun k=>atB (is.set x.toNat true) k=true) k) (fun k hk=>Alive.base ((hS1 k).1 (E1.sub k hk)))).withA C1 E1 (fun k hk=>Alive.base ((hS1 k).1 hk))
 have hn1:=P.n.more P.H.C C1 SE1
 have hq1:=P.q.mono E1
 obtain ⟨ψ2,N2,P2,SE2⟩:=H1.drainP (d:=⟨{ t.1 with A:=mBring t.1.A (encV φ (3,x)) },t.2,q⟩) R hr P.ok (by rw [List.length_set];exact P.len) hS1 hn1 (by show t.2≤_;rw [P.c];exact Int.ofNat_le.2 E1.grn) hq1 (rts:=rts) (fun v hv h=>E1.sub _ (P.rt v hv h)) (by
  rw [P.rw_]
  exact List.map_congr_left fun v hv=>(encV_congr (fun h=>E1.at_ _ (P.rt v hv h))).symm)
 have hxin:atB (W.clo qw (is.set x.toNat true)) x=true:=SE2.E.sub _ (h3 rfl)
 refine ⟨ψ2,N2,⟨P2.H,P2.n,P2.c,Qrel.app ⟨rfl,?_⟩ P2.q,fun e he=>?_,?_,P2.len,P2.rt,P2.rw_⟩⟩
 ·refine .inr ⟨fun _=>hxin,?_⟩
  show mNow (mBring t.1.A (encV φ (3,x))) (encV φ (3,x))=_
  rw [h2]
  exact (encV_congr (fun h=>SE2.E.at_ _ (h3 rfl))).symm
 ·rcases List.mem_append.1 he with h | h
  ·exact P.ok e h
  ·rw [List.mem_singleton.1 h];exact ⟨hg,hk,hx⟩
 ·intro a b ha hl
  by_cases hb:b=x
  ·subst hb;exact hxin
  ·refine P2.shut a b ha ?_
   rcases hl with h | h | h | ⟨h,h'⟩
   ·exact .inl h
   ·exact .inr (.inl h)
   ·exact .inr (.inr (.inl h))
   ·refine .inr (.inr (.inr ⟨h,?_⟩))
    rcases List.mem_append.1 h' with h4 | h4
    ·exact h4
    ·simp at h4;exact absurd h4.2 hb
def encI (φ:Int→Int) (i:It):It:=(encE φ i.1,i.2)
theorem encE_eq (φ:Int→Int) (e:Int × Int):encE φ e=(encV φ (3,e.1),encV φ (3,e.2)):=by
 rw [encV_ref φ rfl,encV_ref φ rfl];rfl
theorem Ps.alive (R:Rep O W φ) {rts:List Int} {t:Mt} {q:List (Int × Int)} {is:List Bool} (P:Ps O W φ rts t q is qw ψ N) {x:Int} (hx:W.live x):mtAlive t (encV φ (3,x))=atB is x:=by
 have:=P.H.C.alive R (v:=(3,x)) (x:=encV φ (3,x)) (.inr (.inr (.inr ⟨rfl,hx⟩))) (.inl rfl)
 simp only [forall_const] at this
 rw [Bool.eq_iff_iff]
 exact this
theorem Ps.scan (R:Rep O W φ) (hr:(O.ar.yng:Int)≤(O.ar.ws.length:Int)-O.ar.grn) {rts:List Int}:∀ (l:List It) {t:Mt} {q:List (Int × Int)} {is:List Bool} {qw:List (Int × Int)} {ψ:Int→Int} {N:List Int},Ps O W φ rts t q is qw ψ N→(∀ i ∈ l,W.okE i.1) →
  ∃ ψ' N',Ps O W φ rts (scanM mtAlive mtKeep t q (l.map (encI φ))).1 (scanM mtAlive mtKeep t q (l.map (encI φ))).2.1 (scanM atB W.keepW is qw l).1 (scanM atB W.keepW is qw l).2.1 ψ' N' ∧
   (scanM mtAlive mtKeep t q (l.map (encI φ))).2.2.1=(scanM atB W.keepW is qw l).2.2.1.map (encI φ)∧(scanM mtAlive mtKeep t q (l.map (encI φ))).2.2.2=(scanM atB W.keepW is qw l).2.2.2
 | [],t,q,is,qw,ψ,N,P,_=>⟨ψ,N,P,rfl,rfl⟩
 | i :: l,t,q,is,qw,ψ,N,P,hl=>by
  have hi:=hl i (by simp)
  have ea:mtAlive t (encI φ i).1.1=atB is i.1.1:=by
   show mtAlive t (encE φ i.1).1=_
   rw [encE_eq];exact P.alive R hi.1
  simp only [List.map_cons,scanM]
  rw [ea]
  have e2:(encI φ i).2=i.2:=rfl
  rw [e2]
  by_cases hc:(i.2.1 && !i.2.2 && atB is i.1.1)=true
  ·rw [if_pos hc,if_pos hc]
   obtain ⟨ψ1,N1,P1⟩:=P.keep R hr hi.2.2 hi.1 hi.2.1
   have e3:(encI φ i).1.2=encV φ (3,i.1.2):=by show (encE φ i.1).2=_;rw [encE_eq]
   have e4:(encI φ i).1.1=encV φ (3,i.1.1):=by show (encE φ i.1).1=_;rw [encE_eq]
   rw [←e3,←e4] at P1
   obtain ⟨ψ2,N2,P2,h1,h2⟩:=Ps.scan R hr l P1 (fun j hj=>hl j (by simp [hj]))
   refine ⟨ψ2,N2,P2,?_,rfl⟩
   dsimp only
   rw [h1];rfl
  ·rw [if_neg hc,if_neg hc]
   obtain ⟨ψ2,N2,P2,h1,h2⟩:=Ps.scan R hr l P (fun j hj=>hl j (by simp [hj]))
   refine ⟨ψ2,N2,P2,?_,h2⟩
   dsimp only
   rw [h1];rfl
theorem Ps.rounds (R:Rep O W φ) (hr:(O.ar.yng:Int)≤(O.ar.ws.length:Int)-O.ar.grn) {rts:List Int}:∀ (n:Nat) (l:List It) {t:Mt} {q:List (Int × Int)} {is:List Bool} {qw:List (Int × Int)} {ψ:Int→Int} {N:List Int},Ps O W φ rts t q is qw ψ N→(∀ i ∈ l,W.okE i.1) →
  ∃ ψ' N',Ps O W φ rts (roundsM mtAlive mtKeep n t q (l.map (encI φ))).1 (roundsM mtAlive mtKeep n t q (l.map (encI φ))).2.1 (roundsM atB W.keepW n is qw l).1 (roundsM atB W.keepW n is qw l).2.1 ψ' N' ∧
   (roundsM mtAlive mtKeep n t q (l.map (encI φ))).2.2=(roundsM atB W.keepW n is qw l).2.2.map (encI φ)
 | 0,l,t,q,is,qw,ψ,N,P,hl=>⟨ψ,N,P,rfl⟩
 | n+1,l,t,q,is,qw,ψ,N,P,hl=>by
  obtain ⟨ψ1,N1,P1,h1,h2⟩:=P.scan R hr l hl
  have hl1:=scan_items is qw hl
  simp only [roundsM]
  rw [h2]
  by_cases hc:(scanM atB W.keepW is qw l).2.2.2=true
  ·rw [if_pos hc,if_pos hc,h1]
   exact Ps.rounds R hr n _ P1 hl1
  ·rw [if_neg hc,if_neg hc]
   exact ⟨ψ1,N1,P1,h1⟩
theorem Rep.passes (R:Rep O W φ) (hr:(O.ar.yng:Int)≤(O.ar.ws.length:Int)-O.ar.grn):∃ ψ N,Ps O W φ (mRoots O.ar O.rt).2 (mPass O).1 (mPass O).2.1 (W.pass false).1 (W.pass false).2.1 ψ N∧(mPass O).2.2=(W.pass false).2.2.map (encI φ):=by
 obtain ⟨ψ0,N0,P0⟩:=R.pre hr
 have e:itemsM mtAlive ((mPre O).s,(mPre O).c) O.rg=(itemsM atB (W.clo W.wait (W.first false)) W.regs).map (encI φ):=by
  unfold itemsM
  rw [R.rg,List.map_map,List.map_map]
  refine List.map_congr_left fun e he=>?_
  have:=R.hw.gv e he
  show (encE φ e,!mtAlive _ (encE φ e).2,false)=(encE φ e,!atB _ e.2,false)
  rw [show (encE φ e).2=encV φ (3,e.2) by rw [encE_eq],P0.alive R this.2.2]
 have hlen:O.rg.length=W.regs.length:=by rw [R.rg];simp
 unfold mPass Wd.pass passM
 rw [e,hlen]
 exact P0.rounds R hr _ _ (fun i hi=>by
  simp only [itemsM,List.mem_map] at hi
  obtain ⟨e,he,rfl⟩:=hi
  exact R.hw.gv e he)
end
end
section
section
variable {O:Wo} {W:Wd} {φ ψ:Int→Int} {A B:Ar} {is:List Bool} {N:List Int} {qw:List (Int × Int)}
theorem Cu.encR {S:Int→Prop} (R:Rep O W φ) (C:Cu O W φ A S ψ N) {v:Vl} (hok:W.okV v) (hs:v.1=3→S v.2):R64 (encV ψ v):=by
 have b3:=C.sm.ok.h3;have b4:=C.sm.ok.h4
 unfold R64
 rcases hok with h | h | h | h
 ·have e:encV ψ v=2:=by simp [encV,h.1]
  rw [e];decide
 ·have e:encV ψ v=4*v.2:=by simp [encV,h.1]
  have:=h.2
  unfold big at this
  rw [e];omega
 ·have e:encV ψ v=3:=by simp [encV,h.1]
  rw [e];decide
 ·rw [encV_ref ψ h.1]
  have:=C.place R (hs h.1)
  omega
theorem R64_three:R64 3:=by unfold R64;decide
structure Gb (ψ:Int→Int) (is:List Bool) (A B:Ar):Prop where
 sm:Sm A B
 grn:B.grn=A.grn
 yl:∀ q,A.young q=true→B.load q=A.load q
 hd:∀ k,atB is k=true→B.thing (ψ k)=A.thing (ψ k)
theorem Gb.alive (G:Gb ψ is A B) (x:Int):mAlive B x=mAlive A x:=by
 have hy:B.young (x/4)=A.young (x/4):=by unfold Ar.young;rw [G.sm.yng]
 unfold mAlive
 rw [hy]
 cases h:A.young (x/4)
 ·simp
 ·rw [G.yl _ h]
theorem Gb.now (G:Gb ψ is A B) (x:Int):mNow B x=mNow A x:=by
 have hy:B.young (x/4)=A.young (x/4):=by unfold Ar.young;rw [G.sm.yng]
 unfold mNow
 rw [hy]
 cases h:A.young (x/4)
 ·simp
 ·rw [G.yl _ h]
theorem Gb.put (R:Rep O W φ) (C:Cu O W φ A (fun k=>atB is k=true) ψ N) (G:Gb ψ is A B) {i:Int} (hi:atB is i=true) {j:Nat} (hj:j<(W.th i).fs.length) {x:Int} (hx:R64 x) :
  Gb ψ is A (B.store (ψ i+1+j) x)∧(B.store (ψ i+1+j) x).load (ψ i+1+j)=x ∧
  ∀ k,atB is k=true→∀ n,n<(W.th k).fs.length→(k≠i∨n≠j)→(B.store (ψ i+1+j) x).load (ψ k+1+n)=B.load (ψ k+1+n):=by
 have hB:=G.sm.ok
 have hld:=fun q=>Ar.load_store hB (ψ i+1+(j:Int)) q x
 have hne:∀ q,q≠ψ i+1+j→(B.store (ψ i+1+j) x).load q=B.load q:=fun q hq=>by rw [hld,if_neg (fun h=>hq h.1)]
 have hpi:=C.place R hi
 have b1:=C.sm.ok.h1
 have huse:B.inUse (ψ i+1+j)=true:=by
  have:=C.inO R hi (j:=1+(j:Int)) (by omega) (by omega)
  rw [←Int.add_assoc] at this
  unfold Ar.inUse Ar.old at *
  rw [G.grn,G.sm.nur,this];simp
 refine ⟨⟨G.sm.trans (Sm.store hB _ hx),by rw [Ar.store_grn];exact G.grn,fun q hq=>?_,fun k hk=>?_⟩,by rw [hld,if_pos ⟨rfl,huse⟩],fun k hk n hn hne'=>hne _ ?_⟩
 ·rw [hne q (by have:=young_iff.1 hq;omega)];exact G.yl q hq
 ·have:(B.store (ψ i+1+j) x).thing (ψ k)=B.thing (ψ k):=by
   refine thing_of_load (hne _ ?_)
   by_cases e:k=i
   ·subst e;omega
   ·have:=C.apart R hk hi e;omega
  rw [this];exact G.hd k hk
 ·by_cases e:k=i
  ·subst e
   have:n≠j:=by rcases hne' with h | h;exact absurd rfl h;exact h
   omega
  ·have:=C.apart R hk hi e;omega
def cutF (W:Wd) (is:List Bool) (i:Int):List Vl:=(cutT is i.toNat (W.th i)).fs
def FinF (W:Wd) (ψ:Int→Int) (is:List Bool) (B:Ar) (i:Int):Prop:=∀ (j:Nat) (v:Vl),(cutF W is i)[j]? = some v→B.load (ψ i+1+j)=encV ψ v
def RawF (W:Wd) (φ ψ:Int→Int) (is:List Bool) (B:Ar) (i:Int):Prop:=∀ (j:Nat) (v:Vl),(W.th i).fs[j]? = some v→Wrd φ ψ (fun k=>atB is k=true) (B.load (ψ i+1+j)) v
theorem cutF_eq {i:Int} (h0:0≤i) (hb:atB is i=true):cutF W is i =
  if (W.th i).k=4∧inS is ((W.th i).fs.getD 0 (0,0))=false then [(2,0),(2,0)] else if (W.th i).k=3∧inS is ((W.th i).fs.getD 0 (0,0))=false then [(2,0),(W.th i).fs.getD 1 (0,0)] else (W.th i).fs:=by
 unfold cutF cutT
 rw [if_pos (by rw [atB_toNat h0];exact hb)]
theorem inS_iff {v:Vl}:inS is v=true↔(v.1=3→atB is v.2=true):=by
 unfold inS
 by_cases h:v.1=3
 ·simp [h]
 ·simp [h]
theorem list_two {α:Type} {l:List α} (h:l.length=2):∃ a b,l=[a,b]:=by
 match l,h with
 | [a,b],_=>exact ⟨a,b,rfl⟩
structure Gn (W:Wd) (φ ψ:Int→Int) (is:List Bool) (A B:Ar):Prop where
 G:Gb ψ is A B
 f:∀ i,atB is i=true→FinF W ψ is B i∨((W.th i).k=3∧RawF W φ ψ is B i∧∀ v,(W.th i).fs[1]? = some v→B.load (ψ i+2)=encV ψ v)∨((W.th i).k=4∧RawF W φ ψ is B i)
theorem FinF.congr {B':Ar} {i:Int} (hl:(cutF W is i).length=(W.th i).fs.length) (h:∀ n,n<(W.th i).fs.length→B'.load (ψ i+1+n)=B.load (ψ i+1+n)) (hf:FinF W ψ is B i):FinF W ψ is B' i:=fun j v hv=>by
 have:=(List.getElem?_eq_some_iff.1 hv).1
 rw [h j (by omega)];exact hf j v hv
theorem RawF.congr {B':Ar} {i:Int} (h:∀ n,n<(W.th i).fs.length→B'.load (ψ i+1+n)=B.load (ψ i+1+n)) (hf:RawF W φ ψ is B i):RawF W φ ψ is B' i:=fun j v hv=>by
 rw [h j (List.getElem?_eq_some_iff.1 hv).1];exact hf j v hv
theorem cutF_len (R:Rep O W φ) (C:Cu O W φ A (fun k=>atB is k=true) ψ N) {i:Int} (hi:atB is i=true):(cutF W is i).length=(W.th i).fs.length:=by
 have hl:=C.sl i hi
 exact cutT_len (by rw [atB_toNat hl.1];exact hi) (R.hw.tk i hl)
theorem Gn.other (R:Rep O W φ) (C:Cu O W φ A (fun k=>atB is k=true) ψ N) (g:Gn W φ ψ is A B) {B':Ar} (G':Gb ψ is A B') {i:Int} (hfin:FinF W ψ is B' i)
  (h:∀ k,atB is k=true→k≠i→∀ n,n<(W.th k).fs.length→B'.load (ψ k+1+n)=B.load (ψ k+1+n)):Gn W φ ψ is A B':=by
 refine ⟨G',fun k hk=>?_⟩
 by_cases e:k=i
 ·subst e;exact .inl hfin
 ·rcases g.f k hk with h1 | ⟨h1,h2,h3⟩ | ⟨h1,h2⟩
  ·exact .inl (h1.congr (cutF_len R C hk) (h k hk e))
  ·refine .inr (.inl ⟨h1,h2.congr (h k hk e),fun v hv=>?_⟩)
   have hh:=h k hk e 1 (List.getElem?_eq_some_iff.1 hv).1
   rw [show ψ k+1+((1:Nat):Int)=ψ k+2 by omega] at hh
   rw [hh];exact h3 v hv
  ·exact .inr (.inr ⟨h1,h2.congr (h k hk e)⟩)
theorem enc_gone (ψ:Int→Int):encV ψ (2,0)=3:=rfl
theorem now_three (B:Ar):mNow B 3=3:=mNow_plain (by decide)
theorem alive_three (B:Ar):mAlive B 3=true:=mAlive_plain (by decide)
theorem Gn.key (R:Rep O W φ) (C:Cu O W φ A (fun k=>atB is k=true) ψ N) (g:Gn W φ ψ is A B) {i:Int} (hi:atB is i=true) {v0 v1:Vl} (hk:(W.th i).k=3∨(W.th i).k=4) (hfs:(W.th i).fs=[v0,v1]) :
  (inS is v0=true→mAlive B (B.load (ψ i+1))=true∧mNow B (B.load (ψ i+1))=encV ψ v0) ∧
  (inS is v0=false→(FinF W ψ is B i∧B.load (ψ i+1)=3)∨mAlive B (B.load (ψ i+1))=false):=by
 have hl:=C.sl i hi
 have ok0:=R.hw.tv i hl v0 (by rw [hfs];simp)
 have e0:ψ i+1+((0:Nat):Int)=ψ i+1:=by omega
 have hc:=cutF_eq (W:=W) hl.1 hi
 rw [hfs] at hc
 simp only [List.getD_cons_zero,List.getD_cons_succ] at hc
 constructor
 ·intro hs
  have hw:Wrd φ ψ (fun k=>atB is k=true) (B.load (ψ i+1)) v0:=by
   rw [if_neg (fun h=>by rw [hs] at h;cases h.2),if_neg (fun h=>by rw [hs] at h;cases h.2)] at hc
   rcases g.f i hi with h | ⟨_,h,_⟩ | ⟨_,h⟩
   ·have:=h 0 v0 (by rw [hc];rfl)
    rw [e0] at this
    exact .inr ⟨inS_iff.1 hs,this⟩
   ·have:=h 0 v0 (by rw [hfs];rfl);rwa [e0] at this
   ·have:=h 0 v0 (by rw [hfs];rfl);rwa [e0] at this
  rw [g.G.alive,g.G.now]
  exact ⟨(C.alive R ok0 hw).2 (inS_iff.1 hs),C.now R ok0 hw (inS_iff.1 hs)⟩
 ·intro hs
  have hn:¬ (v0.1=3→atB is v0.2=true):=fun h=>by rw [inS_iff.2 h] at hs;cases hs
  have raw:RawF W φ ψ is B i→mAlive B (B.load (ψ i+1))=false:=fun h=>by
   have h1:=h 0 v0 (by rw [hfs];rfl)
   rw [e0] at h1
   rw [g.G.alive]
   cases ha:mAlive A (B.load (ψ i+1))
   ·rfl
   ·exact (hn ((C.alive R ok0 h1).1 ha)).elim
  rcases g.f i hi with h | ⟨_,h,_⟩ | ⟨_,h⟩
  ·refine .inl ⟨h,?_⟩
   have h2:(cutF W is i)[0]? = some (2,0):=by
    rw [hc]
    rcases hk with hk | hk
    ·rw [if_neg (fun h=>by omega),if_pos ⟨hk,hs⟩];rfl
    ·rw [if_pos ⟨hk,hs⟩];rfl
   have:=h 0 _ h2
   rw [e0] at this
   rw [this,enc_gone]
  ·exact .inr (raw h)
  ·exact .inr (raw h)
theorem Gn.weak (R:Rep O W φ) (C:Cu O W φ A (fun k=>atB is k=true) ψ N) (g:Gn W φ ψ is A B) {i:Int} (hi:atB is i=true) (hk:(W.th i).k=3) :
  Gn W φ ψ is A (mFix B (ψ i+1) (!mAlive B (B.load (ψ i+1))))∧FinF W ψ is (mFix B (ψ i+1) (!mAlive B (B.load (ψ i+1)))) i:=by
 have hl:=C.sl i hi
 have h2:=Wd.two R.hw hl (.inl hk)
 obtain ⟨v0,v1,hfs⟩:=list_two h2
 have ok0:=R.hw.tv i hl v0 (by rw [hfs];simp)
 obtain ⟨k1,k2⟩:=g.key R C hi (.inl hk) hfs
 have hc:=cutF_eq (W:=W) hl.1 hi
 rw [hfs] at hc
 simp only [List.getD_cons_zero,List.getD_cons_succ] at hc
 rw [if_neg (fun h=>by omega)] at hc
 have e0:ψ i+1+((0:Nat):Int)=ψ i+1:=by omega
 have e1:ψ i+1+((1:Nat):Int)=ψ i+2:=by omega
 have hval:∃ w,cutF W is i=[w,v1]∧(if (!mAlive B (B.load (ψ i+1)))=true then 3 else mNow B (B.load (ψ i+1)))=encV ψ w∧R64 (encV ψ w):=by
  cases hs:inS is v0
  ·rw [if_pos ⟨hk,hs⟩] at hc
   refine ⟨(2,0),hc,?_,by rw [enc_gone];exact R64_three⟩
   rcases k2 hs with ⟨_,h⟩ | h
   ·rw [h,alive_three,now_three];rfl
   ·rw [h];rfl
  ·rw [if_neg (fun h=>by rw [hs] at h;cases h.2)] at hc
   obtain ⟨h1,h3⟩:=k1 hs
   exact ⟨v0,hc,by rw [h1,h3];rfl,C.encR R ok0 (inS_iff.1 hs)⟩
 obtain ⟨w,hcw,hv,hR⟩:=hval
 have hB:mFix B (ψ i+1) (!mAlive B (B.load (ψ i+1)))=B.store (ψ i+1+((0:Nat):Int)) (encV ψ w):=by
  rw [e0];unfold mFix;rw [hv]
 obtain ⟨G',a1,a2⟩:=g.G.put R C hi (j:=0) (by omega) hR
 have hfin:FinF W ψ is (mFix B (ψ i+1) (!mAlive B (B.load (ψ i+1)))) i:=by
  rw [hB]
  intro j v hv'
  rw [hcw] at hv'
  match j,hv' with
  | 0,hv'=>simp at hv';subst hv';exact a1
  | 1,hv'=>
   simp at hv';subst hv'
   rw [a2 i hi 1 (by omega) (.inr (by decide)),e1]
   rcases g.f i hi with h | ⟨_,_,h⟩ | ⟨h,_⟩
   ·have:=h 1 v1 (by rw [hcw];rfl);rwa [e1] at this
   ·exact h v1 (by rw [hfs];rfl)
   ·omega
 refine ⟨?_,hfin⟩
 rw [hB] at hfin ⊢
 exact g.other R C G' hfin (fun k hk' hne n hn=>a2 k hk' n hn (.inl hne))
theorem Gn.eph (R:Rep O W φ) (C:Cu O W φ A (fun k=>atB is k=true) ψ N) (hcl:Closed W.nd qw fun k=>atB is k=true) (g:Gn W φ ψ is A B) {i:Int} (hi:atB is i=true) (hk:(W.th i).k=4) :
  Gn W φ ψ is A (mGoneE1 B (ψ i))∧FinF W ψ is (mGoneE1 B (ψ i)) i:=by
 have hl:=C.sl i hi
 have h2:=Wd.two R.hw hl (.inr (.inl hk))
 obtain ⟨v0,v1,hfs⟩:=list_two h2
 have ok0:=R.hw.tv i hl v0 (by rw [hfs];simp)
 have ok1:=R.hw.tv i hl v1 (by rw [hfs];simp)
 obtain ⟨k1,k2⟩:=g.key R C hi (.inr hk) hfs
 have hc:=cutF_eq (W:=W) hl.1 hi
 rw [hfs] at hc
 simp only [List.getD_cons_zero,List.getD_cons_succ] at hc
 have e0:ψ i+1+((0:Nat):Int)=ψ i+1:=by omega
 have e1:ψ i+1+((1:Nat):Int)=ψ i+2:=by omega
 obtain ⟨dd,hd⟩:∃ d,(!mAlive B (B.load (ψ i+1)))=d:=⟨_,rfl⟩
 have hval:∃ w0 w1,cutF W is i=[w0,w1]∧(if dd=true then 3 else mNow B (B.load (ψ i+1)))=encV ψ w0∧R64 (encV ψ w0)∧(if dd=true then 3 else mNow B (B.load (ψ i+2)))=encV ψ w1∧R64 (encV ψ w1):=by
  cases hs:inS is v0
  ·rw [if_pos ⟨hk,hs⟩] at hc
   refine ⟨(2,0),(2,0),hc,?_,by rw [enc_gone];exact R64_three,?_,by rw [enc_gone];exact R64_three⟩
   ·rcases k2 hs with ⟨_,h⟩ | h
    ·rw [←hd,h,alive_three,now_three];rfl
    ·rw [←hd,h];rfl
   ·rcases k2 hs with ⟨hf,h⟩ | h
    ·have:=hf 1 (2,0) (by rw [hc];rfl)
     rw [e1,enc_gone] at this
     rw [←hd,h,alive_three,this,now_three];rfl
    ·rw [←hd,h];rfl
  ·rw [if_neg (fun h=>by rw [hs] at h;cases h.2),if_neg (fun h=>by omega)] at hc
   obtain ⟨h1,h3⟩:=k1 hs
   have hs1:v1.1=3→atB is v1.2=true:=fun h3=>hcl i v1.2 hi (.inr (.inr (.inl ⟨hk,by
    show (W.th i).fs[1]? = _
    rw [hfs];show some v1=_;congr 1;exact Prod.ext h3 rfl,fun v hv h=>by
    have hv':(W.th i).fs[0]? = some v:=hv
    rw [hfs] at hv'
    have:v0=v:=by simpa using hv'
    subst this;exact inS_iff.1 hs h⟩)))
   have hw1:Wrd φ ψ (fun k=>atB is k=true) (B.load (ψ i+2)) v1:=by
    rcases g.f i hi with h | ⟨h,_,_⟩ | ⟨_,h⟩
    ·have:=h 1 v1 (by rw [hc];rfl)
     rw [e1] at this
     exact .inr ⟨hs1,this⟩
    ·omega
    ·have:=h 1 v1 (by rw [hfs];rfl);rwa [e1] at this
   refine ⟨v0,v1,hc,by rw [←hd,h1,h3];rfl,C.encR R ok0 (inS_iff.1 hs),?_,C.encR R ok1 hs1⟩
   rw [←hd,h1]
   show mNow B (B.load (ψ i+2))=_
   rw [g.G.now];exact C.now R ok1 hw1 hs1
 obtain ⟨w0,w1,hcw,hv0,hR0,hv1,hR1⟩:=hval
 obtain ⟨G1,a1,a2⟩:=g.G.put R C hi (j:=0) (by omega) hR0
 have hld:(B.store (ψ i+1+((0:Nat):Int)) (encV ψ w0)).load (ψ i+2)=B.load (ψ i+2):=by
  have:=a2 i hi 1 (by omega) (.inr (by decide));rwa [e1] at this
 obtain ⟨G2,b1,b2⟩:=G1.put R C hi (j:=1) (by omega) hR1
 have hB:mGoneE1 B (ψ i)=(B.store (ψ i+1+((0:Nat):Int)) (encV ψ w0)).store (ψ i+1+((1:Nat):Int)) (encV ψ w1):=by
  unfold mGoneE1
  rw [hd]
  have e2:mFix B (ψ i+1) dd=B.store (ψ i+1+((0:Nat):Int)) (encV ψ w0):=by rw [e0];unfold mFix;rw [hv0]
  rw [e2]
  unfold mFix
  rw [hld,e1,G1.now,←g.G.now,hv1]
 have hfin:FinF W ψ is (mGoneE1 B (ψ i)) i:=by
  rw [hB]
  intro j v hv'
  rw [hcw] at hv'
  match j,hv' with
  | 0,hv'=>simp at hv';subst hv';rw [b2 i hi 0 (by omega) (.inr (by decide))];exact a1
  | 1,hv'=>simp at hv';subst hv';exact b1
 refine ⟨?_,hfin⟩
 rw [hB] at hfin ⊢
 refine g.other R C G2 hfin (fun k hk' hne n hn=>?_)
 rw [b2 k hk' n hn (.inl hne),a2 k hk' n hn (.inl hne)]
theorem Gn.weaks (R:Rep O W φ) (C:Cu O W φ A (fun k=>atB is k=true) ψ N):∀ (l:List Int) {B:Ar},Gn W φ ψ is A B→(∀ p ∈ l, ∃ i,atB is i=true∧(W.th i).k=3∧p=ψ i) →
  Gn W φ ψ is A (mGoneW B l)∧(∀ i,atB is i=true→FinF W ψ is B i→FinF W ψ is (mGoneW B l) i)∧∀ i,atB is i=true→ψ i ∈ l→FinF W ψ is (mGoneW B l) i
 | [],B,g,_=>⟨g,fun _ _ h=>h,fun _ _ h=>by cases h⟩
 | p :: l,B,g,hl=>by
  obtain ⟨i,hi,hk,rfl⟩:=hl p (by simp)
  obtain ⟨g1,f1⟩:=g.weak R C hi hk
  obtain ⟨g2,f2,f3⟩:=Gn.weaks R C l g1 (fun p hp=>hl p (by simp [hp]))
  have e:mGoneW B (ψ i :: l)=mGoneW (mFix B (ψ i+1) (!mAlive B (B.load (ψ i+1)))) l:=rfl
  rw [e]
  have keep:∀ k,atB is k=true→FinF W ψ is B k→FinF W ψ is (mFix B (ψ i+1) (!mAlive B (B.load (ψ i+1)))) k:=fun k hk' hf=>by
   by_cases ek:k=i
   ·subst ek;exact f1
   ·refine hf.congr (cutF_len R C hk') (fun n hn=>?_)
    unfold mFix
    have:=C.apart R hk' hi ek
    have hn2:=Wd.two R.hw (C.sl i hi) (.inl hk)
    rw [Ar.load_store g.G.sm.ok,if_neg (fun h=>by omega)]
  refine ⟨g2,fun k hk' hf=>f2 k hk' (keep k hk' hf),fun k hk' hm=>?_⟩
  rcases List.mem_cons.1 hm with h | h
  ·have:=C.inj R hk' hi h
   subst this
   exact f2 k hk' f1
  ·exact f3 k hk' h
theorem Gn.ephs (R:Rep O W φ) (C:Cu O W φ A (fun k=>atB is k=true) ψ N) (hcl:Closed W.nd qw fun k=>atB is k=true):∀ (l:List Int) {B:Ar},Gn W φ ψ is A B→(∀ p ∈ l, ∃ i,atB is i=true∧(W.th i).k=4∧p=ψ i) →
  Gn W φ ψ is A (l.foldl mGoneE1 B)∧(∀ i,atB is i=true→FinF W ψ is B i→FinF W ψ is (l.foldl mGoneE1 B) i)∧∀ i,atB is i=true→ψ i ∈ l→FinF W ψ is (l.foldl mGoneE1 B) i
 | [],B,g,_=>⟨g,fun _ _ h=>h,fun _ _ h=>by cases h⟩
 | p :: l,B,g,hl=>by
  obtain ⟨i,hi,hk,rfl⟩:=hl p (by simp)
  obtain ⟨g1,f1⟩:=g.eph R C hcl hi hk
  obtain ⟨g2,f2,f3⟩:=Gn.ephs R C hcl l g1 (fun p hp=>hl p (by simp [hp]))
  have e:(ψ i :: l).foldl mGoneE1 B=l.foldl mGoneE1 (mGoneE1 B (ψ i)):=rfl
  rw [e]
  have keep:∀ k,atB is k=true→FinF W ψ is B k→FinF W ψ is (mGoneE1 B (ψ i)) k:=fun k hk' hf=>by
   by_cases ek:k=i
   ·subst ek;exact f1
   ·refine hf.congr (cutF_len R C hk') (fun n hn=>?_)
    unfold mGoneE1 mFix
    have:=C.apart R hk' hi ek
    have hn2:=Wd.two R.hw (C.sl i hi) (.inr (.inl hk))
    have hok1:(B.store (ψ i+1) (if (!mAlive B (B.load (ψ i+1)))=true then 3 else mNow B (B.load (ψ i+1)))).ok:=by
     refine g.G.sm.ok.store _ _ ?_
     split
     ·exact R64_three
     ·exact mNow_R64 (g.G.sm.ok.load _)
    rw [Ar.load_store hok1,if_neg (fun h=>by omega),Ar.load_store g.G.sm.ok,if_neg (fun h=>by omega)]
  refine ⟨g2,fun k hk' hf=>f2 k hk' (keep k hk' hf),fun k hk' hm=>?_⟩
  rcases List.mem_cons.1 hm with h | h
  ·have:=C.inj R hk' hi h
   subst this
   exact f2 k hk' f1
  ·exact f3 k hk' h
theorem Ps.gone (R:Rep O W φ) {rts:List Int} {t:Mt} {q:List (Int × Int)} (P:Ps O W φ rts t q is qw ψ N):Gb ψ is t.1.A (mGone t.1)∧∀ i,atB is i=true→FinF W ψ is (mGone t.1) i:=by
 have C:=P.H.C
 have start:Gn W φ ψ is t.1.A t.1.A∧∀ i,atB is i=true→FinF W ψ is t.1.A i∨((W.th i).k=3∧ψ i ∈ t.1.wk)∨((W.th i).k=4∧ψ i ∈ t.1.ep):=by
  have main:∀ i,atB is i=true→FinF W ψ is t.1.A i∨((W.th i).k=3∧ψ i ∈ t.1.wk∧∀ v,(W.th i).fs[1]? = some v→t.1.A.load (ψ i+2)=encV ψ v)∨((W.th i).k=4∧ψ i ∈ t.1.ep):=by
   intro i hi
   have hl:=C.sl i hi
   have all:Looked W t.1 (fun k=>atB is k=true) ψ i∨Clean W i:=by
    cases ho:(W.th i).old
    ·exact .inl (P.n.all R C P.c i ((C.nm i).2 ⟨hi,ho⟩))
    ·exact P.n.old i hl ho
   rcases all with h | h
   ·by_cases k3:(W.th i).k=3
    ·refine .inr (.inl ⟨k3,(h.2.1 k3).1,fun v hv=>?_⟩)
     have:=((h.2.1 k3).2 v hv).2
     rwa [show ψ i+1+((1:Nat):Int)=ψ i+2 by omega] at this
    ·by_cases k4:(W.th i).k=4
     ·exact .inr (.inr ⟨k4,h.2.2 k4⟩)
     ·left
      intro j v hv
      rw [cutF_eq hl.1 hi,if_neg (fun h=>k4 h.1),if_neg (fun h=>k3 h.1)] at hv
      by_cases k12:(W.th i).k=1∨(W.th i).k=2
      ·exact (h.1 k12 j v hv).2
      ·exfalso
       have hf:=R.hw.tk i hl
       have hs:=fitsW_spec hf
       have k5:(W.th i).k=5:=by omega
       rw [k5] at hf
       simp [fitsW] at hf
       have:=(List.getElem?_eq_some_iff.1 hv).1
       simp [hf] at this
   ·left
    intro j v hv
    have all:∀ v ∈ (W.th i).fs,inS is v=true:=fun v hv=>inS_iff.2 fun h3=>C.so _ (Wd.okV_ref (R.hw.tv i hl v hv) h3) (h.2 v hv h3)
    have h0:(W.th i).k=3∨(W.th i).k=4→inS is ((W.th i).fs.getD 0 (0,0))=true:=fun hk=>by
     obtain ⟨a,b,e⟩:=list_two (Wd.two R.hw hl (by rcases hk with h | h;exact .inl h;exact .inr (.inl h)))
     rw [e];exact all a (by rw [e];simp)
    rw [cutF_eq hl.1 hi,if_neg (fun h=>by rw [h0 (.inr h.1)] at h;cases h.2),if_neg (fun h=>by rw [h0 (.inl h.1)] at h;cases h.2)] at hv
    have hm:=List.mem_of_getElem? hv
    rcases C.fd i hi j v hv with e | ⟨_,e⟩
    ·rw [e]
     exact (encV_congr (fun h3=>C.po _ (Wd.okV_ref (R.hw.tv i hl v hm) h3) (h.2 v hm h3))).symm
    ·exact e
  refine ⟨⟨⟨Sm.refl C.sm.ok,rfl,fun _ _=>rfl,fun _ _=>rfl⟩,fun i hi=>?_⟩,fun i hi=>?_⟩
  ·rcases main i hi with h | ⟨h,_,h'⟩ | ⟨h,_⟩
   ·exact .inl h
   ·exact .inr (.inl ⟨h,C.fd i hi,h'⟩)
   ·exact .inr (.inr ⟨h,C.fd i hi⟩)
  ·rcases main i hi with h | ⟨h,h',_⟩ | h
   ·exact .inl h
   ·exact .inr (.inl ⟨h,h'⟩)
   ·exact .inr (.inr h)
 obtain ⟨g0,f0⟩:=start
 obtain ⟨g1,f1,f2⟩:=g0.weaks R C t.1.wk P.H.wk
 obtain ⟨g2,f3,f4⟩:=g1.ephs R C P.shut t.1.ep P.H.ep
 refine ⟨g2.G,fun i hi=>?_⟩
 rcases f0 i hi with h | ⟨_,h⟩ | ⟨_,h⟩
 ·exact f3 i hi (f1 i hi h)
 ·exact f3 i hi (f2 i hi h)
 ·exact f4 i hi h
end
end
section
section
variable {O:Wo} {W:Wd} {φ ψ:Int→Int} {A B:Ar} {is:List Bool} {N:List Int} {qw:List (Int × Int)}
theorem sumL_le (h:W.ok) (hl:∀ i,atB is i=true→W.live i):sumL is W.T≤W.young+W.olds:=by
 have e:sumL is W.T=((((List.range W.T.length).map (Int.ofNat ·)).filter fun i=>atB is i).map fun i=>(W.th i).words).sum:=by
  rw [sum_filter]
  unfold sumL
  congr 1
  apply List.ext_getElem
  ·simp
  ·intro k h1 h2
   simp only [List.length_mapIdx] at h1
   simp only [List.getElem_mapIdx,List.getElem_map,List.getElem_range]
   have e1:W.th (Int.ofNat k)=W.T[k]:=by
    unfold Wd.th
    rw [List.getD_eq_getElem?_getD,show (Int.ofNat k).toNat=k from rfl,List.getElem?_eq_getElem h1];rfl
   have e2:atB is (Int.ofNat k)=is.getD k false:=atB_nat is k
   rw [e1,e2]
 have hnd:(((List.range W.T.length).map (Int.ofNat ·)).filter fun i=>atB is i).Nodup:=(nodup_range_int _).filter _
 have h1:=sum_sub (f:=fun i=>(W.th i).words) (fun i=>by unfold Th.words;omega) hnd (m:=W.idx false ++ W.idx true) (by
  intro i hi
  have hb:=(List.mem_filter.1 hi).2
  have hlv:=hl i (by simpa using hb)
  rw [List.mem_append]
  cases ho:(W.th i).old
  ·exact .inl (Wd.mem_idx.2 ⟨hlv,ho⟩)
  ·exact .inr (Wd.mem_idx.2 ⟨hlv,ho⟩))
 rw [List.map_append,List.sum_append,Wd.sum_idx,Wd.sum_idx] at h1
 have e1:(sumW W.T fun t=>!t.dead && (t.old == false))=W.young:=by unfold Wd.young;congr 1;funext t;cases t.old <;> rfl
 have e2:(sumW W.T fun t=>!t.dead && (t.old == true))=W.olds:=by unfold Wd.olds;congr 1;funext t;cases t.old <;> rfl
 rw [e1,e2] at h1
 rw [e];exact h1
theorem clear_load (A:Ar) {q:Int} (h:A.old q=true):A.clear.load q=A.load q:=by
 have h1:A.inUse q=true:=by unfold Ar.inUse;rw [h];simp
 have h2:A.clear.inUse q=true:=by
  unfold Ar.inUse
  rw [Bool.or_eq_true];right
  exact h
 unfold Ar.load
 rw [if_pos h1,if_pos h2];rfl
theorem Wd.cut_small (W:Wd) (h:¬ W.young > W.grow-W.olds) (h2:¬ sumL (W.pass false).1 W.T > W.grow):W.cut false=(0,W.after false):=by
 unfold Wd.cut
 rw [if_neg (fun h'=>h h'.2),if_neg h2]
theorem Rep.minor (R:Rep O W φ):(mCut O).1=(W.cut false).1∧∃ ψ,Rep (mCut O).2 (W.cut false).2 ψ:=by
 have hsy:=R.sy;have hso:=R.so;have hnur:=R.nur;have hlen:=R.len
 by_cases hfull:(O.ar.yng:Int) > (O.ar.ws.length:Int)-O.ar.grn
 ·have e1:mCut O=(3,O):=by unfold mCut;rw [if_pos hfull]
  have e2:W.cut false=(3,W):=by unfold Wd.cut;rw [if_pos ⟨rfl,by omega⟩]
  rw [e1,e2]
  exact ⟨rfl,φ,R⟩
 ·have hr:(O.ar.yng:Int)≤(O.ar.ws.length:Int)-O.ar.grn:=by omega
  obtain ⟨m,hfst,hcnt,hits⟩:=Wd.pass_mid R.hw false
  have hsum:=sumL_le R.hw m.live
  have e2:W.cut false=(0,W.after false):=W.cut_small (by omega) (by omega)
  have e1:mCut O=(0,⟨(mGone (mPass O).1.1).clear,O.cd.map fun _=>false,(mRoots O.ar O.rt).2,newRegs mtAlive mtNow (mPass O).1 (mPass O).2.2,newWait mtAlive mtNow (mPass O).1 (mPass O).2.1⟩):=by unfold mCut;rw [if_neg hfull]
  rw [e1,e2]
  obtain ⟨ψ,N,P,hI⟩:=R.passes hr
  obtain ⟨G,F⟩:=P.gone R
  have C:=P.H.C
  refine ⟨rfl,ψ,?_⟩
  have hokA:=R.hw.after (major:=false) (by omega)
  obtain ⟨B,hB⟩:∃ B,mGone (mPass O).1.1=B:=⟨_,rfl⟩
  rw [hB] at G F ⊢
  have okB:=G.sm.ok
  have lv:∀ {i},(W.after false).live i↔atB (W.pass false).1 i=true:=Wd.after_live R.hw
  have tha:∀ {i},atB (W.pass false).1 i=true→(W.after false).th i=cutT (W.pass false).1 i.toNat (W.th i):=fun hi=>Wd.th_after (m.live _ hi).1 (m.live _ hi).2.1
  have olda:∀ {i},atB (W.pass false).1 i=true→((W.after false).th i).old=true:=fun hi=>by
   rw [tha hi,(cutT_live (by rw [atB_toNat (m.live _ hi).1];exact hi)).2]
  have pl:∀ {i},atB (W.pass false).1 i=true→_:=fun {i} hi=>C.place R (i:=i) hi
  have oldB:∀ {i},atB (W.pass false).1 i=true→∀ j:Int,0≤j→j≤(W.th i).fs.length→B.old (ψ i+j)=true:=fun hi j h0 h1=>by
   have:=C.inO R hi h0 h1
   unfold Ar.old at *;rw [G.sm.nur,G.grn];exact this
  have thB:∀ {i},atB (W.pass false).1 i=true→B.clear.thing (ψ i)=((W.th i).k,((W.th i).fs.length:Int),0):=fun {i} hi=>by
   have h1:=oldB hi 0 (by omega) (by omega)
   rw [Int.add_zero] at h1
   rw [thing_of_load (clear_load B h1),G.hd i hi]
   exact C.th i hi
  have hgr:((O.ar.grn:Nat):Int)≤B.grn:=by rw [G.grn];exact Int.ofNat_le.2 C.sm.grn
  have tz:Tile B.clear (O.ar.things.2 ++ N.map ψ) B.clear.nur B.clear.grn:=by
   refine Tile.app (b:=O.ar.grn) ?_ ?_
   ·have hn:B.clear.nur=O.ar.nur:=(G.sm.nur).trans C.sm.nur
    rw [hn]
    refine Tile.congr (fun p hp=>?_) R.tz
    have:=(R.perm_o.mem_iff (a:=p)).1 hp
    obtain ⟨i,hi,rfl⟩:=List.mem_map.1 this
    obtain ⟨hl,ho⟩:=Wd.mem_idx.1 hi
    have hb:=C.so i hl ho
    have:=thB hb
    rw [C.po i hl ho] at this
    rw [this,R.th i hl]
   ·have hg:B.clear.grn=(mPass O).1.1.A.grn:=G.grn
    rw [hg]
    refine Tile.congr (fun p hp=>?_) C.tile
    obtain ⟨i,hi,rfl⟩:=List.mem_map.1 hp
    have hb:=((C.nm i).1 hi).1
    rw [thB hb,C.th i hb]
  have ty:Tile B.clear [] 0 B.clear.yng:=rfl
  have hokC:B.clear.ok:=okB.clear
  have hth:=Tile.things hokC ty tz
  have itx:∀ i ∈ (W.pass false).2.2,W.okE i.1∧(i.2.1=false→atB (W.pass false).1 i.1.2=true):=by
   intro i hi
   have h1:(i.1,i.2.1) ∈ (W.pass false).2.2.map (fun i=>(i.1,i.2.1)):=List.mem_map.2 ⟨i,hi,rfl⟩
   rw [hits] at h1
   obtain ⟨e,he',e2⟩:=List.mem_map.1 h1
   have e3:e=i.1:=congrArg (fun p:(Int × Int) × Bool=>p.1) e2
   have e4:(!atB (W.clo W.wait (W.first false)) e.2)=i.2.1:=congrArg (fun p:(Int × Int) × Bool=>p.2) e2
   have hgv:=R.hw.gv e he'
   rw [e3] at hgv e4
   exact ⟨hgv,fun hd=>hfst _ (by rw [hd] at e4;simpa using e4)⟩
  have nowP:∀ {x:Int} {y:Int},atB (W.pass false).1 x=true→Wrd φ ψ (fun k=>atB (W.pass false).1 k=true) y (3,x)→mtNow (mPass O).1 y=4*ψ x+1:=fun {x y} hx hw=>by
   have:=C.now R (v:=(3,x)) (.inr (.inr (.inr ⟨rfl,m.live x hx⟩))) hw (fun _=>hx)
   unfold mtNow
   rw [this,encV_ref ψ rfl]
  have hrg:newRegs mtAlive mtNow (mPass O).1 (mPass O).2.2=(W.after false).regs.map (encE ψ):=by
   rw [hI]
   show newRegs mtAlive mtNow (mPass O).1 _=(newRegs atB nowW (W.pass false).1 (W.pass false).2.2).map (encE ψ)
   generalize (W.pass false).2.2=l at itx
   unfold newRegs
   induction l with
   | nil=>rfl
   | cons i l ih=>
    have hi:=itx i (by simp)
    have ih:=ih (fun j hj=>itx j (by simp [hj]))
    have ea:mtAlive (mPass O).1 (encI φ i).1.1=atB (W.pass false).1 i.1.1:=by
     show mtAlive _ (encE φ i.1).1=_
     rw [encE_eq];exact P.alive R hi.1.1
    simp only [List.map_cons,List.filter_cons,ea]
    have e2:(encI φ i).2=i.2:=rfl
    rw [e2]
    by_cases hc:(!i.2.1 && atB (W.pass false).1 i.1.1)=true
    ·rw [if_pos hc,if_pos hc]
     simp only [List.map_cons]
     simp only [Bool.and_eq_true,Bool.not_eq_true'] at hc
     have n1:=nowP hc.2 (y:=(encI φ i).1.1) (.inl (by show (encE φ i.1).1=_;rw [encE_eq]))
     have n2:=nowP (hi.2 hc.1) (y:=(encI φ i).1.2) (.inl (by show (encE φ i.1).2=_;rw [encE_eq]))
     rw [ih,n1,n2];rfl
    ·rw [if_neg hc,if_neg hc];exact ih
  have hwt:newWait mtAlive mtNow (mPass O).1 (mPass O).2.1=(W.after false).wait.map (encE ψ):=by
   show _=(newWait atB nowW (W.pass false).1 (W.pass false).2.1).map (encE ψ)
   have hq:=P.q
   have hok:=P.ok
   have hsh:∀ f ∈ (W.pass false).2.1,atB (W.pass false).1 f.1=true→atB (W.pass false).1 f.2=true:=fun f hf h=>P.shut f.1 f.2 h (.inr (.inr (.inr ⟨(hok f hf).2.1,hf⟩)))
   clear hcnt
   revert hq hok hsh
   generalize (mPass O).2.1=l
   generalize (W.pass false).2.1=mm
   unfold newWait
   induction l generalizing mm with
   | nil=>
    intro hq _ _
    cases mm with
    | nil=>rfl
    | cons f mm=>exact hq.elim
   | cons e l ih=>
    intro hq hok hsh
    cases mm with
    | nil=>exact hq.elim
    | cons f mm=>
     have ih:=ih mm hq.2 (fun g hg=>hok g (by simp [hg])) (fun g hg=>hsh g (by simp [hg]))
     have hf:=hok f (by simp)
     have ea:mtAlive (mPass O).1 e.1=atB (W.pass false).1 f.1:=by rw [hq.1.1];exact P.alive R hf.1
     simp only [List.filter_cons,ea]
     by_cases hc:atB (W.pass false).1 f.1=true
     ·rw [if_pos hc,if_pos hc]
      simp only [List.map_cons]
      rw [ih,nowP hc (.inl hq.1.1),nowP (hsh f (by simp) hc) hq.1.2];rfl
     ·rw [if_neg hc,if_neg hc];exact ih
  have hR64:∀ {i},atB (W.pass false).1 i=true→R64 (4*ψ i+1):=fun hi=>by
   have:=pl hi
   have h3:=C.sm.ok.h3;have h4:=C.sm.ok.h4
   unfold R64;omega
  have hE64:∀ e,(W.after false).okE e→R64e (encE ψ e):=fun e he=>⟨hR64 (lv.1 he.1),hR64 (lv.1 he.2.2)⟩
  refine ⟨⟨hokC,?_,fun x hx=>?_,fun e he=>?_,fun e he=>?_,?_,by simpa using R.ho.hc⟩,hokA,by rw [hth];exact ty,by rw [hth];exact tz,fun i j hi hj e=>C.inj R (lv.1 hi) (lv.1 hj) e,fun p hp=>?_,fun i hi ho=>?_,fun i hi ho=>?_,fun i hi=>?_,fun i hi j v hv=>?_,
   P.rw_,hrg,hwt,?_,?_,by rw [List.length_map];exact R.cl,fun i hi ho v hv h3 hy=>?_⟩
  ·show (mRoots O.ar O.rt).2.length=12
   rw [P.rw_];simpa using R.hw.hr
  ·have hx':x ∈ (mRoots O.ar O.rt).2:=hx
   rw [P.rw_] at hx'
   obtain ⟨v,hv,rfl⟩:=List.mem_map.1 hx'
   exact C.encR R (R.hw.rv v hv) (P.rt v hv)
  ·have he':e ∈ newRegs mtAlive mtNow (mPass O).1 (mPass O).2.2:=he
   rw [hrg] at he'
   obtain ⟨f,hf,rfl⟩:=List.mem_map.1 he'
   exact hE64 f (hokA.gv f hf)
  ·have he':e ∈ newWait mtAlive mtNow (mPass O).1 (mPass O).2.1:=he
   rw [hwt] at he'
   obtain ⟨f,hf,rfl⟩:=List.mem_map.1 he'
   exact hE64 f (hokA.wv f hf)
  ·show (newRegs mtAlive mtNow (mPass O).1 (mPass O).2.2).length+(newWait mtAlive mtNow (mPass O).1 (mPass O).2.1).length≤24
   rw [hrg,hwt,List.length_map,List.length_map];exact hokA.hq
  ·have hp':p ∈ B.clear.things.1∨p ∈ B.clear.things.2:=hp
   rw [hth] at hp'
   dsimp only at hp'
   rcases hp' with h | h
   ·cases h
   ·rcases List.mem_append.1 h with h | h
    ·obtain ⟨i,hi,rfl⟩:=List.mem_map.1 ((R.perm_o.mem_iff (a:=p)).1 h)
     obtain ⟨hl,ho⟩:=Wd.mem_idx.1 hi
     exact ⟨i,lv.2 (C.so i hl ho),C.po i hl ho⟩
    ·obtain ⟨i,hi,rfl⟩:=List.mem_map.1 h
     exact ⟨i,lv.2 ((C.nm i).1 hi).1,rfl⟩
  ·rw [olda (lv.1 hi)] at ho;cases ho
  ·show ψ i ∈ B.clear.things.2
   rw [hth]
   have hb:=lv.1 hi
   dsimp only
   rw [List.mem_append]
   cases ho':(W.th i).old
   ·exact .inr (List.mem_map.2 ⟨i,(C.nm i).2 ⟨hb,ho'⟩,rfl⟩)
   ·left
    have hl:=m.live i hb
    rw [C.po i hl ho']
    exact R.ino i hl ho'
  ·have hb:=lv.1 hi
   have hl:=m.live i hb
   show B.clear.thing (ψ i)=_
   rw [thB hb,tha hb,cutT_kind,cutT_len (by rw [atB_toNat hl.1];exact hb) (R.hw.tk i hl)]
  ·have hb:=lv.1 hi
   have hl:=m.live i hb
   rw [tha hb] at hv
   show B.clear.load _=_
   have hj:j<(W.th i).fs.length:=by
    have:=(List.getElem?_eq_some_iff.1 hv).1
    rwa [cutT_len (by rw [atB_toNat hl.1];exact hb) (R.hw.tk i hl)] at this
   rw [clear_load B (by rw [Int.add_assoc];exact oldB hb _ (by omega) (by omega))]
   exact F i hb j v hv
  ·show (B.nur:Int)=W.most
   rw [G.sm.nur,C.sm.nur];exact R.nur
  ·show (B.ws.length:Int)=W.most+W.grow
   rw [G.sm.len,C.sm.len];exact R.len
  ·have hl3:(W.after false).live v.2:=Wd.okV_ref (hokA.tv i hi v hv) h3
   rw [olda (lv.1 hl3)] at hy;cases hy
end
end
section
structure Gs where
 lv:List Bool
 st:List Int
 ep:List Int
def jAlive (s:Gs) (x:Int):Bool:=!decide (x%4=1) || atB s.lv (x/4)
def jMark (s:Gs) (x:Int):Gs:=if jAlive s x=true then s else ⟨s.lv.set (x/4).toNat true,s.st ++ [x/4],s.ep⟩
def jMarks (s:Gs) (l:List Int):Gs:=l.foldl jMark s
def jLook (A:Ar) (s:Gs) (i:Int):Gs:=
 if (A.thing i).1=1∨(A.thing i).1=2 then jMarks s (A.fields i)
 else if (A.thing i).1=3 then jMark s (A.load (i+2))
 else if (A.thing i).1=4 then { s with ep:=s.ep ++ [i] }
 else s
def jPop (A:Ar) (s:Gs):Gs:=jLook A { s with st:=s.st.dropLast } (s.st.getLastD 0)
def jPops (A:Ar):Nat→Gs→Gs
 | 0,s=>s
 | n+1,s=>if s.st=[] then s else jPops A n (jPop A s)
def jEph1 (A:Ar) (s:Gs) (i:Int):Gs:=if jAlive s (A.load (i+1))=true then jMark s (A.load (i+2)) else s
def jEph (A:Ar) (s:Gs) (l:List Int):Gs:=l.foldl (jEph1 A) s
def jKp (s:Gs) (x:Int):Gs × Int:=(jMark s x,x)
def jRound (A:Ar) (q:List (Int × Int)) (s:Gs):Gs:=(wakeM jAlive jKp (jEph A (jPops A 2000 s) (jPops A 2000 s).ep) q).1
def jDrain (A:Ar) (q:List (Int × Int)):Nat→Gs→Gs
 | 0,s=>s
 | n+1,s=>if (jRound A q s).st=[] then jRound A q s else jDrain A q n (jRound A q s)
def jKeep (A:Ar) (s:Gs) (q:List (Int × Int)) (x:Int):Gs × List (Int × Int) × Int:=(jDrain A q 2000 (jMark s x),q,x)
def jPre (O:Wo):Gs:=jDrain O.ar O.wt 2000 (jMarks ⟨List.replicate O.ar.ws.length false,[],[]⟩ O.rt)
def jPass (O:Wo):Gs × List (Int × Int) × List It:=passM jAlive (jKeep O.ar) (jPre O) O.rg O.wt
def sameW (s:Gs) (x:Int):Int:=x
def jPlan (A:Ar) (lv:List Bool) (base:Int):List Int→List Int × Int→List Int × Int
 | [],t=>t
 | i :: l,t=>jPlan A lv base l (if atB lv i=true then (t.1.set i.toNat (base+t.2),t.2+(1+(A.thing i).2.1)) else t)
def jNow (f:List Int) (x:Int):Int:=if x%4=1 then refW (f.getD (x/4).toNat 0) else x
def jTurn1 (s:Gs) (f:List Int) (b:Bool) (A:Ar) (i:Int):Ar:=A.store i (if (b || !jAlive s (A.load i))=true then 3 else jNow f (A.load i))
def jTurnN (s:Gs) (f:List Int) (b:Bool):Nat→Ar→Int→Ar
 | 0,A,_=>A
 | n+1,A,i=>jTurnN s f b n (jTurn1 s f b A i) (i+1)
def jTurn (s:Gs) (f:List Int) (A:Ar) (i:Int):Ar:=jTurnN s f (decide ((A.thing i).1=4) && !jAlive s (A.load (i+1))) (A.thing i).2.1.toNat A (i+1)
def jSlide1 (f:List Int) (A:Ar) (i:Int):Ar:=
 { A with ws:=lay A.ws (f.getD i.toNat 0).toNat ((A.ws.drop i.toNat).take (1+(A.thing i).2.1).toNat) }
def jAll (O:Wo):List Int:=O.ar.things.2 ++ O.ar.things.1
def jThings (O:Wo):List Int:=(jAll O).filter fun i=>atB (jPass O).1.lv i
def jPl (O:Wo):List Int × Int:=jPlan O.ar (jPass O).1.lv O.ar.nur (jAll O) (List.replicate O.ar.ws.length 0,0)
def jNowE (f:List Int) (e:Int × Int):Int × Int:=(jNow f e.1,jNow f e.2)
def jTurned (O:Wo):Ar:=(jThings O).foldl (jTurn (jPass O).1 (jPl O).1) O.ar
def jSlid (O:Wo):Ar:=(jThings O).foldl (jSlide1 (jPl O).1) (jTurned O)
def jCut (O:Wo):Int × Wo:=
 if (jPl O).2 > ((O.ar.grn:Int)-O.ar.nur)+((O.ar.ws.length:Int)-O.ar.grn) then (3,O)
 else (0,⟨((jSlid O).cut (jPl O).2.toNat).clear,O.cd.map fun _=>false,O.rt.map (jNow (jPl O).1),
  (newRegs jAlive sameW (jPass O).1 (jPass O).2.2).map (jNowE (jPl O).1),(newWait jAlive sameW (jPass O).1 (jPass O).2.1).map (jNowE (jPl O).1)⟩)
def fals (l:List Bool):Nat:=(l.filter fun b=>!b).length
theorem fals_set:∀ {l:List Bool} {i:Nat},i<l.length→l.getD i false=false→fals (l.set i true)+1=fals l
 | [],i,h,_=>by simp at h
 | b :: l,0,_,h=>by
  have hb:b=false:=by simpa using h
  subst hb;simp [fals]
 | b :: l,i+1,h,hv=>by
  have:=fals_set (l:=l) (i:=i) (by simpa using h) (by simpa using hv)
  unfold fals at *
  rw [List.set_cons_succ]
  cases b <;> simp [List.filter_cons] <;> omega
theorem fals_le (l:List Bool):fals l≤l.length:=List.length_filter_le _ _
def jM (s:Gs):Nat:=s.st.length+fals s.lv
theorem wakeM_same:∀ (q:List (Int × Int)) (s:Gs),(wakeM jAlive jKp s q).2.1=q
 | [],s=>rfl
 | e :: q,s=>by
  unfold wakeM
  split
  ·simp only [wakeM_same q];rfl
  ·simp only [wakeM_same q]
def LkJ (W:Wd) (φ:Int→Int) (s:Gs) (S:Int→Prop) (i:Int):Prop:=
 (((W.th i).k=1∨(W.th i).k=2)→∀ v ∈ (W.th i).fs,v.1=3→S v.2)∧((W.th i).k=3→∀ v,(W.th i).fs[1]? = some v→v.1=3→S v.2)∧((W.th i).k=4→φ i ∈ s.ep)
structure Mk (O:Wo) (W:Wd) (φ:Int→Int) (Al Ex:Int→Prop) (s:Gs) (S:Int→Prop):Prop where
 len:s.lv.length=O.ar.ws.length
 at_:∀ p,atB s.lv p=true↔∃ i,S i∧φ i=p
 sl:∀ i,S i→W.live i
 al:∀ i,S i→Al i
 st:∀ p ∈ s.st, ∃ i,S i∧φ i=p
 ep:∀ p ∈ s.ep, ∃ i,S i∧(W.th i).k=4∧φ i=p
 done:∀ i,S i→Ex i∨φ i ∈ s.st∨LkJ W φ s S i
section
variable {O:Wo} {W:Wd} {φ:Int→Int} {s s':Gs} {S S' Al Ex:Int→Prop} {qw:List (Int × Int)}
theorem Mk.alive (R:Rep O W φ) (M:Mk O W φ Al Ex s S) {v:Vl} (hv:W.okV v):jAlive s (encV φ v)=true↔(v.1=3→S v.2):=by
 unfold jAlive
 by_cases h3:v.1=3
 ·have hl:=Wd.okV_ref hv h3
  rw [encV_ref φ h3,show (4*φ v.2+1)%4=1 by omega,show (4*φ v.2+1)/4=φ v.2 by omega]
  simp only [decide_true,Bool.not_true,Bool.false_or]
  rw [M.at_]
  constructor
  ·rintro ⟨i,hi,e⟩ _
   rw [←R.inj i v.2 (M.sl i hi) hl e];exact hi
  ·intro h;exact ⟨_,h h3,rfl⟩
 ·have:¬ encV φ v%4=1:=fun h=>h3 ((encV_mod hv).1 h)
  simp [this,h3]
theorem Mk.eq (M:Mk O W φ Al Ex s S) (h:∀ k,S k↔S' k):Mk O W φ Al Ex s S':=by
 have e:S=S':=funext fun k=>propext (h k)
 rw [←e];exact M
structure MX (s:Gs) (S:Int→Prop) (s':Gs) (S':Int→Prop):Prop where
 sub:∀ k,S k→S' k
 ep:∀ p ∈ s.ep,p ∈ s'.ep
 m:jM s'=jM s
 f:fals s'.lv≤fals s.lv
theorem MX.refl:MX s S s S:=⟨fun _ h=>h,fun _ h=>h,rfl,Nat.le_refl _⟩
theorem MX.trans {s2:Gs} {S2:Int→Prop} (h:MX s S s' S') (k:MX s' S' s2 S2):MX s S s2 S2:=
 ⟨fun i hi=>k.sub i (h.sub i hi),fun p hp=>k.ep p (h.ep p hp),k.m.trans h.m,Nat.le_trans k.f h.f⟩
theorem Mk.mark (R:Rep O W φ) (M:Mk O W φ Al Ex s S) {v:Vl} (hv:W.okV v) (ha:v.1=3→Al v.2) :
  Mk O W φ Al Ex (jMark s (encV φ v)) (fun k=>S k∨(v.1=3∧k=v.2))∧MX s S (jMark s (encV φ v)) (fun k=>S k∨(v.1=3∧k=v.2))∧(jMark s (encV φ v)).ep=s.ep ∧
   ((∀ p ∈ s.st,p ∈ (jMark s (encV φ v)).st)∧∀ p ∈ (jMark s (encV φ v)).st,p ∈ s.st∨∃ k,¬ S k∧v.1=3∧k=v.2):=by
 by_cases hc:jAlive s (encV φ v)=true
 ·have e:jMark s (encV φ v)=s:=if_pos hc
  have h:=(M.alive R hv).1 hc
  rw [e]
  refine ⟨M.eq (fun k=>⟨.inl,?_⟩),⟨fun k h=>.inl h,fun _ h=>h,rfl,Nat.le_refl _⟩,rfl,fun _ h=>h,fun _ h=>.inl h⟩
  rintro (h' | ⟨h',rfl⟩)
  ·exact h'
  ·exact h h'
 ·have hn:¬ (v.1=3→S v.2):=fun h=>hc ((M.alive R hv).2 h)
  have h3:v.1=3:=Decidable.byContradiction fun h=>hn (fun h'=>(h h').elim)
  have hs:¬ S v.2:=fun h=>hn (fun _=>h)
  have hl:=Wd.okV_ref hv h3
  have e:jMark s (encV φ v)=⟨s.lv.set (φ v.2).toNat true,s.st ++ [φ v.2],s.ep⟩:=by
   unfold jMark
   rw [if_neg hc,encV_ref φ h3,show (4*φ v.2+1)/4=φ v.2 by omega]
  have hp:=R.place hl
  have hset:∀ p,atB (s.lv.set (φ v.2).toNat true) p=true↔p=φ v.2∨atB s.lv p=true:=fun p=>atB_set hp.1 (by rw [M.len];exact hp.2.2)
  have hold:s.lv.getD (φ v.2).toNat false=false:=by
   cases h:s.lv.getD (φ v.2).toNat false
   ·rfl
   ·rw [atB_toNat hp.1] at h
    obtain ⟨i,hi,e⟩:=(M.at_ _).1 h
    rw [R.inj i v.2 (M.sl i hi) hl e] at hi
    exact (hs hi).elim
  rw [e]
  refine ⟨⟨by simpa using M.len,fun p=>?_,fun i hi=>?_,fun i hi=>?_,fun p hp=>?_,fun p hp=>?_,fun i hi=>?_⟩,⟨fun k h=>.inl h,fun _ h=>h,?_,?_⟩,rfl,fun p hp=>by simp [hp],fun p hp=>?_⟩
  ·dsimp only
   rw [hset,M.at_]
   constructor
   ·rintro (h | ⟨i,hi,e⟩)
    ·exact ⟨v.2, .inr ⟨h3,rfl⟩,h.symm⟩
    ·exact ⟨i, .inl hi,e⟩
   ·rintro ⟨i,hi | ⟨_,rfl⟩,e⟩
    ·exact .inr ⟨i,hi,e⟩
    ·exact .inl e.symm
  ·rcases hi with h | ⟨_,rfl⟩
   ·exact M.sl i h
   ·exact hl
  ·rcases hi with h | ⟨h,rfl⟩
   ·exact M.al i h
   ·exact ha h
  ·rcases List.mem_append.1 hp with h | h
   ·obtain ⟨i,hi,e⟩:=M.st p h
    exact ⟨i, .inl hi,e⟩
   ·rw [List.mem_singleton.1 h];exact ⟨v.2, .inr ⟨h3,rfl⟩,rfl⟩
  ·obtain ⟨i,hi,e⟩:=M.ep p hp
   exact ⟨i, .inl hi,e⟩
  ·rcases hi with h | ⟨_,rfl⟩
   ·rcases M.done i h with h1 | h1 | h1
    ·exact .inl h1
    ·exact .inr (.inl (by simp [h1]))
    ·exact .inr (.inr ⟨fun hk v hv h3=>.inl (h1.1 hk v hv h3),fun hk v hv h3=>.inl (h1.2.1 hk v hv h3),h1.2.2⟩)
   ·exact .inr (.inl (by simp))
  ·have:=fals_set (l:=s.lv) (i:=(φ v.2).toNat) (by rw [M.len];omega) hold
   simp only [jM,List.length_append,List.length_cons,List.length_nil];omega
  ·have:=fals_set (l:=s.lv) (i:=(φ v.2).toNat) (by rw [M.len];omega) hold
   dsimp only;omega
  ·rcases List.mem_append.1 hp with h | h
   ·exact .inl h
   ·exact .inr ⟨v.2,hs,h3,rfl⟩
theorem Mk.marks (R:Rep O W φ):∀ (l:List Vl) {s:Gs} {S:Int→Prop},Mk O W φ Al Ex s S→(∀ v ∈ l,W.okV v∧(v.1=3→Al v.2)) →
  ∃ S',Mk O W φ Al Ex (jMarks s (l.map (encV φ))) S'∧MX s S (jMarks s (l.map (encV φ))) S'∧(jMarks s (l.map (encV φ))).ep=s.ep∧(∀ v ∈ l,v.1=3→S' v.2)∧∀ k,S' k→S k∨((3,k):Vl) ∈ l
 | [],s,S,M,_=>⟨S,M,MX.refl,rfl,by simp,fun k h=>.inl h⟩
 | v :: l,s,S,M,hl=>by
  have hv:=hl v (by simp)
  obtain ⟨M1,X1,e1,_,_⟩:=M.mark R hv.1 hv.2
  obtain ⟨S2,M2,X2,e2,k2,b2⟩:=Mk.marks R l M1 (fun u hu=>hl u (by simp [hu]))
  have e:jMarks s ((v :: l).map (encV φ))=jMarks (jMark s (encV φ v)) (l.map (encV φ)):=rfl
  rw [e]
  refine ⟨S2,M2,X1.trans X2,e2.trans e1,fun u hu h3=>?_,fun k hk=>?_⟩
  ·rcases List.mem_cons.1 hu with rfl | hu
   ·exact X2.sub _ (.inr ⟨h3,rfl⟩)
   ·exact k2 u hu h3
  ·rcases b2 k hk with (h | ⟨h,rfl⟩) | h
   ·exact .inl h
   ·exact .inr (by rw [←h];simp)
   ·exact .inr (by simp [h])
theorem LkJ.mono {i:Int} (h:LkJ W φ s S i) (hS:∀ k,S k→S' k) (he:∀ p ∈ s.ep,p ∈ s'.ep):LkJ W φ s' S' i:=
 ⟨fun hk v hv h3=>hS _ (h.1 hk v hv h3),fun hk v hv h3=>hS _ (h.2.1 hk v hv h3),fun hk=>he _ (h.2.2 hk)⟩
theorem getLastD_mem {l:List Int} (h:l≠[]):l.getLastD 0 ∈ l∧l=l.dropLast ++ [l.getLastD 0]:=by
 have e:l.getLastD 0=l.getLast h:=by
  cases l with
  | nil=>exact (h rfl).elim
  | cons a l=>rw [List.getLastD_cons,List.getLast_eq_getLastD]
 rw [e]
 exact ⟨List.getLast_mem h,(List.dropLast_concat_getLast h).symm⟩
theorem Mk.pop (R:Rep O W φ) (hal:Closed W.nd qw Al) (M:Mk O W φ Al Ex s S) (hne:s.st≠[]) :
  ∃ S',Mk O W φ Al Ex (jPop O.ar s) S'∧(∀ k,S k→S' k)∧(∀ p ∈ s.ep,p ∈ (jPop O.ar s).ep)∧jM (jPop O.ar s)+1=jM s∧fals (jPop O.ar s).lv≤fals s.lv:=by
 obtain ⟨hm,he⟩:=getLastD_mem hne
 obtain ⟨i,hi,hp⟩:=M.st _ hm
 have hl:=M.sl i hi
 have hth:=R.th i hl
 have hmm:jM { s with st:=s.st.dropLast } + 1=jM s:=by
  unfold jM
  dsimp only
  rw [List.length_dropLast]
  have:0<s.st.length:=List.length_pos_iff.2 hne
  omega
 have M0:Mk O W φ Al (fun k=>Ex k∨k=i) { s with st:=s.st.dropLast } S:=⟨M.len,M.at_,M.sl,M.al,fun p hp=>M.st p (by rw [he];simp [show p ∈ s.st.dropLast from hp]),M.ep,fun k hk=>by
  rcases M.done k hk with h | h | h
  ·exact .inl (.inl h)
  ·by_cases ek:k=i
   ·exact .inl (.inr ek)
   ·rw [he] at h
    rcases List.mem_append.1 h with h | h
    ·exact .inr (.inl h)
    ·exact (ek (R.inj k i (M.sl k hk) hl (by rw [List.mem_singleton.1 h,←hp]))).elim
  ·exact .inr (.inr h)⟩
 generalize hs0:({ s with st:=s.st.dropLast }:Gs)=s0 at *
 have hep:s0.ep=s.ep:=by rw [←hs0]
 have hlv:s0.lv=s.lv:=by rw [←hs0]
 have fin:∀ {t:Gs} {T:Int→Prop},Mk O W φ Al (fun k=>Ex k∨k=i) t T→LkJ W φ t T i→Mk O W φ Al Ex t T:=fun {t T} M1 hL=>
  ⟨M1.len,M1.at_,M1.sl,M1.al,M1.st,M1.ep,fun k hk=>by
   rcases M1.done k hk with (h | rfl) | h
   ·exact .inl h
   ·exact .inr (.inr hL)
   ·exact .inr h⟩
 have okf:∀ v ∈ (W.th i).fs,W.okV v:=fun v hv=>R.hw.tv i hl v hv
 unfold jPop
 rw [hs0,←hp]
 unfold jLook
 rw [hth]
 dsimp only
 by_cases k12:(W.th i).k=1∨(W.th i).k=2
 ·rw [if_pos k12,R.fields hl]
  obtain ⟨S1,M1,X1,e1,k1,b1⟩:=Mk.marks R (W.th i).fs M0 (fun v hv=>⟨okf v hv,fun h3=>hal i _ (M.al i hi) (.inl ⟨k12,by show ((3,v.2):Vl) ∈ (W.th i).fs;rw [←h3];exact hv⟩)⟩)
  refine ⟨S1,fin M1 ⟨fun _=>k1,fun h=>by omega,fun h=>by omega⟩,X1.sub,fun p hp=>by rw [e1,hep];exact hp,by rw [X1.m];exact hmm,by rw [←hlv];exact X1.f⟩
 ·rw [if_neg k12]
  by_cases k3:(W.th i).k=3
  ·rw [if_pos k3]
   have h2:=Wd.two R.hw hl (.inl k3)
   have hj:(W.th i).fs[1]? = some (W.th i).fs[1]:=List.getElem?_eq_getElem (by omega)
   have hld:=R.fl i hl 1 _ hj
   rw [show φ i+1+((1:Nat):Int)=φ i+2 by omega] at hld
   rw [hld]
   obtain ⟨M1,X1,e1,_⟩:=M0.mark R (okf _ (List.mem_of_getElem? hj)) (fun h3=>hal i _ (M.al i hi) (.inr (.inl ⟨k3,by
    show (W.th i).fs[1]? = _
    rw [hj];congr 1;exact Prod.ext h3 rfl⟩)))
   refine ⟨_,fin M1 ⟨fun h=>(k12 h).elim,fun _ v hv h3=>?_,fun h=>by omega⟩,X1.sub,fun p hp=>by rw [e1,hep];exact hp,by rw [X1.m];exact hmm,by rw [←hlv];exact X1.f⟩
   rw [hj] at hv;cases hv
   exact .inr ⟨h3,rfl⟩
  ·rw [if_neg k3]
   by_cases k4:(W.th i).k=4
   ·rw [if_pos k4]
    have M1:Mk O W φ Al (fun k=>Ex k∨k=i) { s0 with ep:=s0.ep ++ [φ i] } S:=⟨M0.len,M0.at_,M0.sl,M0.al,M0.st,fun p hp=>by
     rcases List.mem_append.1 hp with h | h
     ·exact M0.ep p h
     ·rw [List.mem_singleton.1 h];exact ⟨i,hi,k4,rfl⟩,fun k hk=>by
     rcases M0.done k hk with h | h | h
     ·exact .inl h
     ·exact .inr (.inl h)
     ·exact .inr (.inr (h.mono (fun _ h=>h) (fun p hp=>by simp [hp])))⟩
    exact ⟨S,fin M1 ⟨fun h=>(k12 h).elim,fun h=>(k3 h).elim,fun _=>by simp⟩,fun _ h=>h,fun p hp=>by rw [←hep] at hp;simp [hp],hmm,by rw [←hlv];exact Nat.le_refl _⟩
   ·rw [if_neg k4]
    exact ⟨S,fin M0 ⟨fun h=>(k12 h).elim,fun h=>(k3 h).elim,fun h=>(k4 h).elim⟩,fun _ h=>h,fun p hp=>by rw [hep];exact hp,hmm,by rw [←hlv];exact Nat.le_refl _⟩
theorem Mk.pops (R:Rep O W φ) (hal:Closed W.nd qw Al):∀ (n:Nat) {s:Gs} {S:Int→Prop},Mk O W φ Al Ex s S→jM s<n →
  ∃ S',Mk O W φ Al Ex (jPops O.ar n s) S'∧(∀ k,S k→S' k)∧(∀ p ∈ s.ep,p ∈ (jPops O.ar n s).ep)∧(jPops O.ar n s).st=[]∧fals (jPops O.ar n s).lv≤fals s.lv
 | 0,s,S,M,hn=>by omega
 | n+1,s,S,M,hn=>by
  unfold jPops
  by_cases hne:s.st=[]
  ·rw [if_pos hne]
   exact ⟨S,M,fun _ h=>h,fun _ h=>h,hne,Nat.le_refl _⟩
  ·rw [if_neg hne]
   obtain ⟨S1,M1,s1,e1,m1,f1⟩:=M.pop R hal hne
   obtain ⟨S2,M2,s2,e2,t2,f2⟩:=Mk.pops R hal n M1 (by omega)
   exact ⟨S2,M2,fun k hk=>s2 k (s1 k hk),fun p hp=>e2 p (e1 p hp),t2,by omega⟩
theorem Mk.ephs (R:Rep O W φ) (hal:Closed W.nd qw Al):∀ (l:List Int) {s:Gs} {S:Int→Prop},Mk O W φ Al Ex s S→(∀ p ∈ l, ∃ i,S i∧(W.th i).k=4∧φ i=p) →
  ∃ S',Mk O W φ Al Ex (jEph O.ar s l) S'∧MX s S (jEph O.ar s l) S'∧(jEph O.ar s l).ep=s.ep ∧
   ∀ i,S i→(W.th i).k=4→φ i ∈ l→(∀ v,(W.th i).fs[0]? = some v→v.1=3→S v.2)→∀ v,(W.th i).fs[1]? = some v→v.1=3→S' v.2
 | [],s,S,M,hl=>⟨S,M,MX.refl,rfl,fun i _ _ h=>by cases h⟩
 | p :: l,s,S,M,hl=>by
  obtain ⟨i,hi,k4,rfl⟩:=hl p (by simp)
  have hli:=M.sl i hi
  have h2:=Wd.two R.hw hli (.inr (.inl k4))
  have hj0:(W.th i).fs[0]? = some (W.th i).fs[0]:=List.getElem?_eq_getElem (by omega)
  have hj1:(W.th i).fs[1]? = some (W.th i).fs[1]:=List.getElem?_eq_getElem (by omega)
  have ok0:=R.hw.tv i hli _ (List.mem_of_getElem? hj0)
  have ok1:=R.hw.tv i hli _ (List.mem_of_getElem? hj1)
  have l0:=R.fl i hli 0 _ hj0
  have l1:=R.fl i hli 1 _ hj1
  rw [show φ i+1+((0:Nat):Int)=φ i+1 by omega] at l0
  rw [show φ i+1+((1:Nat):Int)=φ i+2 by omega] at l1
  have step:∃ S1,Mk O W φ Al Ex (jEph1 O.ar s (φ i)) S1∧MX s S (jEph1 O.ar s (φ i)) S1∧(jEph1 O.ar s (φ i)).ep=s.ep∧((∀ v,(W.th i).fs[0]? = some v→v.1=3→S v.2)→∀ v,(W.th i).fs[1]? = some v→v.1=3→S1 v.2):=by
   unfold jEph1
   rw [l0,l1]
   have ha:=M.alive R ok0
   by_cases hm:jAlive s (encV φ (W.th i).fs[0])=true
   ·rw [if_pos hm]
    obtain ⟨M1,X1,e1,_⟩:=M.mark R ok1 (fun h3=>hal i _ (M.al i hi) (.inr (.inr (.inl ⟨k4,by
     show (W.th i).fs[1]? = _
     rw [hj1];congr 1;exact Prod.ext h3 rfl,fun v hv h5=>by
     have hv':(W.th i).fs[0]? = some v:=hv
     rw [hj0] at hv';cases hv'
     exact M.al _ (ha.1 hm h5)⟩))))
    exact ⟨_,M1,X1,e1,fun _ v hv h3=>by rw [hj1] at hv;cases hv;exact .inr ⟨h3,rfl⟩⟩
   ·rw [if_neg hm]
    exact ⟨S,M,MX.refl,rfl,fun h=>(hm (ha.2 (fun h3=>h _ hj0 h3))).elim⟩
  obtain ⟨S1,M1,X1,e1,k1⟩:=step
  obtain ⟨S2,M2,X2,e2,k2⟩:=Mk.ephs R hal l M1 (fun p hp=>by
   obtain ⟨k,h3,h4,h5⟩:=hl p (by simp [hp])
   exact ⟨k,X1.sub k h3,h4,h5⟩)
  have e:jEph O.ar s (φ i :: l)=jEph O.ar (jEph1 O.ar s (φ i)) l:=rfl
  rw [e]
  refine ⟨S2,M2,X1.trans X2,e2.trans e1,fun k hk k4' hkl hkey v hv h3=>?_⟩
  rcases List.mem_cons.1 hkl with h | h
  ·have:=R.inj k i (M.sl k hk) hli h
   subst this
   exact X2.sub _ (k1 hkey v hv h3)
  ·exact k2 k (X1.sub k hk) k4' h (fun v hv h3=>X1.sub _ (hkey v hv h3)) v hv h3
theorem Mk.wake (R:Rep O W φ) (hal:Closed W.nd qw Al) (hqw:∀ e ∈ qw,W.okE e):∀ (m:List (Int × Int)) {s:Gs} {S:Int→Prop},Mk O W φ Al Ex s S→(∀ f ∈ m,f ∈ qw) →
  ∃ S',Mk O W φ Al Ex (wakeM jAlive jKp s (m.map (encE φ))).1 S'∧MX s S (wakeM jAlive jKp s (m.map (encE φ))).1 S'∧∀ f ∈ m,S f.1→S' f.2
 | [],s,S,M,hm=>⟨S,M,MX.refl,fun f h=>by cases h⟩
 | f :: m,s,S,M,hm=>by
  have hf:=hqw f (hm f (by simp))
  have okg:W.okV (3,f.1):=.inr (.inr (.inr ⟨rfl,hf.1⟩))
  have okt:W.okV (3,f.2):=.inr (.inr (.inr ⟨rfl,hf.2.2⟩))
  have ag:=M.alive R okg
  have at_:=M.alive R okt
  simp only [forall_const] at ag at_
  rw [List.map_cons]
  unfold wakeM
  rw [encE_eq]
  dsimp only
  by_cases hc:(jAlive s (encV φ (3,f.1)) && !jAlive s (encV φ (3,f.2)))=true
  ·rw [if_pos hc]
   rw [Bool.and_eq_true] at hc
   have hg:=ag.1 hc.1
   obtain ⟨M1,X1,e1,_⟩:=M.mark R okt (fun _=>hal f.1 _ (M.al _ hg) (.inr (.inr (.inr ⟨hf.2.1,by show (f.1,f.2) ∈ qw;exact hm f (by simp)⟩))))
   obtain ⟨S2,M2,X2,k2⟩:=Mk.wake R hal hqw m M1 (fun f hf=>hm f (by simp [hf]))
   refine ⟨S2,M2,X1.trans X2,fun f' hf' hs=>?_⟩
   rcases List.mem_cons.1 hf' with rfl | h
   ·exact X2.sub _ (.inr ⟨rfl,rfl⟩)
   ·exact k2 f' h (X1.sub _ hs)
  ·rw [if_neg hc]
   obtain ⟨S2,M2,X2,k2⟩:=Mk.wake R hal hqw m M (fun f hf=>hm f (by simp [hf]))
   refine ⟨S2,M2,X2,fun f' hf' hs=>?_⟩
   rcases List.mem_cons.1 hf' with rfl | h
   ·have h1:=ag.2 hs
    rw [h1] at hc
    simp at hc
    exact X2.sub _ (at_.1 hc)
   ·exact k2 f' h hs
theorem fals_mono:∀ {l m:List Bool},l.length=m.length→(∀ i,l.getD i false=true→m.getD i false=true)→fals m≤fals l∧(fals m=fals l→m=l)
 | [],[],_,_=>⟨Nat.le_refl _,fun _=>rfl⟩
 | a :: l,b :: m,hl,h=>by
  have ih:=fals_mono (l:=l) (m:=m) (by simpa using hl) (fun i hi=>by have:=h (i+1);simpa using this (by simpa using hi))
  have h0:=h 0
  simp only [List.getD_cons_zero] at h0
  unfold fals at *
  cases a <;> cases b <;> simp [List.filter_cons] at * <;> first | exact ih | (refine ⟨by omega,fun h=>by omega⟩)
 | [],b :: m,hl,_=>by simp at hl
 | a :: l,[],hl,_=>by simp at hl
theorem Mk.same (R:Rep O W φ) (M:Mk O W φ Al Ex s S) (M':Mk O W φ Al Ex s' S') (X:MX s S s' S') (h1:s.st=[]) (h2:s'.st=[]):∀ k,S' k→S k:=by
 have hm:=X.m
 unfold jM at hm
 rw [h1,h2] at hm
 simp only [List.length_nil,Nat.zero_add] at hm
 have e:=(fals_mono (l:=s.lv) (m:=s'.lv) (M.len.trans M'.len.symm) (fun i hi=>by
  rw [←atB_nat] at hi ⊢
  obtain ⟨k,hk,e⟩:=(M.at_ _).1 hi
  exact (M'.at_ _).2 ⟨k,X.sub k hk,e⟩)).2 hm
 intro k hk
 have h3:atB s.lv (φ k)=true:=by rw [←e];exact (M'.at_ _).2 ⟨k,hk,rfl⟩
 obtain ⟨j,hj,ej⟩:=(M.at_ _).1 h3
 rw [←R.inj j k (M.sl j hj) (M'.sl k hk) ej];exact hj
theorem jPops_none {A:Ar}:∀ (n:Nat) {s:Gs},s.st=[]→jPops A n s=s
 | 0,s,h=>rfl
 | n+1,s,h=>by unfold jPops;rw [if_pos h]
theorem Mk.round (R:Rep O W φ) (hal:Closed W.nd qw Al) (hqw:∀ e ∈ qw,W.okE e) (M:Mk O W φ Al (fun _=>False) s S) (hm:jM s<2000) :
  ∃ S',Mk O W φ Al (fun _=>False) (jRound O.ar (qw.map (encE φ)) s) S'∧(∀ k,S k→S' k)∧jM (jRound O.ar (qw.map (encE φ)) s)≤fals s.lv∧((jRound O.ar (qw.map (encE φ)) s).st=[]→Closed W.nd qw S'):=by
 obtain ⟨S1,M1,s1,e1,t1,f1⟩:=M.pops R hal 2000 hm
 obtain ⟨S2,M2,X2,e2,k2⟩:=Mk.ephs R hal (jPops O.ar 2000 s).ep M1 M1.ep
 obtain ⟨S3,M3,X3,k3⟩:=Mk.wake R hal hqw qw M2 (fun f h=>h)
 have X:=X2.trans X3
 have e:jRound O.ar (qw.map (encE φ)) s=(wakeM jAlive jKp (jEph O.ar (jPops O.ar 2000 s) (jPops O.ar 2000 s).ep) (qw.map (encE φ))).1:=rfl
 rw [e]
 refine ⟨S3,M3,fun k hk=>X.sub k (s1 k hk),?_,fun hst=>?_⟩
 ·rw [X.m]
  unfold jM
  rw [t1]
  simpa using f1
 ·have b1:=M1.same R M3 X t1 hst
  have b2:∀ k,S3 k→S2 k:=fun k hk=>X2.sub k (b1 k hk)
  intro i j hi hl
  have hi1:=b1 i hi
  have L:LkJ W φ (jPops O.ar 2000 s) S1 i:=by
   rcases M1.done i hi1 with h | h | h
   ·exact h.elim
   ·rw [t1] at h;cases h
   ·exact h
  have up:∀ k,S1 k→S3 k:=X.sub
  rcases hl with ⟨hk,hm⟩ | ⟨hk,hm⟩ | ⟨hk,hm,hkey⟩ | ⟨hk,hm⟩
  ·exact up _ (L.1 hk (3,j) hm rfl)
  ·exact up _ (L.2.1 hk (3,j) hm rfl)
  ·exact X3.sub _ (k2 i hi1 hk (L.2.2 hk) (fun v hv h3=>b1 _ (hkey v hv h3)) (3,j) hm rfl)
  ·exact k3 (i,j) hm (b2 i hi)
theorem Mk.drain (R:Rep O W φ) (hal:Closed W.nd qw Al) (hqw:∀ e ∈ qw,W.okE e):∀ (n:Nat) {s:Gs} {S:Int→Prop},Mk O W φ Al (fun _=>False) s S→jM s<2000→fals s.lv<n →
  ∃ S',Mk O W φ Al (fun _=>False) (jDrain O.ar (qw.map (encE φ)) n s) S'∧(∀ k,S k→S' k)∧(jDrain O.ar (qw.map (encE φ)) n s).st=[]∧Closed W.nd qw S'
 | 0,s,S,M,hm,hn=>by omega
 | n+1,s,S,M,hm,hn=>by
  obtain ⟨S1,M1,s1,m1,c1⟩:=M.round R hal hqw hm
  unfold jDrain
  by_cases hst:(jRound O.ar (qw.map (encE φ)) s).st=[]
  ·rw [if_pos hst]
   exact ⟨S1,M1,s1,hst,c1 hst⟩
  ·rw [if_neg hst]
   have hpos:=List.length_pos_iff.2 hst
   unfold jM at m1 hm
   obtain ⟨S2,M2,s2,t2,c2⟩:=Mk.drain R hal hqw n M1 (by unfold jM;omega) (by omega)
   exact ⟨S2,M2,fun k hk=>s2 k (s1 k hk),t2,c2⟩
structure Js (O:Wo) (W:Wd) (φ:Int→Int) (s:Gs) (is:List Bool) (qw:List (Int × Int)):Prop where
 M:Mk O W φ (fun k=>atB is k=true) (fun _=>False) s (fun k=>atB is k=true)
 st:s.st=[]
 shut:Closed W.nd qw fun k=>atB is k=true
 len:is.length=W.T.length
 ok:∀ e ∈ qw,W.okE e
theorem Mk.setAl (M:Mk O W φ Al Ex s S) {Bl:Int→Prop} (h:∀ k,S k→Bl k):Mk O W φ Bl Ex s S:=⟨M.len,M.at_,M.sl,h,M.st,M.ep,M.done⟩
theorem Mk.drainP (R:Rep O W φ) (hqw:∀ e ∈ qw,W.okE e) {is:List Bool} (hlen:is.length=W.T.length) (hS:∀ k,S k↔atB is k=true)
  (M:Mk O W φ Al (fun _=>False) s S) (hm:jM s≤1280):Js O W φ (jDrain O.ar (qw.map (encE φ)) 2000 s) (W.clo qw is) qw:=by
 have M':=M.setAl (Bl:=fun k=>Alive W.nd qw (fun k=>atB is k=true) k) (fun k hk=>Alive.base ((hS k).1 hk))
 obtain ⟨S1,M1,s1,t1,c1⟩:=M'.drain R (Alive.closed W.nd qw _) hqw 2000 (by omega) (by unfold jM at hm;omega)
 have e:S1=fun k=>atB (W.clo qw is) k=true:=by
  funext k
  refine propext ⟨fun hk=>?_,fun hk=>?_⟩
  ·have hl:=M1.sl k hk
   exact cloL_at.2 ⟨hl.1,by rw [hlen];exact hl.2.1,M1.al k hk⟩
  ·exact (cloL_at.1 hk).2.2.least (fun j hj=>s1 j ((hS j).2 hj)) c1
 subst e
 exact ⟨M1.setAl (fun k hk=>hk),t1,c1,by unfold Wd.clo;rw [cloL_length,hlen],hqw⟩
theorem Js.m {is:List Bool} (h:Js O W φ s is qw) (hO:O.ok):jM s≤1280:=by
 unfold jM
 rw [h.st]
 have:=fals_le s.lv
 have:=h.M.len
 have:=hO.ha.h4
 simp;omega
theorem fals_new (n:Nat):fals (List.replicate n false)=n:=by unfold fals;simp
theorem Rep.jpre (R:Rep O W φ):Js O W φ (jPre O) (W.clo W.wait (W.first true)) W.wait:=by
 have hflen:(W.first true).length=W.T.length:=Wd.first_length W true
 have M0:Mk O W φ (fun _=>True) (fun _=>False) ⟨List.replicate O.ar.ws.length false,[],[]⟩ (fun _=>False):=
  ⟨by simp,fun p=>by
   constructor
   ·intro h
    unfold atB at h
    simp only [List.getD_eq_getElem?_getD,List.getElem?_replicate] at h
    split at h <;> simp at h
   ·rintro ⟨_,h,_⟩;exact h.elim,fun _ h=>h.elim,fun _ h=>h.elim,(by intro p h;cases h),(by intro p h;cases h),fun _ h=>h.elim⟩
 obtain ⟨S1,M1,X1,e1,k1,b1⟩:=Mk.marks R W.roots M0 (fun v hv=>⟨R.hw.rv v hv,fun _=>trivial⟩)
 have hS1:∀ k,S1 k↔atB (W.first true) k=true:=fun k=>by
  rw [Wd.first_at]
  constructor
  ·intro hk
   have hl:=M1.sl k hk
   refine ⟨hl.1,hl.2.1, .inr ?_⟩
   rcases b1 k hk with h | h
   ·exact h.elim
   ·exact h
  ·rintro ⟨h0,h4,h5 | h5⟩
   ·cases h5.2.2
   ·exact k1 _ h5 rfl
 unfold jPre
 rw [R.wt,R.rt]
 refine M1.drainP R R.hw.wv hflen hS1 ?_
 rw [X1.m]
 unfold jM
 dsimp only
 rw [fals_new]
 have:=R.ho.ha.h4
 simp;omega
theorem Js.keep (R:Rep O W φ) {is:List Bool} (P:Js O W φ s is qw) {x g:Int} (hx:W.live x) (hg:W.live g) (hk:(W.th g).k=5) :
  Js O W φ (jKeep O.ar s (qw.map (encE φ)) (encV φ (3,x))).1 (W.clo qw (is.set x.toNat true)) (qw ++ [(g,x)]):=by
 have okx:W.okV (3,x):=.inr (.inr (.inr ⟨rfl,hx⟩))
 obtain ⟨M1,X1,e1,_⟩:=(P.M.setAl (Bl:=fun _=>True) (fun _ _=>trivial)).mark R okx (fun _=>trivial)
 have hS1:∀ k,(atB is k=true∨((3:Int)=3∧k=x))↔atB (is.set x.toNat true) k=true:=fun k=>by
  rw [atB_set hx.1 (by rw [P.len];exact hx.2.1)]
  constructor
  ·rintro (h | ⟨_,h⟩)
   ·exact .inr h
   ·exact .inl h
  ·rintro (h | h)
   ·exact .inr ⟨rfl,h⟩
   ·exact .inl h
 have P2:=M1.drainP R P.ok (by rw [List.length_set];exact P.len) hS1 (by rw [X1.m];exact P.m R.ho)
 have hxin:atB (W.clo qw (is.set x.toNat true)) x=true:=cloL_at.2 ⟨hx.1,by rw [List.length_set,P.len];exact hx.2.1,Alive.base ((hS1 x).1 (.inr ⟨rfl,rfl⟩))⟩
 refine ⟨P2.M,P2.st,?_,P2.len,fun e he=>?_⟩
 ·intro a b ha hl
  by_cases hb:b=x
  ·subst hb;exact hxin
  ·refine P2.shut a b ha ?_
   rcases hl with h | h | h | ⟨h,h'⟩
   ·exact .inl h
   ·exact .inr (.inl h)
   ·exact .inr (.inr (.inl h))
   ·refine .inr (.inr (.inr ⟨h,?_⟩))
    rcases List.mem_append.1 h' with h4 | h4
    ·exact h4
    ·simp at h4;exact absurd h4.2 hb
 ·rcases List.mem_append.1 he with h | h
  ·exact P.ok e h
  ·rw [List.mem_singleton.1 h];exact ⟨hg,hk,hx⟩
theorem Js.alive (R:Rep O W φ) {is:List Bool} (P:Js O W φ s is qw) {x:Int} (hx:W.live x):jAlive s (encV φ (3,x))=atB is x:=by
 have:=P.M.alive R (v:=(3,x)) (.inr (.inr (.inr ⟨rfl,hx⟩)))
 simp only [forall_const] at this
 rw [Bool.eq_iff_iff]
 exact this
theorem Js.scan (R:Rep O W φ):∀ (l:List It) {s:Gs} {is:List Bool} {qw:List (Int × Int)},Js O W φ s is qw→(∀ i ∈ l,W.okE i.1) →
  Js O W φ (scanM jAlive (jKeep O.ar) s (qw.map (encE φ)) (l.map (encI φ))).1 (scanM atB W.keepW is qw l).1 (scanM atB W.keepW is qw l).2.1 ∧
   (scanM jAlive (jKeep O.ar) s (qw.map (encE φ)) (l.map (encI φ))).2.1=(scanM atB W.keepW is qw l).2.1.map (encE φ) ∧
   (scanM jAlive (jKeep O.ar) s (qw.map (encE φ)) (l.map (encI φ))).2.2.1=(scanM atB W.keepW is qw l).2.2.1.map (encI φ)∧(scanM jAlive (jKeep O.ar) s (qw.map (encE φ)) (l.map (encI φ))).2.2.2=(scanM atB W.keepW is qw l).2.2.2
 | [],s,is,qw,P,_=>⟨P,rfl,rfl,rfl⟩
 | i :: l,s,is,qw,P,hl=>by
  have hi:=hl i (by simp)
  have ea:jAlive s (encI φ i).1.1=atB is i.1.1:=by
   show jAlive s (encE φ i.1).1=_
   rw [encE_eq];exact P.alive R hi.1
  simp only [List.map_cons,scanM]
  rw [ea]
  have e2:(encI φ i).2=i.2:=rfl
  rw [e2]
  by_cases hc:(i.2.1 && !i.2.2 && atB is i.1.1)=true
  ·rw [if_pos hc,if_pos hc]
   have P1:=P.keep R hi.2.2 hi.1 hi.2.1
   have e3:(encI φ i).1.2=encV φ (3,i.1.2):=by show (encE φ i.1).2=_;rw [encE_eq]
   have e4:(encI φ i).1.1=encV φ (3,i.1.1):=by show (encE φ i.1).1=_;rw [encE_eq]
   have eq1:(jKeep O.ar s (qw.map (encE φ)) (encI φ i).1.2).2.1 ++ [((encI φ i).1.1,(jKeep O.ar s (qw.map (encE φ)) (encI φ i).1.2).2.2)]=(qw ++ [(i.1.1,i.1.2)]).map (encE φ):=by
    rw [List.map_append]
    show qw.map (encE φ) ++ [((encI φ i).1.1,(encI φ i).1.2)]=_
    rfl
   rw [eq1,e3]
   obtain ⟨P2,h0,h1,h2⟩:=Js.scan R l P1 (fun j hj=>hl j (by simp [hj]))
   refine ⟨P2,h0,?_,rfl⟩
   dsimp only
   rw [h1];rfl
  ·rw [if_neg hc,if_neg hc]
   obtain ⟨P2,h0,h1,h2⟩:=Js.scan R l P (fun j hj=>hl j (by simp [hj]))
   refine ⟨P2,h0,?_,h2⟩
   dsimp only
   rw [h1];rfl
theorem Js.rounds (R:Rep O W φ):∀ (n:Nat) (l:List It) {s:Gs} {is:List Bool} {qw:List (Int × Int)},Js O W φ s is qw→(∀ i ∈ l,W.okE i.1) →
  Js O W φ (roundsM jAlive (jKeep O.ar) n s (qw.map (encE φ)) (l.map (encI φ))).1 (roundsM atB W.keepW n is qw l).1 (roundsM atB W.keepW n is qw l).2.1 ∧
   (roundsM jAlive (jKeep O.ar) n s (qw.map (encE φ)) (l.map (encI φ))).2.1=(roundsM atB W.keepW n is qw l).2.1.map (encE φ) ∧
   (roundsM jAlive (jKeep O.ar) n s (qw.map (encE φ)) (l.map (encI φ))).2.2=(roundsM atB W.keepW n is qw l).2.2.map (encI φ)
 | 0,l,s,is,qw,P,hl=>⟨P,rfl,rfl⟩
 | n+1,l,s,is,qw,P,hl=>by
  obtain ⟨P1,h0,h1,h2⟩:=P.scan R l hl
  have hl1:=scan_items is qw hl
  simp only [roundsM]
  rw [h2]
  by_cases hc:(scanM atB W.keepW is qw l).2.2.2=true
  ·rw [if_pos hc,if_pos hc,h1,h0]
   exact Js.rounds R n _ P1 hl1
  ·rw [if_neg hc,if_neg hc]
   exact ⟨P1,h0,h1⟩
theorem Rep.jpasses (R:Rep O W φ):Js O W φ (jPass O).1 (W.pass true).1 (W.pass true).2.1∧(jPass O).2.1=(W.pass true).2.1.map (encE φ)∧(jPass O).2.2=(W.pass true).2.2.map (encI φ):=by
 have P0:=R.jpre
 have e:itemsM jAlive (jPre O) O.rg=(itemsM atB (W.clo W.wait (W.first true)) W.regs).map (encI φ):=by
  unfold itemsM
  rw [R.rg,List.map_map,List.map_map]
  refine List.map_congr_left fun e he=>?_
  have:=R.hw.gv e he
  show (encE φ e,!jAlive _ (encE φ e).2,false)=(encE φ e,!atB _ e.2,false)
  rw [show (encE φ e).2=encV φ (3,e.2) by rw [encE_eq],P0.alive R this.2.2]
 have hlen:O.rg.length=W.regs.length:=by rw [R.rg];simp
 unfold jPass Wd.pass passM
 rw [e,hlen,R.wt]
 exact P0.rounds R _ _ (fun i hi=>by
  simp only [itemsM,List.mem_map] at hi
  obtain ⟨e,he,rfl⟩:=hi
  exact R.hw.gv e he)
end
end
section
def Sit (sz f:Int→Int):List Int→Int→Int→Prop
 | [],a,b=>a=b
 | p :: l,a,b=>f p=a∧Sit sz f l (a+sz p) b
theorem Sit.le {sz f:Int→Int} (h0:∀ p,0≤sz p):∀ {l:List Int} {a b:Int},Sit sz f l a b→a≤b
 | [],a,b,h=>by have h:a=b:=h;omega
 | p :: l,a,b,h=>by have:=Sit.le h0 h.2;have:=h0 p;omega
theorem Sit.mem {sz f:Int→Int} (h0:∀ p,0≤sz p):∀ {l:List Int} {a b:Int},Sit sz f l a b→∀ p ∈ l,a≤f p∧f p+sz p≤b
 | q :: l,a,b,h,p,hp=>by
  rcases List.mem_cons.1 hp with rfl | hp
  ·have:=Sit.le h0 h.2;have:=h.1;omega
  ·have:=Sit.mem h0 h.2 p hp;have:=h0 q;omega
def lookT (f:List Int) (p:Int):Int:=f.getD p.toNat 0
theorem jPlan_spec {A:Ar} {lv:List Bool} {base:Int}:∀ {l:List Int} {t:List Int × Int},l.Nodup→(∀ p ∈ l,0≤p∧p<t.1.length) →
  Sit (fun p=>1+(A.thing p).2.1) (lookT (jPlan A lv base l t).1) (l.filter fun i=>atB lv i) (base+t.2) (base+(jPlan A lv base l t).2)∧(∀ q,0≤q→¬ q ∈ l→lookT (jPlan A lv base l t).1 q=lookT t.1 q)∧(jPlan A lv base l t).1.length=t.1.length
 | [],t,_,_=>⟨rfl,fun _ _ _=>rfl,rfl⟩
 | i :: l,t,hn,hr=>by
  rw [List.nodup_cons] at hn
  have hi:=hr i (by simp)
  unfold jPlan
  by_cases hc:atB lv i=true
  ·rw [if_pos hc,List.filter_cons,if_pos hc]
   obtain ⟨h1,h2,h3⟩:=jPlan_spec (A:=A) (lv:=lv) (base:=base) (l:=l) (t:=(t.1.set i.toNat (base+t.2),t.2+(1+(A.thing i).2.1))) hn.2 (fun p hp=>by
    have:=hr p (by simp [hp]);simpa using this)
   refine ⟨⟨?_,?_⟩,fun q hq hqi=>?_,by rw [h3];simp⟩
   ·rw [h2 i hi.1 hn.1]
    unfold lookT
    dsimp only
    rw [List.getD_eq_getElem?_getD,List.getElem?_set_self (by omega)]
    rfl
   ·have e:base+t.2+(1+(A.thing i).2.1)=base+(t.2+(1+(A.thing i).2.1)):=by omega
    rw [e];exact h1
   ·rw [List.mem_cons,not_or] at hqi
    rw [h2 q hq hqi.2]
    unfold lookT
    dsimp only
    rw [List.getD_eq_getElem?_getD,List.getD_eq_getElem?_getD,List.getElem?_set_ne (by omega)]
  ·rw [if_neg hc,List.filter_cons,if_neg hc]
   obtain ⟨h1,h2,h3⟩:=jPlan_spec (A:=A) (lv:=lv) (base:=base) (l:=l) (t:=t) hn.2 (fun p hp=>hr p (by simp [hp]))
   exact ⟨h1,fun q hq hqi=>h2 q hq (fun h=>hqi (by simp [h])),h3⟩
def wd (A:Ar) (i:Int):Int:=A.ws.getD i.toNat 0
def Slid (sz:Int→Int) (n:Int):List Int→Int→Prop
 | [],_=>True
 | p :: l,a=>0≤a∧0≤p∧p+sz p≤n∧a+sz p≤n∧(∀ q ∈ l,a+sz p≤q∨q+sz q≤a)∧Slid sz n l (a+sz p)
theorem slide1_spec {A:Ar} {f:List Int} {p a:Int} (hf:lookT f p=a) (h0:0≤a) (hp:0≤p) (h1:p+(1+(A.thing p).2.1)≤A.ws.length) (h2:a+(1+(A.thing p).2.1)≤A.ws.length) :
  (jSlide1 f A p).ws.length=A.ws.length∧(∀ x,0≤x→wd (jSlide1 f A p) x=if a≤x∧x<a+(1+(A.thing p).2.1) then wd A (p+(x-a)) else wd A x)∧(∀ x ∈ (jSlide1 f A p).ws,x ∈ A.ws)∧(jSlide1 f A p).nur=A.nur∧(jSlide1 f A p).yng=A.yng∧(jSlide1 f A p).grn=A.grn:=by
 have hn:=A.thing_fields p
 have hl:((A.ws.drop p.toNat).take (1+(A.thing p).2.1).toNat).length=(1+(A.thing p).2.1).toNat:=by simp;omega
 unfold lookT at hf
 have hle:a.toNat+((A.ws.drop p.toNat).take (1+(A.thing p).2.1).toNat).length≤A.ws.length:=by rw [hl];omega
 refine ⟨?_,fun x hx=>?_,fun x hx=>?_,rfl,rfl,rfl⟩
 ·unfold jSlide1
  rw [hf]
  exact lay_length hle
 ·unfold jSlide1 wd
  rw [hf]
  dsimp only
  rw [lay_getD hle,hl]
  by_cases hc:a≤x∧x<a+(1+(A.thing p).2.1)
  ·rw [if_pos (by omega),if_pos hc]
   simp only [List.getD_eq_getElem?_getD]
   rw [List.getElem?_take,if_pos (by omega),List.getElem?_drop]
   congr 2;omega
  ·rw [if_neg (by omega),if_neg hc]
 ·unfold jSlide1 at hx
  rw [hf] at hx
  rcases lay_mem hx with h | h
  ·exact h
  ·exact List.mem_of_mem_drop (List.mem_of_mem_take h)
theorem thing_wd {A:Ar} {p:Int} (h:A.inUse p=true):A.load p=wd A p:=by unfold Ar.load;rw [if_pos h];rfl
theorem slide_spec {f:List Int} {sz:Int→Int}:∀ {l:List Int} {a b:Int} {A:Ar},Sit sz (lookT f) l a b→Slid sz A.ws.length l a→(∀ p ∈ l,A.inUse p=true∧1+(A.thing p).2.1=sz p)→l.Nodup→(∀ p,0≤sz p) →
  (l.foldl (jSlide1 f) A).ws.length=A.ws.length∧(∀ x,0≤x→(x<a∨b≤x)→wd (l.foldl (jSlide1 f) A) x=wd A x)∧(∀ p ∈ l, ∀ j,0≤j→j<sz p→wd (l.foldl (jSlide1 f) A) (lookT f p+j)=wd A (p+j)) ∧
   (∀ x ∈ (l.foldl (jSlide1 f) A).ws,x ∈ A.ws)∧(l.foldl (jSlide1 f) A).nur=A.nur∧(l.foldl (jSlide1 f) A).yng=A.yng∧(l.foldl (jSlide1 f) A).grn=A.grn
 | [],a,b,A,_,_,_,_,_=>⟨rfl,fun _ _ _=>rfl,fun p h=>by simp at h,fun _ h=>h,rfl,rfl,rfl⟩
 | p :: l,a,b,A,hs,hd,hz,hn,h0=>by
  obtain ⟨d0,dp,d1,d2,d3,d4⟩:=hd
  have hp:=hz p (by simp)
  rw [List.nodup_cons] at hn
  obtain ⟨k1,k2,k3,k4,k5,k6⟩:=slide1_spec (A:=A) (f:=f) (p:=p) (a:=a) hs.1 d0 dp (by rw [hp.2];exact d1) (by rw [hp.2];exact d2)
  rw [hp.2] at k2
  have huse:∀ x,(jSlide1 f A p).inUse x=A.inUse x:=fun x=>by unfold Ar.inUse Ar.young Ar.old;rw [k4,k5,k6]
  have hz':∀ q ∈ l,(jSlide1 f A p).inUse q=true∧1+((jSlide1 f A p).thing q).2.1=sz q:=fun q hq=>by
   have h:=hz q (by simp [hq])
   refine ⟨by rw [huse];exact h.1,?_⟩
   have hq0:0≤q:=by
    have:=h.1
    unfold Ar.inUse at this
    rw [Bool.or_eq_true,young_iff,old_iff] at this
    omega
   have e:(jSlide1 f A p).load q=A.load q:=by
    rw [thing_wd h.1,thing_wd (by rw [huse];exact h.1),k2 q hq0,if_neg]
    have:=d3 q hq
    have:=h0 q;have h1:=A.thing_fields q
    omega
   rw [thing_of_load e];exact h.2
  obtain ⟨m1,m2,m3,m4,m5,m6,m7⟩:=slide_spec (f:=f) (sz:=sz) (l:=l) (a:=a+sz p) (b:=b) (A:=jSlide1 f A p) hs.2 (by rw [k1];exact d4) hz' hn.2 h0
  have hle:=Sit.le h0 hs.2
  rw [List.foldl_cons]
  refine ⟨m1.trans k1,fun x hx hxx=>?_,fun q hq j hj hjs=>?_,fun x hx=>k3 x (m4 x hx),m5.trans k4,m6.trans k5,m7.trans k6⟩
  ·have:=h0 p
   rw [m2 x hx (by omega),k2 x hx,if_neg (by omega)]
  ·rcases List.mem_cons.1 hq with rfl | hq
   ·rw [hs.1]
    rw [m2 (a+j) (by omega) (by omega),k2 (a+j) (by omega),if_pos (by omega)]
    congr 1;omega
   ·have h:=hz q (by simp [hq])
    have hq0:0≤q:=by
     have:=h.1
     unfold Ar.inUse at this
     rw [Bool.or_eq_true,young_iff,old_iff] at this
     omega
    rw [m3 q hq j hj hjs,k2 (q+j) (by omega),if_neg]
    have:=d3 q hq
    omega
def jFd (s:Gs) (f:List Int) (b:Bool) (x:Int):Int:=if (b || !jAlive s x)=true then 3 else jNow f x
theorem turnN_spec {s:Gs} {f:List Int} {b:Bool}:∀ (n:Nat) {A:Ar} (i:Int),A.ok→(∀ j:Int,0≤j→j<n→A.inUse (i+j)=true∧R64 (jFd s f b (A.load (i+j)))) →
  (jTurnN s f b n A i).ok∧(jTurnN s f b n A i).nur=A.nur∧(jTurnN s f b n A i).yng=A.yng∧(jTurnN s f b n A i).grn=A.grn∧(jTurnN s f b n A i).ws.length=A.ws.length ∧
   (∀ q,(jTurnN s f b n A i).load q=if i≤q∧q<i+n then jFd s f b (A.load q) else A.load q)
 | 0,A,i,h,_=>⟨h,rfl,rfl,rfl,rfl,fun q=>by rw [if_neg (by omega)];rfl⟩
 | n+1,A,i,h,hr=>by
  have h0:=hr 0 (by omega) (by omega)
  rw [Int.add_zero] at h0
  have e:jTurn1 s f b A i=A.store i (jFd s f b (A.load i)):=rfl
  have hok:(jTurn1 s f b A i).ok:=by rw [e];exact h.store _ _ h0.2
  have hld:∀ q,(jTurn1 s f b A i).load q=if q=i then jFd s f b (A.load i) else A.load q:=fun q=>by
   rw [e,Ar.load_store h]
   by_cases hq:q=i
   ·rw [if_pos ⟨hq,h0.1⟩,if_pos hq]
   ·rw [if_neg (fun h=>hq h.1),if_neg hq]
  have huse:∀ x,(jTurn1 s f b A i).inUse x=A.inUse x:=fun x=>by unfold Ar.inUse Ar.young Ar.old;rw [e,Ar.store_nur,Ar.store_yng,Ar.store_grn]
  obtain ⟨m1,m2,m3,m4,m5,m6⟩:=turnN_spec (s:=s) (f:=f) (b:=b) n (A:=jTurn1 s f b A i) (i+1) hok (fun j h1 h2=>by
   have:=hr (1+j) (by omega) (by omega)
   rw [huse,hld,if_neg (by omega),show i+1+j=i+(1+j) by omega]
   exact this)
  unfold jTurnN
  refine ⟨m1,m2.trans (by rw [e,Ar.store_nur]),m3.trans (by rw [e,Ar.store_yng]),m4.trans (by rw [e,Ar.store_grn]),m5.trans (by rw [e,Ar.store_len]),fun q=>?_⟩
  rw [m6 q]
  by_cases hq:q=i
  ·subst hq
   rw [if_neg (by omega),if_pos (by omega),hld,if_pos rfl]
  ·rw [hld,if_neg hq]
   by_cases hc:i+1≤q∧q<i+1+n
   ·rw [if_pos hc,if_pos (by omega)]
   ·rw [if_neg hc,if_neg (by omega)]
end
section
section
variable {O:Wo} {W:Wd} {φ:Int→Int} {A B:Ar} {s:Gs} {is:List Bool} {f:List Int} {qw:List (Int × Int)}
theorem choose_ids {φ:Int→Int} {P:Int→Prop}:∀ {l:List Int},(∀ p ∈ l, ∃ i,P i∧φ i=p)→∃ m:List Int,m.map φ=l∧∀ i ∈ m,P i
 | [],_=>⟨[],rfl,by simp⟩
 | p :: l,h=>by
  obtain ⟨i,hi,e⟩:=h p (by simp)
  obtain ⟨m,hm,hP⟩:=choose_ids (l:=l) (fun q hq=>h q (by simp [hq]))
  refine ⟨i :: m,by simp [e,hm],fun k hk=>?_⟩
  rcases List.mem_cons.1 hk with rfl | hk
  ·exact hi
  ·exact hP k hk
theorem nodup_of_map {φ:Int→Int}:∀ {l:List Int},(l.map φ).Nodup→l.Nodup
 | [],_=>List.nodup_nil
 | a :: l,h=>by
  rw [List.map_cons,List.nodup_cons] at h
  rw [List.nodup_cons]
  exact ⟨fun ha=>h.1 (List.mem_map.2 ⟨a,ha,rfl⟩),nodup_of_map h.2⟩
theorem slid_of {sz f:Int→Int} (h0:∀ p,0≤sz p) {n nur b:Int} (hb:b≤n) (hn:0≤nur):∀ {l m:List Int} {a:Int},Sit sz f (l ++ m) a b→nur≤a→(∀ p ∈ l,a≤p∧p+sz p≤n)→l.Pairwise (fun p q=>p+sz p≤q) →
  (∀ q ∈ m,0≤q∧q+sz q≤nur)→Slid sz n (l ++ m) a
 | [],[],a,_,_,_,_,_=>trivial
 | [],q :: m,a,hs,ha,hl,hp,hm=>by
  have hq:=hm q (by simp)
  have hle:=Sit.le h0 hs.2
  have h1:=h0 q
  refine ⟨by omega,hq.1,by omega,by omega,fun r hr=>.inr (by have:=hm r (by simp [show r ∈ m from hr]);omega),?_⟩
  exact slid_of h0 hb hn (l:=[]) (m:=m) hs.2 (by omega) (by simp) List.Pairwise.nil (fun r hr=>hm r (by simp [hr]))
 | p :: l,m,a,hs,ha,hl,hp,hm=>by
  have hpp:=hl p (by simp)
  have hle:=Sit.le h0 hs.2
  have h1:=h0 p
  rw [List.pairwise_cons] at hp
  refine ⟨by omega,by omega,hpp.2,by omega,fun r hr=>?_,?_⟩
  ·rcases List.mem_append.1 hr with h | h
   ·have:=hp.1 r h;left;omega
   ·right;have:=hm r h;omega
  ·exact slid_of h0 hb hn hs.2 (by omega) (fun r hr=>by have:=hp.1 r hr;have:=hl r (by simp [hr]);omega) hp.2 hm
theorem sumL_eq (is:List Bool):sumL is W.T=((((List.range W.T.length).map (Int.ofNat ·)).filter fun i=>atB is i).map fun i=>(W.th i).words).sum:=by
 rw [sum_filter]
 unfold sumL
 congr 1
 apply List.ext_getElem
 ·simp
 ·intro k h1 h2
  simp only [List.length_mapIdx] at h1
  simp only [List.getElem_mapIdx,List.getElem_map,List.getElem_range]
  have e1:W.th (Int.ofNat k)=W.T[k]:=by
   unfold Wd.th
   rw [List.getD_eq_getElem?_getD,show (Int.ofNat k).toNat=k from rfl,List.getElem?_eq_getElem h1];rfl
  have e2:atB is (Int.ofNat k)=is.getD k false:=atB_nat is k
  rw [e1,e2]
theorem Sit.sum {sz f:Int→Int}:∀ {l:List Int} {a b:Int},Sit sz f l a b→b=a+(l.map sz).sum
 | [],a,b,h=>by have h:a=b:=h;simp [h]
 | p :: l,a,b,h=>by
  have:=Sit.sum h.2
  simp only [List.map_cons,List.sum_cons];omega
theorem Sit.tile {sz:Int→Int} {φ g:Int→Int}:∀ {l:List Int} {a b:Int},Sit sz g (l.map φ) a b→(∀ i ∈ l,(A.thing (g (φ i))).2.2=0∧1+(A.thing (g (φ i))).2.1=sz (φ i))→Tile A (l.map fun i=>g (φ i)) a b
 | [],a,b,h,_=>h
 | i :: l,a,b,h,ht=>by
  have h1:=ht i (by simp)
  refine ⟨h.1,h1.1,?_⟩
  have:=Sit.tile h.2 (fun k hk=>ht k (by simp [hk]))
  have e:a+sz (φ i)=g (φ i)+1+(A.thing (g (φ i))).2.1:=by have:=h.1;omega
  rw [←e];exact this
def psiJ (f:List Int) (φ:Int→Int) (i:Int):Int:=lookT f (φ i)
theorem jNow_enc {v:Vl} {N:Int} (hok:W.okV v) (hN:v.1=3→0≤psiJ f φ v.2∧psiJ f φ v.2≤1280):jNow f (encV φ v)=encV (psiJ f φ) v:=by
 by_cases h3:v.1=3
 ·have:=hN h3
  rw [encV_ref φ h3,encV_ref _ h3]
  unfold jNow
  rw [if_pos (by omega),show (4*φ v.2+1)/4=φ v.2 by omega]
  show refW (psiJ f φ v.2)=_
  unfold refW
  rw [IntKind.wrap_i64];omega
 ·unfold jNow
  rw [if_neg (fun h=>h3 ((encV_mod hok).1 h))]
  exact encV_plain h3
structure Tn (O:Wo) (W:Wd) (φ:Int→Int) (s:Gs) (f:List Int) (is:List Bool):Prop where
 live:∀ i,atB is i=true→W.live i
 al:∀ v,W.okV v→(jAlive s (encV φ v)=true↔(v.1=3→atB is v.2=true))
 rng:∀ i,atB is i=true→0≤psiJ f φ i∧psiJ f φ i≤1280
theorem Tn.R64 (T:Tn O W φ s f is) {v:Vl} (hok:W.okV v) (hs:v.1=3→atB is v.2=true):R64 (encV (psiJ f φ) v):=by
 unfold Proofs.Ytjifdalflepcoac.R64
 rcases hok with h | h | h | h
 ·have e:encV (psiJ f φ) v=2:=by simp [encV,h.1]
  rw [e];decide
 ·have e:encV (psiJ f φ) v=4*v.2:=by simp [encV,h.1]
  have:=h.2
  unfold big at this
  rw [e];omega
 ·have e:encV (psiJ f φ) v=3:=by simp [encV,h.1]
  rw [e];decide
 ·rw [encV_ref _ h.1]
  have:=T.rng _ (hs h.1)
  omega
def brkJ (W:Wd) (is:List Bool) (i:Int):Bool:=decide ((W.th i).k=4) && !inS is ((W.th i).fs.getD 0 (0,0))
def newF (W:Wd) (is:List Bool) (i:Int) (v:Vl):Vl:=if (brkJ W is i || !inS is v)=true then (2,0) else v
theorem Tn.fd (T:Tn O W φ s f is) {i:Int} {v:Vl} (hok:W.okV v):jFd s f (brkJ W is i) (encV φ v)=encV (psiJ f φ) (newF W is i v)∧Proofs.Ytjifdalflepcoac.R64 (encV (psiJ f φ) (newF W is i v)):=by
 have ha:=T.al v hok
 rw [←inS_iff] at ha
 have ea:jAlive s (encV φ v)=inS is v:=Bool.eq_iff_iff.2 ha
 unfold jFd newF
 rw [ea]
 by_cases hc:(brkJ W is i || !inS is v)=true
 ·rw [if_pos hc,if_pos hc,enc_gone]
  exact ⟨rfl,R64_three⟩
 ·rw [if_neg hc,if_neg hc]
  have hs:v.1=3→atB is v.2=true:=by
   rw [←inS_iff]
   cases h:inS is v
   ·rw [h] at hc;simp at hc
   ·rfl
  exact ⟨jNow_enc (N:=0) hok (fun h3=>T.rng _ (hs h3)),T.R64 hok hs⟩
theorem cutF_new (h:W.ok) (hcl:Closed W.nd qw fun k=>atB is k=true) {i:Int} (hl:W.live i) (hb:atB is i=true):cutF W is i=(W.th i).fs.map (newF W is i):=by
 have shut:∀ j,Leads W.nd qw (fun k=>atB is k=true) i j→atB is j=true:=fun j hj=>hcl i j hb hj
 rw [cutF_eq hl.1 hb]
 have hf:=h.tk i hl
 have hs:=fitsW_spec hf
 by_cases k4:(W.th i).k=4
 ·obtain ⟨a,b,e⟩:=list_two (Wd.two h hl (.inr (.inl k4)))
  rw [e]
  simp only [List.getD_cons_zero,List.getD_cons_succ,List.map_cons,List.map_nil]
  have e0:(W.th i).fs.getD 0 (0,0)=a:=by rw [e];rfl
  cases hk:inS is a
  ·have:brkJ W is i=true:=by unfold brkJ;rw [e0,hk];simp [k4]
   rw [if_pos ⟨k4,rfl⟩]
   simp [newF,this]
  ·have hb':brkJ W is i=false:=by unfold brkJ;rw [e0,hk];simp
   rw [if_neg (fun h=>by cases h.2),if_neg (fun h=>by cases h.2)]
   have h2:inS is b=true:=inS_iff.2 fun h3=>shut _ (.inr (.inr (.inl ⟨k4,by
    show (W.th i).fs[1]? = _
    rw [e];show some b=_;congr 1;exact Prod.ext h3 rfl,fun v hv h5=>by
    have hv':(W.th i).fs[0]? = some v:=hv
    rw [e] at hv'
    have:a=v:=by simpa using hv'
    subst this
    exact inS_iff.1 hk h5⟩)))
   simp [newF,hb',hk,h2]
 ·have hb':brkJ W is i=false:=by unfold brkJ;simp [k4]
  rw [if_neg (fun h=>k4 h.1)]
  by_cases k3:(W.th i).k=3
  ·obtain ⟨a,b,e⟩:=list_two (Wd.two h hl (.inl k3))
   rw [e]
   simp only [List.getD_cons_zero,List.getD_cons_succ,List.map_cons,List.map_nil]
   have h2:inS is b=true:=inS_iff.2 fun h3=>shut _ (.inr (.inl ⟨k3,by
    show (W.th i).fs[1]? = _
    rw [e];show some b=_;congr 1;exact Prod.ext h3 rfl⟩))
   cases hk:inS is a
   ·rw [if_pos ⟨k3,rfl⟩]
    simp [newF,hb',hk,h2]
   ·rw [if_neg (fun h=>by cases h.2)]
    simp [newF,hb',hk,h2]
  ·rw [if_neg (fun h=>k3 h.1)]
   by_cases k12:(W.th i).k=1∨(W.th i).k=2
   ·symm
    rw [List.map_congr_left (g:=id),List.map_id]
    intro v hv
    have:inS is v=true:=inS_iff.2 fun h3=>shut _ (.inl ⟨k12,by show ((3,v.2):Vl) ∈ (W.th i).fs;rw [←h3];exact hv⟩)
    simp [newF,hb',this]
   ·have k5:(W.th i).k=5:=by omega
    rw [k5] at hf
    simp [fitsW] at hf
    have:(W.th i).fs=[]:=hf
    rw [this];rfl
theorem Tn.turns (R:Rep O W φ) (T:Tn O W φ s f is):∀ (l:List Int) {A:Ar},l.Nodup→(∀ i ∈ l,atB is i=true)→A.ok→A.nur=O.ar.nur→A.yng=O.ar.yng→A.grn=O.ar.grn→A.ws.length=O.ar.ws.length →
  (∀ i ∈ l, ∀ j:Int,0≤j→j≤(W.th i).fs.length→A.load (φ i+j)=O.ar.load (φ i+j)) →
  ((l.map φ).foldl (jTurn s f) A).ok∧((l.map φ).foldl (jTurn s f) A).nur=O.ar.nur∧((l.map φ).foldl (jTurn s f) A).yng=O.ar.yng∧((l.map φ).foldl (jTurn s f) A).grn=O.ar.grn∧((l.map φ).foldl (jTurn s f) A).ws.length=O.ar.ws.length ∧
   (∀ i ∈ l,((l.map φ).foldl (jTurn s f) A).load (φ i)=O.ar.load (φ i)∧∀ (j:Nat) (v:Vl),(W.th i).fs[j]? = some v→((l.map φ).foldl (jTurn s f) A).load (φ i+1+j)=encV (psiJ f φ) (newF W is i v)) ∧
   (∀ k,W.live k→¬ k ∈ l→∀ j:Int,0≤j→j≤(W.th k).fs.length→((l.map φ).foldl (jTurn s f) A).load (φ k+j)=A.load (φ k+j))
 | [],A,_,_,h0,h1,h2,h3,h4,_=>⟨h0,h1,h2,h3,h4,by simp,fun _ _ _ _ _ _=>rfl⟩
 | i :: l,A,hn,hb,h0,h1,h2,h3,h4,hA=>by
  rw [List.nodup_cons] at hn
  have hbi:=hb i (by simp)
  have hl:=T.live i hbi
  have hth:=R.th i hl
  have hAi:=hA i (by simp)
  have hA0:=hAi 0 (by omega) (by omega)
  rw [Int.add_zero] at hA0
  have eth:A.thing (φ i)=((W.th i).k,((W.th i).fs.length:Int),0):=by rw [thing_of_load' hA0,hth]
  have fld:∀ (j:Nat) (v:Vl),(W.th i).fs[j]? = some v→A.load (φ i+1+j)=encV φ v:=fun j v hv=>by
   have hj:=(List.getElem?_eq_some_iff.1 hv).1
   rw [Int.add_assoc,hAi (1+(j:Int)) (by omega) (by omega),←Int.add_assoc]
   exact R.fl i hl j v hv
  have hbrk:(decide ((A.thing (φ i)).1=4) && !jAlive s (A.load (φ i+1)))=brkJ W is i:=by
   rw [eth]
   unfold brkJ
   by_cases k4:(W.th i).k=4
   ·obtain ⟨a,b,e⟩:=list_two (Wd.two R.hw hl (.inr (.inl k4)))
    have hj0:(W.th i).fs[0]? = some a:=by rw [e];rfl
    have:=fld 0 a hj0
    rw [show φ i+1+((0:Nat):Int)=φ i+1 by omega] at this
    have ok0:=R.hw.tv i hl a (List.mem_of_getElem? hj0)
    rw [this,Bool.eq_iff_iff.2 ((T.al a ok0).trans inS_iff.symm),e]
    simp
   ·simp [k4]
  have eT:jTurn s f A (φ i)=jTurnN s f (brkJ W is i) (W.th i).fs.length A (φ i+1):=by
   unfold jTurn
   rw [hbrk,eth]
   simp
  have use:∀ q,A.inUse q=O.ar.inUse q:=fun q=>by unfold Ar.inUse Ar.young Ar.old;rw [h1,h2,h3]
  have huse:∀ {k:Int},W.live k→∀ j:Int,0≤j→j≤(W.th k).fs.length→O.ar.inUse (φ k+j)=true:=fun hk j h5 h6=>R.use hk h5 h6
  obtain ⟨m1,m2,m3,m4,m5,m6⟩:=turnN_spec (s:=s) (f:=f) (b:=brkJ W is i) (W.th i).fs.length (A:=A) (φ i+1) h0 (fun j hj0 hj1=>by
   refine ⟨by rw [use,Int.add_assoc];exact huse hl _ (by omega) (by omega),?_⟩
   have hv:(W.th i).fs[j.toNat]? = some (W.th i).fs[j.toNat]:=List.getElem?_eq_getElem (by omega)
   have:=fld _ _ hv
   rw [show ((j.toNat:Nat):Int)=j by omega] at this
   rw [this]
   have:=T.fd (i:=i) (R.hw.tv i hl _ (List.mem_of_getElem? hv))
   rw [this.1];exact this.2)
  rw [←eT] at m1 m2 m3 m4 m5 m6
  have keep:∀ k,W.live k→k≠i→∀ j:Int,0≤j→j≤(W.th k).fs.length→(jTurn s f A (φ i)).load (φ k+j)=A.load (φ k+j):=fun k hk hne j h5 h6=>by
   rw [m6,if_neg]
   have:=R.apart hk hl hne
   omega
  obtain ⟨n1,n2,n3,n4,n5,n6,n7⟩:=Tn.turns R T l (A:=jTurn s f A (φ i)) hn.2 (fun k hk=>hb k (by simp [hk])) m1 (m2.trans h1) (m3.trans h2) (m4.trans h3) (m5.trans h4) (fun k hk j h5 h6=>by
   have hne:k≠i:=fun e=>hn.1 (e ▸ hk)
   rw [keep k (T.live k (hb k (by simp [hk]))) hne j h5 h6]
   exact hA k (by simp [hk]) j h5 h6)
  rw [List.map_cons,List.foldl_cons]
  refine ⟨n1,n2,n3,n4,n5,fun k hk=>?_,fun k hk hkl j h5 h6=>?_⟩
  ·rcases List.mem_cons.1 hk with rfl | hk
   ·constructor
    ·have:=n7 k hl hn.1 0 (by omega) (by omega)
     rw [Int.add_zero] at this
     rw [this,m6,if_neg (by omega),hA0]
    ·intro j v hv
     have hj:=(List.getElem?_eq_some_iff.1 hv).1
     have:=n7 k hl hn.1 (1+(j:Int)) (by omega) (by omega)
     rw [←Int.add_assoc] at this
     rw [this,m6,if_pos (by omega),fld j v hv]
     exact (T.fd (R.hw.tv k hl v (List.mem_of_getElem? hv))).1
   ·exact n6 k hk
  ·rw [List.mem_cons,not_or] at hkl
   rw [n7 k hk hkl.2 j h5 h6,keep k hk hkl.1 j h5 h6]
end
end
section
section
variable {O:Wo} {W:Wd} {φ:Int→Int}
theorem Wd.cut_great (W:Wd) (h2:¬ sumL (W.pass true).1 W.T > W.grow):W.cut true=(0,W.after true):=by
 unfold Wd.cut
 rw [if_neg (fun h'=>by cases h'.1),if_neg h2]
theorem Wd.cut_great_no (W:Wd) (h2:sumL (W.pass true).1 W.T > W.grow):W.cut true=(3,W):=by
 unfold Wd.cut
 rw [if_neg (fun h'=>by cases h'.1),if_pos h2]
structure Pl (O:Wo) (W:Wd) (φ:Int→Int) (is:List Bool) (N:List Int):Prop where
 eq:N.map φ=jThings O
 nd:N.Nodup
 nm:∀ i,i ∈ N↔atB is i=true
 sit:Sit (fun p=>1+(O.ar.thing p).2.1) (lookT (jPl O).1) (jThings O) O.ar.nur (O.ar.nur+(jPl O).2)
 sum:(jPl O).2=sumL is W.T
 slid:(jPl O).2≤(O.ar.ws.length:Int)-O.ar.nur→Slid (fun p=>1+(O.ar.thing p).2.1) O.ar.ws.length (jThings O) O.ar.nur
theorem jAll_nodup (R:Rep O W φ):(jAll O).Nodup:=by
 unfold jAll
 rw [List.nodup_append]
 refine ⟨R.tz.nodup,R.ty.nodup,fun a ha b hb=>?_⟩
 have h1:=R.tz.mem a ha
 have h2:=R.ty.mem b hb
 have h3:=O.ar.thing_fields b
 have:=R.ho.ha.h1
 omega
theorem Tile.apart' {A:Ar} {l:List Int} {a b:Int} (h:Tile A l a b):l.Pairwise fun p q=>p+(1+(A.thing p).2.1)≤q:=
 h.apart.imp fun h=>by omega
theorem Rep.plan (R:Rep O W φ):Pl O W φ (W.pass true).1 ((choose_ids (φ:=φ) (P:=fun i=>atB (W.pass true).1 i=true) (l:=jThings O) (fun p hp=>by
  have:=(List.mem_filter.1 hp).2
  exact (R.jpasses.1.M.at_ p).1 this)).choose):=by
 obtain ⟨hN,hP⟩:=(choose_ids (φ:=φ) (P:=fun i=>atB (W.pass true).1 i=true) (l:=jThings O) (fun p hp=>by
  have:=(List.mem_filter.1 hp).2
  exact (R.jpasses.1.M.at_ p).1 this)).choose_spec
 generalize (choose_ids (φ:=φ) (P:=fun i=>atB (W.pass true).1 i=true) (l:=jThings O) (fun p hp=>by
  have:=(List.mem_filter.1 hp).2
  exact (R.jpasses.1.M.at_ p).1 this)).choose=N at hN hP
 have P:=R.jpasses.1
 have hnd:=jAll_nodup R
 have htn:(jThings O).Nodup:=hnd.filter _
 have hok:=R.ho.ha
 have b1:=hok.h1;have b2:=hok.h2;have b3:=hok.h3
 have rng:∀ p ∈ jAll O,0≤p∧p<(List.replicate O.ar.ws.length (0:Int)).length:=fun p hp=>by
  rw [List.length_replicate]
  have hf:=O.ar.thing_fields p
  rcases List.mem_append.1 hp with h | h
  ·have:=R.tz.mem p h;omega
  ·have:=R.ty.mem p h;omega
 have inA:∀ i,W.live i→φ i ∈ jAll O:=fun i hi=>by
  unfold jAll
  rw [List.mem_append]
  cases ho:(W.th i).old
  ·exact .inr (R.iny i hi ho)
  ·exact .inl (R.ino i hi ho)
 have nm:∀ i,i ∈ N↔atB (W.pass true).1 i=true:=fun i=>by
  constructor
  ·exact hP i
  ·intro hb
   have hl:=P.M.sl i hb
   have:φ i ∈ jThings O:=List.mem_filter.2 ⟨inA i hl,(P.M.at_ _).2 ⟨i,hb,rfl⟩⟩
   rw [←hN] at this
   obtain ⟨k,hk,e⟩:=List.mem_map.1 this
   rw [←R.inj k i (P.M.sl k (hP k hk)) hl e];exact hk
 have hNn:N.Nodup:=nodup_of_map (by rw [hN];exact htn)
 obtain ⟨s1,s2,s3⟩:=jPlan_spec (A:=O.ar) (lv:=(jPass O).1.lv) (base:=O.ar.nur) (t:=(List.replicate O.ar.ws.length 0,0)) hnd rng
 rw [Int.add_zero] at s1
 have hsum:(jPl O).2=sumL (W.pass true).1 W.T:=by
  have h1:=s1.sum
  rw [sumL_eq]
  have h2:(((jAll O).filter fun i=>atB (jPass O).1.lv i).map fun p=>1+(O.ar.thing p).2.1)=N.map fun i=>(W.th i).words:=by
   show (jThings O).map _=_
   rw [←hN,List.map_map]
   refine List.map_congr_left fun i hi=>?_
   have:=R.th i (P.M.sl i (hP i hi))
   simp only [Function.comp]
   rw [this];rfl
  rw [h2] at h1
  have h3:N.Perm (((List.range W.T.length).map (Int.ofNat ·)).filter fun i=>atB (W.pass true).1 i):=by
   rw [List.perm_ext_iff_of_nodup hNn ((nodup_range_int _).filter _)]
   intro i
   rw [nm,List.mem_filter]
   constructor
   ·intro h
    have hl:=P.M.sl i h
    exact ⟨List.mem_map.2 ⟨i.toNat,by rw [List.mem_range];have:=hl.2.1;have:=hl.1;omega,by have:=hl.1;show ((i.toNat:Nat):Int)=i;omega⟩,h⟩
   ·exact fun h=>h.2
  have h4:=sum_perm (h3.map fun i=>(W.th i).words)
  show (jPl O).2=_
  rw [←h4]
  unfold jPl
  omega
 refine ⟨hN,hNn,nm,s1,hsum,fun hle=>?_⟩
 have et:jThings O=(O.ar.things.2.filter fun i=>atB (jPass O).1.lv i) ++ (O.ar.things.1.filter fun i=>atB (jPass O).1.lv i):=by unfold jThings jAll;rw [List.filter_append]
 have s1':Sit (fun p=>1+(O.ar.thing p).2.1) (lookT (jPl O).1) (jThings O) O.ar.nur (O.ar.nur+(jPl O).2):=s1
 rw [et] at s1' ⊢
 refine slid_of (fun p=>by have:=O.ar.thing_fields p;omega) (n:=O.ar.ws.length) (b:=O.ar.nur+(jPl O).2) (nur:=O.ar.nur) (by omega) (by omega) s1' (Int.le_refl _) (fun p hp=>?_) (R.tz.apart'.filter _) (fun q hq=>?_)
 ·have:=R.tz.mem p (List.mem_filter.1 hp).1;omega
 ·have:=R.ty.mem q (List.mem_filter.1 hq).1;omega
theorem Rep.majorN (R:Rep O W φ) (hfull:¬ sumL (W.pass true).1 W.T > W.grow) :
  (jCut O).1=0∧∃ (N:List Int) (ψ:Int→Int),N.map φ=jThings O∧(jCut O).2.ar.things=([],N.map ψ)∧(∀ i ∈ N,(W.after true).live i)∧Rep (jCut O).2 (W.after true) ψ:=by
 have hsy:=R.sy;have hso:=R.so;have hnur:=R.nur;have hlen:=R.len
 obtain ⟨P,hq,hI⟩:=R.jpasses
 have PL:=R.plan
 generalize Exists.choose _=N at PL
 obtain ⟨m,hfst,hcnt,hits⟩:=Wd.pass_mid R.hw true
 have hallN:(jPl O).2≤(O.ar.ws.length:Int)-O.ar.nur:=by rw [PL.sum];omega
 have e1:jCut O=(0,⟨((jSlid O).cut (jPl O).2.toNat).clear,O.cd.map fun _=>false,O.rt.map (jNow (jPl O).1),
   (newRegs jAlive sameW (jPass O).1 (jPass O).2.2).map (jNowE (jPl O).1),(newWait jAlive sameW (jPass O).1 (jPass O).2.1).map (jNowE (jPl O).1)⟩):=by unfold jCut;rw [if_neg (by rw [PL.sum];omega)]
 rw [e1]
 have hokA:=R.hw.after (major:=true) (by omega)
 have hokO:=R.ho.ha
 have b1:=hokO.h1;have b2:=hokO.h2;have b3:=hokO.h3;have b4:=hokO.h4
 have h0:∀ p,0≤(fun p=>1+(O.ar.thing p).2.1) p:=fun p=>by have:=O.ar.thing_fields p;dsimp only;omega
 have hall0:=Sit.le h0 PL.sit
 have hsl:=PL.slid hallN
 have hsit:=PL.sit
 generalize hf:(jPl O).1=f at *
 generalize hall:(jPl O).2=all at *
 generalize hs:(jPass O).1=s at *
 generalize his:(W.pass true).1=is at *
 have lvN:∀ {i},i ∈ N→W.live i:=fun hi=>P.M.sl _ ((PL.nm _).1 hi)
 have thN:∀ {i},i ∈ N→(O.ar.thing (φ i))=((W.th i).k,((W.th i).fs.length:Int),0):=fun hi=>R.th _ (lvN hi)
 have place:∀ {i},i ∈ N→(O.ar.nur:Int)≤psiJ f φ i∧psiJ f φ i+(1+(W.th i).fs.length)≤O.ar.nur+all:=fun {i} hi=>by
  have:=Sit.mem h0 hsit (φ i) (by rw [←PL.eq];exact List.mem_map.2 ⟨i,hi,rfl⟩)
  rw [thN hi] at this
  exact this
 have T:Tn O W φ s f is:=⟨fun i hi=>P.M.sl i hi,fun v hv=>P.M.alive R hv,fun i hi=>by have:=place ((PL.nm i).2 hi);omega⟩
 obtain ⟨t1,t2,t3,t4,t5,t6,-⟩:=T.turns R N PL.nd (fun i hi=>(PL.nm i).1 hi) hokO rfl rfl rfl rfl (fun _ _ _ _ _=>rfl)
 have eT:(N.map φ).foldl (jTurn s f) O.ar=jTurned O:=by rw [PL.eq];unfold jTurned;rw [hs,hf]
 rw [eT] at t1 t2 t3 t4 t5 t6
 generalize hTd:jTurned O=B0 at *
 have use0:∀ q,B0.inUse q=O.ar.inUse q:=fun q=>by unfold Ar.inUse Ar.young Ar.old;rw [t2,t3,t4]
 have hus:∀ {i},i ∈ N→∀ j:Int,0≤j→j≤(W.th i).fs.length→B0.inUse (φ i+j)=true:=fun hi j h1 h2=>by rw [use0];exact R.use (lvN hi) h1 h2
 obtain ⟨u1,u2,u3,u4,u5,u6,u7⟩:=slide_spec (f:=f) (sz:=fun p=>1+(O.ar.thing p).2.1) (l:=jThings O) (A:=B0) hsit (by rw [t5];exact hsl) (fun p hp=>by
  rw [←PL.eq] at hp
  obtain ⟨i,hi,rfl⟩:=List.mem_map.1 hp
  have h1:=hus hi 0 (by omega) (by omega)
  rw [Int.add_zero] at h1
  refine ⟨h1,?_⟩
  rw [thing_of_load (t6 i hi).1]) ((jAll_nodup R).filter _) h0
 have eS:(jThings O).foldl (jSlide1 f) B0=jSlid O:=by unfold jSlid;rw [hTd,hf]
 rw [eS] at u1 u2 u3 u4 u5 u6 u7
 generalize hSd:jSlid O=Bs at *
 obtain ⟨B,hB⟩:∃ B,(Bs.cut all.toNat).clear=B:=⟨_,rfl⟩
 rw [hB]
 have bn:B.nur=O.ar.nur:=by rw [←hB];exact u5.trans t2
 have by_:B.yng=0:=by rw [←hB];rfl
 have bg:(B.grn:Int)=O.ar.nur+all:=by
  rw [←hB]
  show ((Bs.nur+all.toNat:Nat):Int)=_
  rw [u5,t2];omega
 have bw:B.ws=Bs.ws:=by rw [←hB];rfl
 have blen:B.ws.length=O.ar.ws.length:=by rw [bw,u1,t5]
 have okB:B.ok:=by
  refine ⟨by rw [by_];exact Nat.zero_le _,by rw [bn];omega,by rw [blen];omega,by rw [blen];exact b4,fun x hx=>?_⟩
  rw [bw] at hx
  exact t1.hw x (u4 x hx)
 have oldB:∀ x:Int,(O.ar.nur:Int)≤x→x<O.ar.nur+all→B.old x=true:=fun x h1 h2=>by rw [Proofs.Ytjifdalflepcoac.old_iff,bn,bg];exact ⟨h1,h2⟩
 have ldB:∀ {i},i ∈ N→∀ j:Int,0≤j→j≤(W.th i).fs.length→B.load (psiJ f φ i+j)=B0.load (φ i+j):=fun {i} hi j h1 h2=>by
  have hp:=place hi
  have ho:=oldB (psiJ f φ i+j) (by omega) (by omega)
  have hu:B.inUse (psiJ f φ i+j)=true:=by unfold Ar.inUse;rw [ho];simp
  have:=u3 (φ i) (by rw [←PL.eq];exact List.mem_map.2 ⟨i,hi,rfl⟩) j h1 (by rw [thN hi];dsimp only;omega)
  rw [thing_wd hu,thing_wd (hus hi j h1 h2)]
  have e2:wd B (psiJ f φ i+j)=wd Bs (psiJ f φ i+j):=by unfold wd;rw [bw]
  rw [e2];exact this
 have thB:∀ {i},i ∈ N→B.thing (psiJ f φ i)=((W.th i).k,((W.th i).fs.length:Int),0):=fun {i} hi=>by
  have h1:=ldB hi 0 (by omega) (by omega)
  rw [Int.add_zero,Int.add_zero,(t6 i hi).1] at h1
  rw [thing_of_load' h1];exact thN hi
 have lv:∀ {i},(W.after true).live i↔i ∈ N:=fun {i}=>by rw [Wd.after_live R.hw,his,PL.nm]
 have isN:∀ {i},i ∈ N→atB is i=true:=fun hi=>(PL.nm _).1 hi
 have tha:∀ {i},i ∈ N→(W.after true).th i=cutT is i.toNat (W.th i):=fun {i} hi=>by rw [←his];exact Wd.th_after (lvN hi).1 (lvN hi).2.1
 have olda:∀ {i},i ∈ N→((W.after true).th i).old=true:=fun {i} hi=>by
  rw [tha hi,(cutT_live (by rw [atB_toNat (lvN hi).1];exact isN hi)).2]
 have clen:∀ {i},i ∈ N→(cutT is i.toNat (W.th i)).fs.length=(W.th i).fs.length:=fun {i} hi=>cutT_len (by rw [atB_toNat (lvN hi).1];exact isN hi) (R.hw.tk i (lvN hi))
 have hth:B.things=([],N.map (psiJ f φ)):=by
  refine Tile.things okB (by rw [by_];rfl) ?_
  rw [bn,bg]
  have:=Sit.tile (A:=B) (φ:=φ) (l:=N) (by rw [PL.eq];exact hsit) (fun i hi=>by
   have:=thB hi
   unfold psiJ at this
   rw [this]
   dsimp only
   rw [thN hi]
   exact ⟨rfl,rfl⟩)
  exact this
 have tz:Tile B B.things.2 B.nur B.grn:=by
  rw [hth,bn,bg]
  exact Sit.tile (A:=B) (φ:=φ) (l:=N) (by rw [PL.eq];exact hsit) (fun i hi=>by
   have:=thB hi
   unfold psiJ at this
   rw [this]
   dsimp only
   rw [thN hi]
   exact ⟨rfl,rfl⟩)
 have inj:∀ i j,i ∈ N→j ∈ N→psiJ f φ i=psiJ f φ j→i=j:=fun i j hi hj e=>by
  have:=tz.nodup
  rw [hth] at this
  exact inj_of_nodup this hi hj e
 have nowV:∀ {v:Vl},W.okV v→(v.1=3→v.2 ∈ N)→jNow f (encV φ v)=encV (psiJ f φ) v:=fun hv h=>jNow_enc (N:=0) hv (fun h3=>by have:=place (h h3);omega)
 have nowE:∀ {e:Int × Int},e.1 ∈ N→e.2 ∈ N→jNowE f (encE φ e)=encE (psiJ f φ) e:=fun {e} h1 h2=>by
  rw [encE_eq,encE_eq]
  unfold jNowE
  dsimp only
  rw [nowV (v:=(3,e.1)) (.inr (.inr (.inr ⟨rfl,lvN h1⟩))) (fun _=>h1),nowV (v:=(3,e.2)) (.inr (.inr (.inr ⟨rfl,lvN h2⟩))) (fun _=>h2)]
 have hrg:(newRegs jAlive sameW s (jPass O).2.2).map (jNowE f)=(W.after true).regs.map (encE (psiJ f φ)):=by
  rw [hI]
  show _=(newRegs atB nowW (W.pass true).1 (W.pass true).2.2).map _
  rw [his]
  have itx:∀ i ∈ (W.pass true).2.2,W.okE i.1∧(i.2.1=false→atB is i.1.2=true):=by
   intro i hi
   have h1:(i.1,i.2.1) ∈ (W.pass true).2.2.map (fun i=>(i.1,i.2.1)):=List.mem_map.2 ⟨i,hi,rfl⟩
   rw [hits] at h1
   obtain ⟨e,he',e2⟩:=List.mem_map.1 h1
   have e3:e=i.1:=congrArg (fun p:(Int × Int) × Bool=>p.1) e2
   have e4:(!atB (W.clo W.wait (W.first true)) e.2)=i.2.1:=congrArg (fun p:(Int × Int) × Bool=>p.2) e2
   have hgv:=R.hw.gv e he'
   rw [e3] at hgv e4
   exact ⟨hgv,fun hd=>hfst _ (by rw [hd] at e4;simpa using e4)⟩
  generalize (W.pass true).2.2=l at itx
  unfold newRegs
  induction l with
  | nil=>rfl
  | cons i l ih=>
   have hi:=itx i (by simp)
   have ih:=ih (fun j hj=>itx j (by simp [hj]))
   have ea:jAlive s (encI φ i).1.1=atB is i.1.1:=by
    show jAlive _ (encE φ i.1).1=_
    rw [encE_eq];exact P.alive R hi.1.1
   simp only [List.map_cons,List.filter_cons,ea]
   have e2:(encI φ i).2=i.2:=rfl
   rw [e2]
   by_cases hc:(!i.2.1 && atB is i.1.1)=true
   ·rw [if_pos hc,if_pos hc]
    simp only [List.map_cons]
    simp only [Bool.and_eq_true,Bool.not_eq_true'] at hc
    rw [ih]
    congr 1
    exact nowE ((PL.nm _).2 hc.2) ((PL.nm _).2 (hi.2 hc.1))
   ·rw [if_neg hc,if_neg hc];exact ih
 have hwt:(newWait jAlive sameW s (jPass O).2.1).map (jNowE f)=(W.after true).wait.map (encE (psiJ f φ)):=by
  rw [hq]
  show _=(newWait atB nowW (W.pass true).1 (W.pass true).2.1).map _
  rw [his]
  have hok:=P.ok
  have hsh:∀ f ∈ (W.pass true).2.1,atB is f.1=true→atB is f.2=true:=fun f hf h=>P.shut f.1 f.2 h (.inr (.inr (.inr ⟨(hok f hf).2.1,hf⟩)))
  clear hcnt
  revert hok hsh
  generalize (W.pass true).2.1=mm
  unfold newWait
  intro hok hsh
  induction mm with
  | nil=>rfl
  | cons g mm ih=>
   have ih:=ih (fun g hg=>hok g (by simp [hg])) (fun g hg=>hsh g (by simp [hg]))
   have hg:=hok g (by simp)
   have ea:jAlive s (encE φ g).1=atB is g.1:=by rw [encE_eq];exact P.alive R hg.1
   simp only [List.map_cons,List.filter_cons,ea]
   by_cases hc:atB is g.1=true
   ·rw [if_pos hc,if_pos hc]
    simp only [List.map_cons]
    rw [ih]
    congr 1
    exact nowE ((PL.nm _).2 hc) ((PL.nm _).2 (hsh g (by simp) hc))
   ·rw [if_neg hc,if_neg hc];exact ih
 have hrt:O.rt.map (jNow f)=W.roots.map (encV (psiJ f φ)):=by
  rw [R.rt,List.map_map]
  refine List.map_congr_left fun v hv=>?_
  refine nowV (R.hw.rv v hv) (fun h3=>(PL.nm _).2 (m.first _ ?_))
  have hl:=Wd.okV_ref (R.hw.rv v hv) h3
  exact Wd.first_at.2 ⟨hl.1,hl.2.1, .inr (by rw [←h3];exact hv)⟩
 have hE64:∀ e,(W.after true).okE e→R64e (encE (psiJ f φ) e):=fun e he=>by
  have h1:=place (lv.1 he.1);have h2:=place (lv.1 he.2.2)
  constructor
  ·show R64 (4*psiJ f φ e.1+1);unfold R64;omega
  ·show R64 (4*psiJ f φ e.2+1);unfold R64;omega
 refine ⟨rfl,N,psiJ f φ,PL.eq,hth,fun i hi=>lv.2 hi,⟨⟨okB,?_,fun x hx=>?_,fun e he=>?_,fun e he=>?_,?_,by simpa using R.ho.hc⟩,hokA,by rw [hth];exact (by rw [by_];rfl),tz,fun i j hi hj e=>inj i j (lv.1 hi) (lv.1 hj) e,fun p hp=>?_,fun i hi ho=>?_,fun i hi ho=>?_,fun i hi=>?_,fun i hi j v hv=>?_,
  hrt,hrg,hwt,?_,?_,by rw [List.length_map];exact R.cl,fun i hi ho v hv h3 hy=>?_⟩⟩
 ·show (O.rt.map _).length=12
  rw [List.length_map];exact R.ho.h12
 ·have hx':x ∈ O.rt.map (jNow f):=hx
  rw [hrt] at hx'
  obtain ⟨v,hv,rfl⟩:=List.mem_map.1 hx'
  exact T.R64 (R.hw.rv v hv) (fun h3=>m.first _ (by
   have hl:=Wd.okV_ref (R.hw.rv v hv) h3
   exact Wd.first_at.2 ⟨hl.1,hl.2.1, .inr (by rw [←h3];exact hv)⟩))
 ·have he':e ∈ (newRegs jAlive sameW s (jPass O).2.2).map (jNowE f):=he
  rw [hrg] at he'
  obtain ⟨g,hg,rfl⟩:=List.mem_map.1 he'
  exact hE64 g (hokA.gv g hg)
 ·have he':e ∈ (newWait jAlive sameW s (jPass O).2.1).map (jNowE f):=he
  rw [hwt] at he'
  obtain ⟨g,hg,rfl⟩:=List.mem_map.1 he'
  exact hE64 g (hokA.wv g hg)
 ·show ((newRegs jAlive sameW s (jPass O).2.2).map (jNowE f)).length+((newWait jAlive sameW s (jPass O).2.1).map (jNowE f)).length≤24
  rw [hrg,hwt,List.length_map,List.length_map];exact hokA.hq
 ·have hp':p ∈ B.things.1∨p ∈ B.things.2:=hp
  rw [hth] at hp'
  dsimp only at hp'
  rcases hp' with h | h
  ·cases h
  ·obtain ⟨i,hi,rfl⟩:=List.mem_map.1 h
   exact ⟨i,lv.2 hi,rfl⟩
 ·rw [olda (lv.1 hi)] at ho;cases ho
 ·show psiJ f φ i ∈ B.things.2
  rw [hth]
  exact List.mem_map.2 ⟨i,lv.1 hi,rfl⟩
 ·have hb:=lv.1 hi
  show B.thing _=_
  rw [thB hb,tha hb,cutT_kind,clen hb]
 ·have hb:=lv.1 hi
  rw [tha hb] at hv
  have hj:=(List.getElem?_eq_some_iff.1 hv).1
  rw [clen hb] at hj
  show B.load _=_
  rw [Int.add_assoc,ldB hb (1+(j:Int)) (by omega) (by omega),←Int.add_assoc]
  have hv':(cutF W is i)[j]? = some v:=hv
  rw [cutF_new R.hw P.shut (lvN hb) (isN hb),List.getElem?_map] at hv'
  have e2:(W.th i).fs[j]? = some (W.th i).fs[j]:=List.getElem?_eq_getElem hj
  rw [e2] at hv'
  simp only [Option.map_some,Option.some.injEq] at hv'
  rw [←hv']
  exact (t6 i hb).2 j _ e2
 ·show (B.nur:Int)=W.most
  rw [bn];exact R.nur
 ·show (B.ws.length:Int)=W.most+W.grow
  rw [blen];exact R.len
 ·have hl3:(W.after true).live v.2:=Wd.okV_ref (hokA.tv i hi v hv) h3
  rw [olda (lv.1 hl3)] at hy;cases hy
theorem Rep.major (R:Rep O W φ):(jCut O).1=(W.cut true).1∧∃ ψ,Rep (jCut O).2 (W.cut true).2 ψ:=by
 by_cases hfull:sumL (W.pass true).1 W.T > W.grow
 ·have hsy:=R.sy;have hso:=R.so;have hnur:=R.nur;have hlen:=R.len
  have PL:=R.plan
  generalize Exists.choose _=N at PL
  have e1:jCut O=(3,O):=by unfold jCut;rw [if_pos (by rw [PL.sum];omega)]
  rw [e1,W.cut_great_no hfull]
  exact ⟨rfl,φ,R⟩
 ·obtain ⟨e,-,ψ,-,-,-,R'⟩:=R.majorN hfull
  rw [W.cut_great hfull]
  exact ⟨e,ψ,R'⟩
end
end
section
def Wo.rtA (O:Wo) (k:Int):Int:=O.rt.getD k.toNat 0
def Wo.setRt (O:Wo) (r x:Int):Wo:={ O with rt:=O.rt.set r.toNat x }
def Wo.room (O:Wo) (n:Int):Int × Wo:=
 if n≤(O.ar.nur:Int)-O.ar.yng then (0,O)
 else if (O.ar.yng:Int)≤(O.ar.ws.length:Int)-O.ar.grn then mCut O else jCut O
def storesA (A:Ar) (p:Int):List Int→Ar
 | []=>A
 | x :: l=>storesA (A.store p x) (p+1) l
def Wo.lay (P:Wo) (r k:Int) (fr:List Int):Wo:=
 { P with ar:=storesA (P.ar.make k fr.length).2 ((P.ar.make k fr.length).1+1) (fr.map P.rtA),rt:=P.rt.set r.toNat (refW (P.ar.make k fr.length).1) }
def Wo.newT (O:Wo) (r k:Int) (fr:List Int):Int × Wo:=
 if (O.room (1+fr.length)).1=0 then (0,(O.room (1+fr.length)).2.lay r k fr) else O.room (1+fr.length)
def Wo.isG (O:Wo) (x:Int):Bool:=decide ((O.ar.thingAt x).2.2.2=0) && decide ((O.ar.thingAt x).2.1=5)
def Wo.reg (O:Wo) (a b:Int):Int × Wo:=
 if (O.ar.thingAt (O.rtA a)).2.2.2≠0 then ((O.ar.thingAt (O.rtA a)).2.2.2,O)
 else if O.isG (O.rtA b)=false then (2,O)
 else if 24≤O.rg.length+O.wt.length then (3,O)
 else (0, { O with rg:=O.rg ++ [(O.rtA b,O.rtA a)] })
def Wo.pop (O:Wo) (r a:Int):Int × Wo:=
 if O.isG (O.rtA a)=false then (2,O)
 else match popW O.wt (O.rtA a) with
  | none=>(4,O)
  | some q=>(0, { O with wt:=q.2,rt:=O.rt.set r.toNat q.1 })
def Wo.putC (O:Wo) (r:Int) (q:Int × Int):Int × Wo:=if q.2=0 then (0,O.setRt r q.1) else (q.2,O)
def Wo.lenC (O:Wo) (x:Int):Int × Int:=
 if (O.ar.thingAt x).2.2.2=0∧(O.ar.thingAt x).2.1=5 then (4*(O.ar.thingAt x).2.2.1,2) else (4*(O.ar.thingAt x).2.2.1,(O.ar.thingAt x).2.2.2)
def Wo.step (O:Wo) (x:St):Int × Wo:=
 if x.k=1 then (0,O.setRt x.r (4*x.n))
 else if x.k=2 then (0,O.setRt x.r 2)
 else if x.k=3 then (0,O.setRt x.r (O.rtA x.a))
 else if x.k=4 then O.newT x.r 1 [x.a,x.b]
 else if x.k=5 then O.newT x.r 2 (List.replicate x.n.toNat x.a)
 else if x.k=6 then O.newT x.r 3 [x.a,x.b]
 else if x.k=7 then O.newT x.r 4 [x.a,x.b]
 else if x.k=8 then O.newT x.r 5 []
 else if x.k=9 then O.reg x.a x.b
 else if x.k=10 then O.pop x.r x.a
 else if x.k=11 then O.putC x.r (O.ar.get (O.rtA x.a) x.i)
 else if x.k=12 then O.set (O.rtA x.a) x.i (O.rtA x.b)
 else if x.k=13 then O.putC x.r (O.lenC (O.rtA x.a))
 else if x.k=14 then (0,O.setRt x.r (4*if O.rtA x.a=O.rtA x.b then 1 else 0))
 else if x.k=15 then mCut O
 else jCut O
def Wo.do (O:Wo) (x:St):Int × Wo:=if checkM x=0 then O.step x else (checkM x,O)
theorem storesA_keep (A:Ar):∀ (l:List Int) (p:Int),(storesA A p l).nur=A.nur∧(storesA A p l).yng=A.yng∧(storesA A p l).grn=A.grn∧(storesA A p l).ws.length=A.ws.length:=by
 intro l
 induction l generalizing A with
 | nil=>intro p;exact ⟨rfl,rfl,rfl,rfl⟩
 | cons x l ih=>
  intro p
  obtain ⟨h1,h2,h3,h4⟩:=ih (A.store p x) (p+1)
  exact ⟨h1.trans (A.store_nur p x),h2.trans (A.store_yng p x),h3.trans (A.store_grn p x),h4.trans (A.store_len p x)⟩
theorem storesA_ok {A:Ar} (h:A.ok):∀ (l:List Int) (p:Int),(∀ x ∈ l,R64 x)→(storesA A p l).ok:=by
 intro l
 induction l generalizing A with
 | nil=>intro p _;exact h
 | cons x l ih=>intro p hx;exact ih (h.store p x (hx x (by simp))) (p+1) fun y hy=>hx y (by simp [hy])
theorem store_use (A:Ar) (p x q:Int):(A.store p x).inUse q=A.inUse q:=by
 unfold Ar.inUse Ar.young Ar.old
 rw [A.store_yng,A.store_nur,A.store_grn]
theorem storesA_load {A:Ar} (h:A.ok):∀ (l:List Int) (p:Int),(∀ x ∈ l,R64 x)→(∀ j:Nat,j<l.length→A.inUse (p+j)=true)→∀ q:Int,(storesA A p l).load q=if p≤q∧q<p+l.length then l.getD (q-p).toNat 0 else A.load q:=by
 intro l
 induction l generalizing A with
 | nil=>intro p _ _ q;rw [if_neg (fun h=>by have h2:=h.2;simp only [List.length_nil] at h2;omega)];rfl
 | cons x l ih=>
  intro p hx hu q
  have hp:A.inUse p=true:=by have:=hu 0 (by simp);simpa using this
  show (storesA (A.store p x) (p+1) l).load q=_
  rw [ih (h.store p x (hx x (by simp))) (p+1) (fun y hy=>hx y (by simp [hy])) (fun j hj=>by
   rw [store_use]
   have:=hu (j+1) (by simp;omega)
   rwa [show p+((j+1:Nat):Int)=p+1+(j:Int) by omega] at this) q,Ar.load_store h]
  simp only [List.length_cons]
  by_cases c:q=p
  ·subst c
   rw [if_neg (by omega),if_pos ⟨rfl,hp⟩,if_pos (by omega)]
   simp
  ·rw [if_neg (c:=q=p∧_) (fun h=>c h.1)]
   by_cases c2:p+1≤q∧q<p+1+l.length
   ·rw [if_pos c2,if_pos (by omega),show (q-p).toNat=(q-(p+1)).toNat+1 by omega]
    rfl
   ·rw [if_neg c2,if_neg (by omega)]
section
variable {O:Wo} {W:Wd} {φ:Int→Int}
theorem Rep.rtA (R:Rep O W φ) {k:Int} (hk:rootOk k=true):O.rtA k=encV φ (W.rt k):=by
 have h12:=R.hw.hr
 simp only [rootOk,Bool.and_eq_true,decide_eq_true_eq] at hk
 unfold Wo.rtA Wd.rt
 rw [R.rt]
 simp only [List.getD_eq_getElem?_getD,List.getElem?_map]
 rw [List.getElem?_eq_getElem (by omega)];rfl
theorem Rep.room (R:Rep O W φ) (n:Int):(O.room n).1=(W.room n).1∧∃ ψ,Rep (O.room n).2 (W.room n).2 ψ:=by
 have h1:=R.sy;have h2:=R.so;have h3:=R.nur;have h4:=R.len
 unfold Wo.room Wd.room
 by_cases c:n≤(O.ar.nur:Int)-O.ar.yng
 ·rw [if_pos c,if_neg (by omega)];exact ⟨rfl,φ,R⟩
 ·rw [if_neg c,if_pos (c:=n > W.most-W.young) (by omega)]
  by_cases c2:(O.ar.yng:Int)≤(O.ar.ws.length:Int)-O.ar.grn
  ·rw [if_pos c2,show decide (W.young > W.grow-W.olds)=false from decide_eq_false (by omega)]
   exact Rep.minor R
  ·rw [if_neg c2,show decide (W.young > W.grow-W.olds)=true from decide_eq_true (by omega)]
   exact Rep.major R
theorem Wd.room_no (W:Wd) {n:Int} (h:(W.room n).1≠0):(W.room n).2=W:=by
 unfold Wd.room at *
 split
 ·rename_i c
  rw [if_pos c] at h
  unfold Wd.cut at *
  split
  ·rfl
  ·rename_i c1
   rw [if_neg c1] at h
   split
   ·rfl
   ·rename_i c2
    rw [if_neg c2] at h;exact (h rfl).elim
 ·rfl
theorem Wo.room_no (O:Wo) {n:Int} (h:(O.room n).1≠0):(O.room n).2=O:=by
 unfold Wo.room at *
 split
 ·rfl
 ·rename_i c
  rw [if_neg c] at h
  split
  ·rename_i c1
   rw [if_pos c1] at h
   unfold mCut at *
   split
   ·rfl
   ·rename_i c2;rw [if_neg c2] at h;exact (h rfl).elim
  ·rename_i c1
   rw [if_neg c1] at h
   unfold jCut at *
   split
   ·rfl
   ·rename_i c2;rw [if_neg c2] at h;exact (h rfl).elim
theorem refW_in {x:Int} (h0:0≤x) (h1:x≤1000000):refW x=4*x+1:=IntWalk.i64_in _ (by omega)
theorem Rep.lay {P:Wo} {V:Wd} {ψ:Int→Int} (R:Rep P V ψ) {k r:Int} {fr:List Int} (hf:fitsW k fr.length=true) (hr:1+(fr.length:Int)≤(P.ar.nur:Int)-P.ar.yng) (hk:∀ x ∈ fr,rootOk x=true) :
  Rep (P.lay r k fr) (V.put r k (fr.map V.rt)) (extF V.T.length P.ar.yng ψ):=by
 have ha:=R.ho.ha
 have a1:=ha.h1;have a2:=ha.h2;have a3:=ha.h3;have a4:=ha.h4
 obtain ⟨m1,m2,m3,m4,m5,m6,m7⟩:=Ar.make_loads ha ⟨hf,hr⟩
 have e1:(P.ar.make k fr.length).1=(P.ar.yng:Int):=by rw [Ar.make_yes ⟨hf,hr⟩]
 have hmo:=ha.make k fr.length
 have hl:fr.map P.rtA=fr.map (fun x=>encV ψ (V.rt x)):=List.map_congr_left fun x hx=>R.rtA (hk x hx)
 have hR:∀ x ∈ fr.map P.rtA,R64 x:=fun x hx=>by
  rw [hl] at hx
  obtain ⟨y,hy,rfl⟩:=List.mem_map.1 hx
  exact encV_R64 R (Wd.rt_ok R.hw _)
 have hU:∀ j:Nat,j<(fr.map P.rtA).length→(P.ar.make k fr.length).2.inUse ((P.ar.yng:Int)+1+j)=true:=fun j hj=>by
  rw [List.length_map] at hj
  unfold Ar.inUse Ar.young
  rw [Bool.or_eq_true]
  left
  simp;omega
 have SK:=storesA_keep (P.ar.make k fr.length).2 (fr.map P.rtA) ((P.ar.yng:Int)+1)
 have SL:=storesA_load hmo (fr.map P.rtA) ((P.ar.yng:Int)+1) hR hU
 have hlen:((fr.map V.rt).length:Int)=fr.length:=by simp
 unfold Wo.lay
 rw [e1,refW_in (by omega) (by omega)]
 refine R.put (storesA_ok hmo _ _ hR) (SK.1.trans m5) (SK.2.2.1.trans m6) (SK.2.2.2.trans m7) (by rw [SK.2.1,hlen];exact m4) (fun q hq=>?_) ?_ (fun j v hv=>?_) (fun v hv=>?_) (by rw [List.length_map];exact hf)
 ·rw [SL q,if_neg,m1 q hq]
  rintro ⟨h1,h2⟩
  simp only [List.length_map] at h2
  have:P.ar.young q=false:=by
   cases hy:P.ar.young q
   ·rfl
   ·have:=Proofs.Ytjifdalflepcoac.young_iff.1 hy;omega
  have h3:P.ar.old q=true:=by unfold Ar.inUse at hq;rw [this] at hq;exact hq
  have:=Proofs.Ytjifdalflepcoac.old_iff.1 h3
  omega
 ·unfold Ar.thing
  rw [SL,if_neg (by omega),m2,partsW_of hf,hlen]
 ·rw [List.getElem?_map] at hv
  cases hj:fr[j]? with
  | none=>rw [hj] at hv;cases hv
  | some y=>
   rw [hj] at hv
   simp only [Option.map_some,Option.some.injEq] at hv
   have hjl:=(List.getElem?_eq_some_iff.1 hj).1
   rw [SL,if_pos (by rw [List.length_map];omega),hl,show ((P.ar.yng:Int)+1+(j:Int)-((P.ar.yng:Int)+1)).toNat=j by omega]
   simp only [List.getD_eq_getElem?_getD,List.getElem?_map,hj,Option.map_some,Option.getD_some,hv]
 ·obtain ⟨y,hy,rfl⟩:=List.mem_map.1 hv
  exact Wd.rt_ok R.hw _
theorem Rep.newT (R:Rep O W φ) {k r:Int} {fr:List Int} (hf:fitsW k fr.length=true) (hk:∀ x ∈ fr,rootOk x=true) :
  (O.newT r k fr).1=(W.newT r k fr).1∧∃ ψ,Rep (O.newT r k fr).2 (W.newT r k fr).2 ψ:=by
 have hfl:=fitsW_spec hf
 obtain ⟨e,ψ,R2⟩:=R.room (1+fr.length)
 have hro:=R.hw.room (1+fr.length) (by omega)
 unfold Wo.newT Wd.newT
 by_cases c:(W.room (1+fr.length)).1=0
 ·rw [if_pos c,if_pos (e.trans c)]
  refine ⟨rfl,_,R2.lay hf ?_ hk⟩
  have:=hro.2 c;have:=R2.sy;have:=R2.nur
  omega
 ·rw [if_neg c,if_neg (by rw [e];exact c)]
  rw [Wd.room_no W c] at R2
  exact ⟨e,ψ,R2⟩
theorem Wd.thing_three {k:Int} (hok:W.ok):W.thing k<0↔(W.rt k).1≠3:=by
 unfold Wd.thing
 by_cases h3:(W.rt k).1=3
 ·rw [if_pos h3]
  have:=(Wd.okV_ref (Wd.rt_ok hok k) h3).1
  constructor
  ·intro;omega
  ·intro h;exact (h h3).elim
 ·rw [if_neg h3]
  exact ⟨fun _=>h3,fun _=>by omega⟩
theorem Rep.isG (R:Rep O W φ) {k:Int} (hk:rootOk k=true):O.isG (O.rtA k)=false↔W.guard k<0:=by
 unfold Wo.isG
 rw [R.rtA hk,R.thingAt (Wd.rt_ok R.hw k)]
 unfold Wd.guard
 by_cases h3:(W.rt k).1=3
 ·have et:W.thing k=(W.rt k).2:=if_pos h3
  have hlv:=Wd.okV_ref (Wd.rt_ok R.hw k) h3
  have:=hlv.1
  rw [if_pos h3,et]
  by_cases c:(W.th (W.rt k).2).k=5
  ·rw [if_neg (by omega)]
   simp [c];omega
  ·rw [if_pos (.inr c)]
   simp [c]
 ·rw [if_neg h3,if_pos (.inl ((Wd.thing_three R.hw).2 h3))]
  simp
theorem popW_enc {g:Int} (hg:W.live g) (hinj:∀ i j,W.live i→W.live j→φ i=φ j→i=j):∀ (l:List (Int × Int)),(∀ e ∈ l,W.okE e)→popW (l.map (encE φ)) (4*φ g+1)=(popW l g).map fun r=>(4*φ r.1+1,r.2.map (encE φ))
 | [],_=>rfl
 | e :: l,h=>by
  have ih:=popW_enc hg hinj l fun x hx=>h x (by simp [hx])
  have he:=(h e (by simp)).1
  rw [List.map_cons]
  unfold popW
  by_cases c:e.1=g
  ·rw [if_pos c,if_pos (by unfold encE;dsimp only;rw [c])];rfl
  ·rw [if_neg c,if_neg (by unfold encE;dsimp only;intro hh;exact c (hinj _ _ he hg (by omega))),ih]
   cases popW l g <;> rfl
theorem Rep.popd (R:Rep O W φ) {wt:List (Int × Int)} (h1:∀ e ∈ wt,e ∈ W.wait) (h2:wt.length≤W.wait.length):Rep { O with wt:=wt.map (encE φ) } { W with wait:=wt } φ:=by
 have e1:O.wt.length=W.wait.length:=by rw [R.wt];simp
 refine ⟨⟨R.ho.ha,R.ho.h12,R.ho.hR,R.ho.hg,fun x hx=>?_,?_,R.ho.hc⟩,?_,R.ty,R.tz,R.inj,R.onto,R.iny,R.ino,R.th,R.fl,R.rt,R.rg,rfl,R.nur,R.len,R.cl,R.card⟩
 ·obtain ⟨e,he,rfl⟩:=List.mem_map.1 hx
  refine R.ho.hw _ ?_
  rw [R.wt]
  exact List.mem_map.2 ⟨e,h1 e he,rfl⟩
 ·have:=R.ho.hq
  show O.rg.length+(wt.map _).length≤24
  rw [List.length_map];omega
 ·have h:=R.hw
  refine ⟨h.hr,h.rv,h.tk,h.tv,h.gv,fun x hx=>h.wv x (h1 x hx),?_,h.m1,h.m2,h.g1,h.g2,h.uy,h.uo⟩
  have:=h.hq
  show W.regs.length+wt.length≤24
  omega
theorem Rep.pop (R:Rep O W φ) {x:St} (hk:rootOk x.a=true):(O.pop x.r x.a).1=(W.pop x).1∧∃ ψ,Rep (O.pop x.r x.a).2 (W.pop x).2 ψ:=by
 unfold Wo.pop Wd.pop
 by_cases c:W.guard x.a<0
 ·rw [if_pos c,if_pos ((R.isG hk).2 c)];exact ⟨rfl,φ,R⟩
 ·rw [if_neg c,if_neg (fun h=>c ((R.isG hk).1 h))]
  have hg:=Wd.guard_live R.hw c
  have e:O.rtA x.a=4*φ (W.guard x.a)+1:=by
   rw [R.rtA hk]
   have hne:¬ (W.thing x.a<0∨(W.th (W.thing x.a)).k≠5):=fun h=>by unfold Wd.guard at c;rw [if_pos h] at c;omega
   have h3:(W.rt x.a).1=3:=Decidable.byContradiction fun h=>hne (.inl ((Wd.thing_three R.hw).2 h))
   have:W.guard x.a=(W.rt x.a).2:=by unfold Wd.guard;rw [if_neg hne];unfold Wd.thing;rw [if_pos h3]
   rw [this,encV_ref φ h3]
  rw [e,R.wt,popW_enc hg.1 R.inj _ R.hw.wv]
  cases hp:popW W.wait (W.guard x.a) with
  | none=>exact ⟨rfl,φ,R⟩
  | some q=>
   have hm:=popW_mem hp
   have R2:=R.popd (wt:=q.2) hm.2.1 (by omega)
   have hv:({ W with wait:=q.2 }:Wd).okV (3,q.1):=.inr (.inr (.inr ⟨rfl,(R.hw.wv _ hm.1).2.2⟩))
   have R3:=R2.setR hv x.r
   exact ⟨rfl,φ,R3⟩
theorem Rep.do (R:Rep O W φ) (x:St):(O.do x).1=(W.do x).1∧∃ ψ,Rep (O.do x).2 (W.do x).2 ψ:=by
 unfold Wo.do Wd.do
 by_cases hc:¬ checkM x=0
 ·rw [if_neg hc,if_neg hc];exact ⟨rfl,φ,R⟩
 have hc:checkM x=0:=Decidable.not_not.1 hc
 rw [if_pos hc,if_pos hc]
 have hu:=checkM_use hc
 have ok:∀ k,W.okV (W.rt k):=fun k=>Wd.rt_ok R.hw k
 unfold Wo.step Wd.step
 by_cases k1:x.k=1
 ·rw [if_pos k1,if_pos k1]
  exact ⟨rfl,φ,R.setR (Wd.okV_num (hu.2.2.2.2.1 k1).1 (hu.2.2.2.2.1 k1).2) _⟩
 rw [if_neg k1,if_neg k1]
 by_cases k2:x.k=2
 ·rw [if_pos k2,if_pos k2]
  exact ⟨rfl,φ,R.setR (v:=(0,0)) (.inl ⟨rfl,rfl⟩) _⟩
 rw [if_neg k2,if_neg k2]
 by_cases k3:x.k=3
 ·rw [if_pos k3,if_pos k3]
  have ha:rootOk x.a=true:=hu.2.2.1 (by rw [k3];rfl)
  rw [R.rtA ha]
  exact ⟨rfl,φ,R.setR (ok _) _⟩
 rw [if_neg k3,if_neg k3]
 by_cases k4:x.k=4
 ·rw [if_pos k4,if_pos k4]
  have ha:rootOk x.a=true:=hu.2.2.1 (by rw [k4];rfl)
  have hb:rootOk x.b=true:=hu.2.2.2.1 (by rw [k4];rfl)
  exact R.newT rfl (by simp [ha,hb])
 rw [if_neg k4,if_neg k4]
 by_cases k5:x.k=5
 ·rw [if_pos k5,if_pos k5]
  have ha:rootOk x.a=true:=hu.2.2.1 (by rw [k5];rfl)
  have h5:=hu.2.2.2.2.2 k5
  refine R.newT ?_ fun y hy=>by rw [(List.mem_replicate.1 hy).2];exact ha
  simp [fitsW];omega
 rw [if_neg k5,if_neg k5]
 by_cases k6:x.k=6
 ·rw [if_pos k6,if_pos k6]
  have ha:rootOk x.a=true:=hu.2.2.1 (by rw [k6];rfl)
  have hb:rootOk x.b=true:=hu.2.2.2.1 (by rw [k6];rfl)
  exact R.newT rfl (by simp [ha,hb])
 rw [if_neg k6,if_neg k6]
 by_cases k7:x.k=7
 ·rw [if_pos k7,if_pos k7]
  have ha:rootOk x.a=true:=hu.2.2.1 (by rw [k7];rfl)
  have hb:rootOk x.b=true:=hu.2.2.2.1 (by rw [k7];rfl)
  exact R.newT rfl (by simp [ha,hb])
 rw [if_neg k7,if_neg k7]
 by_cases k8:x.k=8
 ·rw [if_pos k8,if_pos k8]
  exact R.newT rfl (by simp)
 rw [if_neg k8,if_neg k8]
 by_cases k9:x.k=9
 ·rw [if_pos k9,if_pos k9]
  have ha:rootOk x.a=true:=hu.2.2.1 (by rw [k9];rfl)
  have hb:rootOk x.b=true:=hu.2.2.2.1 (by rw [k9];rfl)
  unfold Wo.reg Wd.reg
  have tA:=R.thingAt (ok x.a)
  rw [←R.rtA ha] at tA
  by_cases h3:¬ (W.rt x.a).1=3
  ·rw [if_neg h3] at tA
   rw [tA,if_pos (by decide),if_pos (.inl ((Wd.thing_three R.hw).2 h3))]
   exact ⟨rfl,φ,R⟩
  have h3:(W.rt x.a).1=3:=Decidable.not_not.1 h3
  rw [if_pos h3] at tA
  rw [tA]
  dsimp only
  rw [if_neg (show ¬ (0:Int)≠0 by decide)]
  by_cases c:W.guard x.b<0
  ·rw [if_pos ((R.isG hb).2 c),if_pos (.inr c)];exact ⟨rfl,φ,R⟩
  have hna:¬ W.thing x.a<0:=fun h=>(Wd.thing_three R.hw).1 h h3
  have n1:¬ O.isG (O.rtA x.b)=false:=fun h=>c ((R.isG hb).1 h)
  have n2:¬ (W.thing x.a<0∨W.guard x.b<0):=fun h=>by rcases h with h | h;exact hna h;exact c h
  rw [if_neg n1,if_neg n2]
  have e1:O.rg.length=W.regs.length:=by rw [R.rg];simp
  have e2:O.wt.length=W.wait.length:=by rw [R.wt];simp
  rw [e1,e2]
  by_cases c2:24≤W.regs.length+W.wait.length
  ·rw [if_pos c2,if_pos c2];exact ⟨rfl,φ,R⟩
  rw [if_neg c2,if_neg c2]
  have hg:=Wd.guard_live R.hw c
  have hla:=Wd.thing_live R.hw hna
  have hE:W.okE (W.guard x.b,W.thing x.a):=⟨hg.1,hg.2.1,hla⟩
  have eA:O.rtA x.a=4*φ (W.thing x.a)+1:=by rw [R.rtA ha,encV_ref φ h3];unfold Wd.thing;rw [if_pos h3]
  have eB:O.rtA x.b=4*φ (W.guard x.b)+1:=by
   rw [R.rtA hb]
   have hne:¬ (W.thing x.b<0∨(W.th (W.thing x.b)).k≠5):=fun h=>by unfold Wd.guard at c;rw [if_pos h] at c;omega
   have h3:(W.rt x.b).1=3:=Decidable.byContradiction fun h=>hne (.inl ((Wd.thing_three R.hw).2 h))
   have:W.guard x.b=(W.rt x.b).2:=by unfold Wd.guard;rw [if_neg hne];unfold Wd.thing;rw [if_pos h3]
   rw [this,encV_ref φ h3]
  refine ⟨rfl,φ,?_⟩
  rw [eA,eB]
  exact Rep.reg R hE (by omega)
 rw [if_neg k9,if_neg k9]
 by_cases k10:x.k=10
 ·rw [if_pos k10,if_pos k10]
  exact R.pop (hu.2.2.1 (by rw [k10];rfl))
 rw [if_neg k10,if_neg k10]
 have h3t:∀ k,(W.rt k).1=3→W.thing k=(W.rt k).2:=fun k h=>if_pos h
 have hfc:(if (W.rt x.a).1≠3∨(W.th (W.rt x.a).2).k=5 then (2:Int) else if x.i<0∨((W.th (W.rt x.a).2).fs.length:Int)≤x.i then 1 else 0)=W.fieldC x:=by
  unfold Wd.fieldC
  by_cases h3:(W.rt x.a).1=3
  ·have hna:¬ W.thing x.a<0:=fun h=>(Wd.thing_three R.hw).1 h h3
   rw [h3t _ h3]
   rw [h3t _ h3] at hna
   by_cases c:(W.th (W.rt x.a).2).k=5
   ·rw [if_pos (.inr c),if_pos (.inr c)]
   ·have n1:¬ ((W.rt x.a).1≠3∨(W.th (W.rt x.a).2).k=5):=fun h=>by rcases h with h | h;exact h h3;exact c h
    have n2:¬ ((W.rt x.a).2<0∨(W.th (W.rt x.a).2).k=5):=fun h=>by rcases h with h | h;exact hna h;exact c h
    rw [if_neg n1,if_neg n2]
  ·rw [if_pos (.inl h3),if_pos (.inl ((Wd.thing_three R.hw).2 h3))]
 by_cases k11:x.k=11
 ·rw [if_pos k11,if_pos k11]
  have ha:rootOk x.a=true:=hu.2.2.1 (by rw [k11];rfl)
  rw [R.rtA ha,R.get (ok x.a)]
  unfold Wo.putC Wd.get
  rw [←hfc]
  by_cases c1:(W.rt x.a).1≠3∨(W.th (W.rt x.a).2).k=5
  ·simp only [if_pos c1];exact ⟨rfl,φ,R⟩
  ·simp only [if_neg c1]
   by_cases c2:x.i<0∨((W.th (W.rt x.a).2).fs.length:Int)≤x.i
   ·simp only [if_pos c2];exact ⟨rfl,φ,R⟩
   ·simp only [if_neg c2]
    have h3:(W.rt x.a).1=3:=Decidable.byContradiction fun h=>c1 (.inl h)
    rw [h3t _ h3]
    refine ⟨rfl,φ,R.setR ?_ _⟩
    refine R.hw.tv _ (Wd.okV_ref (ok x.a) h3) _ ?_
    have hl:x.i.toNat<(W.th (W.rt x.a).2).fs.length:=by omega
    rw [List.getD_eq_getElem?_getD,List.getElem?_eq_getElem hl]
    exact List.getElem_mem _
 rw [if_neg k11,if_neg k11]
 by_cases k12:x.k=12
 ·rw [if_pos k12,if_pos k12]
  have ha:rootOk x.a=true:=hu.2.2.1 (by rw [k12];rfl)
  have hb:rootOk x.b=true:=hu.2.2.2.1 (by rw [k12];rfl)
  rw [R.rtA ha,R.rtA hb]
  obtain ⟨s1,s2,s3⟩:=Rep.set R (ok x.a) (ok x.b) x.i
  unfold Wd.set
  rw [hfc] at s1
  by_cases c:W.fieldC x=0
  ·rw [if_pos c]
   have h3:(W.rt x.a).1=3:=Decidable.byContradiction fun h=>by rw [←hfc,if_pos (.inl h)] at c;cases c
   rw [h3t _ h3]
   exact ⟨s1.trans c,φ,s3 (s1.trans c)⟩
  ·rw [if_neg c]
   rw [s2 (by rw [s1];exact c)]
   exact ⟨s1,φ,R⟩
 rw [if_neg k12,if_neg k12]
 by_cases k13:x.k=13
 ·rw [if_pos k13,if_pos k13]
  have ha:rootOk x.a=true:=hu.2.2.1 (by rw [k13];rfl)
  unfold Wo.lenC Wd.len
  rw [R.rtA ha,R.thingAt (ok x.a)]
  by_cases h3:(W.rt x.a).1=3
  ·have hna:¬ W.thing x.a<0:=fun h=>(Wd.thing_three R.hw).1 h h3
   have hlv:=Wd.okV_ref (ok x.a) h3
   rw [if_pos h3]
   by_cases c:(W.th (W.rt x.a).2).k=5
   ·have n2:W.thing x.a<0∨(W.th (W.thing x.a)).k=5:=.inr (by rw [h3t _ h3];exact c)
    rw [if_pos n2]
    dsimp only
    rw [if_pos ⟨rfl,c⟩]
    exact ⟨rfl,φ,R⟩
   ·have n2:¬ (W.thing x.a<0∨(W.th (W.thing x.a)).k=5):=fun h=>by rcases h with h | h;exact hna h;rw [h3t _ h3] at h;exact c h
    rw [if_neg n2]
    dsimp only
    rw [if_neg (fun h=>c h.2)]
    unfold Wo.putC
    rw [if_pos rfl,h3t _ h3]
    have hfl:=(fitsW_spec (R.hw.tk _ hlv)).2
    have hbg:big=1152921504606846976:=rfl
    have hn1:-big≤((W.th (W.rt x.a).2).fs.length:Int):=by omega
    have hn2:((W.th (W.rt x.a).2).fs.length:Int)<big:=by omega
    exact ⟨rfl,φ,R.setR (Wd.okV_num hn1 hn2) _⟩
  ·have n2:W.thing x.a<0∨(W.th (W.thing x.a)).k=5:=.inl ((Wd.thing_three R.hw).2 h3)
   rw [if_neg h3,if_pos n2]
   exact ⟨rfl,φ,R⟩
 rw [if_neg k13,if_neg k13]
 by_cases k14:x.k=14
 ·rw [if_pos k14,if_pos k14]
  have ha:rootOk x.a=true:=hu.2.2.1 (by rw [k14];rfl)
  have hb:rootOk x.b=true:=hu.2.2.2.1 (by rw [k14];rfl)
  rw [R.rtA ha,R.rtA hb]
  unfold Wd.same
  have key:(encV φ (W.rt x.a)=encV φ (W.rt x.b))↔W.rt x.a=W.rt x.b:=by
   refine ⟨fun h=>?_,fun h=>by rw [h]⟩
   have h1:=ok x.a;have h2:=ok x.b
   generalize W.rt x.a=u at *
   generalize W.rt x.b=v at *
   obtain ⟨u1,u2⟩:=u;obtain ⟨v1,v2⟩:=v
   unfold encV at h
   rcases h1 with a | a | a | a <;> rcases h2 with b | b | b | b
   all_goals (obtain ⟨a1,a2⟩:=a;obtain ⟨b1,b2⟩:=b;dsimp only at a1 a2 b1 b2 h;subst a1;subst b1)
   all_goals simp at h
   all_goals first | omega | skip
   ·rw [a2,b2]
   ·rw [show u2=v2 by omega]
   ·rw [a2,b2]
   ·rw [R.inj _ _ a2 b2 (by omega)]
  by_cases c:W.rt x.a=W.rt x.b
  ·rw [if_pos (key.2 c),if_pos c]
   exact ⟨rfl,φ,R.setR (Wd.okV_num (n:=1) (by decide) (by decide)) _⟩
  ·rw [if_neg (fun h=>c (key.1 h)),if_neg c]
   exact ⟨rfl,φ,R.setR (Wd.okV_num (n:=0) (by decide) (by decide)) _⟩
 rw [if_neg k14,if_neg k14]
 by_cases k15:x.k=15
 ·rw [if_pos k15,if_pos k15];exact Rep.minor R
 ·rw [if_neg k15,if_neg k15];exact Rep.major R
end
end
section
section
variable {W:Wd}
def Wd.all (W:Wd):List Int:=W.idx false ++ W.idx true
theorem Wd.mem_all {i:Int}:i ∈ W.all↔W.live i:=by
 unfold Wd.all
 rw [List.mem_append,Wd.mem_idx,Wd.mem_idx]
 constructor
 ·rintro (h | h) <;> exact h.1
 ·intro h;cases ho:(W.th i).old
  ·exact .inl ⟨h,rfl⟩
  ·exact .inr ⟨h,rfl⟩
theorem Wd.gr_refs (h:W.ok) {i:Int} (hi:W.live i) {v:Vl} (hv:v ∈ (W.gr i).2) (h3:v.1=3):W.live v.2:=by
 unfold Wd.gr at hv
 dsimp only at hv
 rcases List.mem_append.1 hv with h1 | h1
 ·exact Wd.okV_ref (h.tv i hi v h1) h3
 ·split at h1
  ·obtain ⟨x,hx,rfl⟩:=List.mem_map.1 h1
   unfold waitAt at hx
   obtain ⟨e,he,rfl⟩:=List.mem_map.1 hx
   exact (h.wv e (List.mem_filter.1 he).1).2.2
  ·cases h1
theorem Wd.inU (h:W.ok):InU W.gr W.all:=⟨fun i hi v hv h3=>Wd.mem_all.2 (Wd.gr_refs h (Wd.mem_all.1 hi) hv h3)⟩
theorem Wd.all_len (h:W.ok):W.all.length≤1300:=by
 have key:∀ b,((W.idx b).length:Int)≤((W.idx b).map fun i=>(W.th i).words).sum:=fun b=>by
  generalize W.idx b=l
  induction l with
  | nil=>simp
  | cons a l ih=>
   have hw:(W.th a).words=1+((W.th a).fs.length:Int):=rfl
   simp only [List.length_cons,List.map_cons,List.sum_cons];omega
 have h1:=key false;have h2:=key true
 rw [Wd.sum_idx] at h1 h2
 have e1:(sumW W.T fun t=>!t.dead && (t.old == false))=W.young:=by unfold Wd.young;congr 1;funext t;cases t.old <;> rfl
 have e2:(sumW W.T fun t=>!t.dead && (t.old == true))=W.olds:=by unfold Wd.olds;congr 1;funext t;cases t.old <;> rfl
 rw [e1] at h1;rw [e2] at h2
 have:=h.uy;have:=h.uo;have:=h.m2;have:=h.g2
 unfold Wd.all
 rw [List.length_append]
 omega
def Wd.met (W:Wd):List Int:=metM W.gr W.roots
structure Seen (W:Wd):Prop where
 eq:W.view=(W.roots.map (numV W.met),W.met.map fun x=>numN W.met (W.gr x))
 nd:W.met.Nodup
 rt:∀ v ∈ W.roots,v.1=3→v.2 ∈ W.met
 fd:∀ x ∈ W.met, ∀ v ∈ (W.gr x).2,v.1=3→v.2 ∈ W.met
 led:∀ (k:Nat) (x:Int),W.met[k]? = some x→((3,x):Vl) ∈ W.roots∨∃ (j:Nat) (y:Int),j<k∧W.met[j]? = some y∧((3,x):Vl) ∈ (W.gr y).2
 lv:∀ x ∈ W.met,W.live x
theorem Wd.seen (h0:W.ok):Seen W:=by
 have h:=h0
 have hr:∀ v ∈ W.roots,v.1=3→v.2 ∈ W.all:=fun v hv h3=>Wd.mem_all.2 (Wd.okV_ref (h.rv v hv) h3)
 obtain ⟨h1,h2,h3,h4,h5⟩:=viewM_told (Wd.inU h) (by have:=Wd.all_len h;unfold deep;omega) hr
 refine ⟨h1,h2,h3,h4,h5,?_⟩
 have key:∀ (k:Nat) (x:Int),W.met[k]? = some x→W.live x:=by
  intro k
  induction k using Nat.strongRecOn with
  | _ k ih=>
   intro x hx
   rcases h5 k x hx with h | ⟨j,y,hj,hy,hm⟩
   ·exact Wd.okV_ref (h0.rv _ h) rfl
   ·exact Wd.gr_refs h0 (ih j hj y hy) hm rfl
 intro x hx
 obtain ⟨k,hk,rfl⟩:=List.mem_iff_getElem.1 hx
 exact key k _ (List.getElem?_eq_getElem hk)
theorem Seen.lens (S:Seen W) (h:W.ok):W.view.1.length=12∧W.view.2.length≤1300∧∀ n ∈ W.view.2,n.2.length≤100:=by
 rw [S.eq]
 refine ⟨by simpa using h.hr,?_,fun n hn=>?_⟩
 ·dsimp only
  rw [List.length_map]
  have hsub:∀ x ∈ W.met,x ∈ W.all:=fun x hx=>Wd.mem_all.2 (S.lv x hx)
  have h1:=sum_sub (f:=fun _=>1) (fun _=>by decide) S.nd hsub
  have e:∀ l:List Int,(l.map fun _=>(1:Int)).sum=l.length:=fun l=>by
   induction l with
   | nil=>rfl
   | cons a l ih=>simp only [List.map_cons,List.sum_cons,ih,List.length_cons];omega
  rw [e,e] at h1
  have:=Wd.all_len h
  omega
 ·obtain ⟨x,hx,rfl⟩:=List.mem_map.1 hn
  have hl:=S.lv x hx
  have h1:=(fitsW_spec (h.tk x hl)).2.2.2
  have h2:=h.hq
  have h3:(waitAt W.wait x).length≤W.wait.length:=by unfold waitAt;rw [List.length_map];exact List.length_filter_le _ _
  unfold numN Wd.gr
  simp only [List.length_map,List.length_append]
  split
  ·rw [List.length_map];omega
  ·simp;omega
end
end
section
section
variable {O:Wo} {W:Wd} {φ:Int→Int}
theorem Rep.young_eq (R:Rep O W φ):(O.ar.nur:Int)-O.ar.yng=W.most-W.young:=by rw [R.nur,R.sy]
end
structure Wd.strong (W:Wd):Prop where
 k:∀ i,W.live i→(W.th i).k=1∨(W.th i).k=2
 g:W.regs=[]
 w:W.wait=[]
section
variable {W:Wd}
theorem Wd.new_strong (n o:Int):(Wd.new n o).strong:=⟨fun i hi=>by
 obtain ⟨h0,h1,_⟩:=hi
 simp [Wd.new] at h1;omega,rfl,rfl⟩
theorem Wd.strong.put (h:W.strong) {r k:Int} {l:List Vl} (hk:k=1∨k=2):(W.put r k l).strong:=by
 refine ⟨fun i hi=>?_,h.g,h.w⟩
 rcases Wd.put_live hi with h1 | rfl
 ·rw [Wd.th_put h1.1 h1.2.1];exact h.k i h1
 ·rw [Wd.th_put_new];exact hk
theorem Wd.strong.setR (h:W.strong) (r:Int) (v:Vl):(W.setR r v).strong:=⟨h.k,h.g,h.w⟩
theorem Wd.strong.setF (h:W.strong) {j:Int} {fs:List Vl} (hj:W.live j):(W.setF j fs).strong:=by
 refine ⟨fun i hi=>?_,h.g,h.w⟩
 rw [Wd.setF_live hj] at hi
 rw [Wd.setF_kind hj hi.1];exact h.k i hi
theorem Wd.strong.guard (h:W.strong) (hok:W.ok) (k:Int):W.guard k<0:=by
 unfold Wd.guard
 split
 ·omega
 ·rename_i hn
  have hl:=Wd.thing_live (W:=W) (k:=k) hok (fun hh=>hn (.inl hh))
  rcases h.k _ hl with h1 | h1
  ·exact (hn (.inr (by rw [h1];decide))).elim
  ·exact (hn (.inr (by rw [h1];decide))).elim
theorem Wd.gr_strong (h:W.strong) {i:Int} (hi:W.live i):W.gr i=((W.th i).k,(W.th i).fs):=by
 unfold Wd.gr
 rw [if_neg (by rcases h.k i hi with e | e <;> rw [e] <;> decide),List.append_nil]
theorem cutT_strong {is:List Bool} {i:Nat} {t:Th} (h:is.getD i false=true) (hk:t.k=1∨t.k=2):(cutT is i t).fs=t.fs∧(cutT is i t).k=t.k:=by
 unfold cutT
 rw [if_pos h]
 dsimp only
 rw [if_neg (fun e=>by rcases hk with h1 | h1 <;> (rw [h1] at e;exact absurd e.1 (by decide))),if_neg (fun e=>by rcases hk with h1 | h1 <;> (rw [h1] at e;exact absurd e.1 (by decide)))]
 exact ⟨rfl,rfl⟩
theorem Wd.strong.after (h:W.strong) (hok:W.ok) (major:Bool):(W.after major).strong:=by
 have hm:=Wd.pass_mid hok major
 have hrg:(W.pass major).2.2=[]:=by
  unfold Wd.pass passM
  rw [h.g];rfl
 have hwt:(W.pass major).2.1=[]:=by
  unfold Wd.pass passM
  rw [h.g,h.w];rfl
 refine ⟨fun i hi=>?_,?_,?_⟩
 ·rw [Wd.after_live hok] at hi
  rw [Wd.after_th_alive hok hi]
  exact h.k i (hm.1.live i hi)
 ·show newRegs _ _ _ _=[]
  rw [hrg];rfl
 ·show newWait _ _ _ _=[]
  rw [hwt];rfl
theorem Wd.strong.cut (h:W.strong) (hok:W.ok) (major:Bool):(W.cut major).2.strong:=by
 unfold Wd.cut
 split
 ·exact h
 ·split
  ·exact h
  ·exact h.after hok major
end
end
section
section
variable {O:Wo} {W:Wd} {φ:Int→Int}
theorem Wd.strong.pass_shut (h:W.strong) (hok:W.ok) (major:Bool) {i:Int} (hi:atB (W.pass major).1 i=true) {v:Vl} (hv:v ∈ (W.th i).fs) (h3:v.1=3):atB (W.pass major).1 v.2=true:=by
 have m:=(Wd.pass_mid hok major).1
 refine m.shut i v.2 hi ?_
 have hl:=m.live i hi
 have e:v=(3,v.2):=by cases v;dsimp only at h3;subst h3;rfl
 exact .inl ⟨h.k i hl,by rw [←e];exact hv⟩
theorem Wd.strong.view_after (h:W.strong) (hok:W.ok) (major:Bool):(W.after major).view=W.view:=by
 have m:=(Wd.pass_mid hok major).1
 have hs:=h.after hok major
 show viewM (W.after major).gr (W.after major).roots=_
 show viewM (W.after major).gr W.roots=_
 refine viewM_congr (P:=fun i=>atB (W.pass major).1 i=true) (fun i hi=>?_) (fun i hi v hv h3=>?_) (fun u hu h3=>?_)
 ·have hl:=m.live i hi
  have hla:=(Wd.after_live hok (major:=major)).2 hi
  rw [Wd.gr_strong hs hla,Wd.gr_strong h hl,Wd.th_after hl.1 hl.2.1]
  have:=cutT_strong (is:=(W.pass major).1) (i:=i.toNat) (t:=W.th i) (by rw [atB_toNat hl.1];exact hi) (h.k i hl)
  rw [this.1,this.2]
 ·rw [Wd.gr_strong h (m.live i hi)] at hv
  exact h.pass_shut hok major hi hv h3
 ·refine m.first _ (Wd.first_at.2 ?_)
  have hl:=Wd.okV_ref (hok.rv u hu) h3
  have e:u=(3,u.2):=by cases u;dsimp only at h3;subst h3;rfl
  exact ⟨hl.1,hl.2.1, .inr (by rw [←e];exact hu)⟩
theorem Wd.strong.view_cut (h:W.strong) (hok:W.ok) (major:Bool):(W.cut major).2.view=W.view:=by
 unfold Wd.cut
 split
 ·rfl
 ·split
  ·rfl
  ·exact h.view_after hok major
def sizeN (l:List Nd):Int:=(l.map fun n=>1+if n.1=5 then 0 else (n.2.length:Int)).sum
theorem Wd.size_met (hok:W.ok):sizeN W.view.2=(W.met.map fun i=>(W.th i).words).sum:=by
 have S:=Wd.seen hok
 rw [S.eq]
 unfold sizeN
 dsimp only
 rw [List.map_map]
 congr 1
 refine List.map_congr_left fun i hi=>?_
 have hl:=S.lv i hi
 have hf:=hok.tk i hl
 simp only [Function.comp]
 unfold numN Wd.gr Th.words
 dsimp only
 by_cases h5:(W.th i).k=5
 ·rw [if_pos h5]
  have:(W.th i).fs.length=0:=by
   rw [h5] at hf
   simp [fitsW] at hf
   rw [hf];rfl
  omega
 ·rw [if_neg h5,if_neg h5,List.append_nil,List.length_map]
theorem Wd.strong.met_alive (h:W.strong) (hok:W.ok) (major:Bool):∀ i ∈ W.met,atB (W.pass major).1 i=true:=by
 have S:=Wd.seen hok
 have m:=(Wd.pass_mid hok major).1
 have key:∀ (k:Nat) (x:Int),W.met[k]? = some x→atB (W.pass major).1 x=true:=by
  intro k
  induction k using Nat.strongRecOn with
  | _ k ih=>
   intro x hx
   rcases S.led k x hx with h1 | ⟨j,y,hj,hy,hm⟩
   ·have hl:=Wd.okV_ref (hok.rv _ h1) rfl
    exact m.first _ (Wd.first_at.2 ⟨hl.1,hl.2.1, .inr h1⟩)
   ·have hly:=S.lv y (List.mem_of_getElem? hy)
    rw [Wd.gr_strong h hly] at hm
    exact h.pass_shut hok major (ih j hj y hy) hm rfl
 intro i hi
 obtain ⟨k,hk,rfl⟩:=List.mem_iff_getElem.1 hi
 exact key k _ (List.getElem?_eq_getElem hk)
theorem sumL_range (W:Wd) (is:List Bool):sumL is W.T=(((List.range W.T.length).map (Int.ofNat ·)).map fun i=>if atB is i then (W.th i).words else 0).sum:=by
 unfold sumL
 congr 1
 apply List.ext_getElem
 ·simp
 ·intro k h1 h2
  simp only [List.length_mapIdx] at h1
  simp only [List.getElem_mapIdx,List.getElem_map,List.getElem_range]
  have e1:atB is (Int.ofNat k)=is.getD k false:=atB_nat is k
  have e2:W.th (Int.ofNat k)=W.T[k]:=by
   unfold Wd.th
   rw [show (Int.ofNat k).toNat=k from rfl,List.getD_eq_getElem?_getD,List.getElem?_eq_getElem h1];rfl
  rw [e1,e2]
theorem words_nonneg (t:Th):0≤t.words:=by unfold Th.words;omega
theorem Wd.strong.size_le (h:W.strong) (hok:W.ok) (major:Bool):sizeN W.view.2≤sumL (W.pass major).1 W.T:=by
 rw [Wd.size_met hok,sumL_range]
 have S:=Wd.seen hok
 have:=h.met_alive hok major
 have h2:=sum_filter (p:=fun i=>atB (W.pass major).1 i) (f:=fun i=>(W.th i).words) ((List.range W.T.length).map (Int.ofNat ·))
 have h3:=sum_sub (f:=fun i=>(W.th i).words) (fun i=>words_nonneg _) (l:=W.met) (m:=((List.range W.T.length).map (Int.ofNat ·)).filter fun i=>atB (W.pass major).1 i) S.nd (fun i hi=>by
  have hl:=S.lv i hi
  refine List.mem_filter.2 ⟨List.mem_map.2 ⟨i.toNat,List.mem_range.2 (by have:=hl.2.1;have:=hl.1;omega),by have:=hl.1;show ((i.toNat:Nat):Int)=i;omega⟩,this i hi⟩)
 omega
end
end
section
section
variable {O:Wo} {W:Wd} {φ:Int→Int}
theorem Wd.cut_dims (W:Wd) (major:Bool):(W.cut major).2.most=W.most∧(W.cut major).2.grow=W.grow:=by
 unfold Wd.cut
 split
 ·exact ⟨rfl,rfl⟩
 ·split <;> exact ⟨rfl,rfl⟩
theorem mCut_no {O:Wo} (h:(mCut O).1≠0):(mCut O).2=O:=by
 unfold mCut at h ⊢
 split
 ·rfl
 ·rename_i h1;rw [if_neg h1] at h;exact (h rfl).elim
theorem Rep.olds_eq (R:Rep O W φ):((O.ar.grn-O.ar.nur:Nat):Int)=W.olds:=by
 have h:=R.ho.ha.h2
 rw [←R.so];omega
theorem Wd.strong.alive_met (h:W.strong) (hok:W.ok) {i:Int} (hi:atB (W.pass true).1 i=true):i ∈ W.met:=by
 have S:=Wd.seen hok
 have hp:(W.pass true).1=W.clo W.wait (W.first true):=by
  unfold Wd.pass passM
  rw [h.g];rfl
 rw [hp] at hi
 have ha:=(cloL_at.1 hi).2.2
 refine ha.least (S:=fun k=>k ∈ W.met) (fun k hk=>?_) (fun a b ha hl=>?_)
 ·rcases (Wd.first_at.1 hk).2.2 with h1 | h1
  ·exact absurd h1.2.2 (by decide)
  ·exact S.rt _ h1 rfl
 ·have hla:=S.lv a ha
  have key:((3,b):Vl) ∈ (W.th a).fs→b ∈ W.met:=fun hb=>S.fd a ha (3,b) (by rw [Wd.gr_strong h hla];exact hb) rfl
  rcases hl with h1 | h1 | h1 | h1
  ·exact key h1.2
  ·exact key (List.mem_of_getElem? h1.2)
  ·exact key (List.mem_of_getElem? h1.2.1)
  ·have:=h1.2;rw [h.w] at this;cases this
theorem Wd.strong.size_eq (h:W.strong) (hok:W.ok):sumL (W.pass true).1 W.T=sizeN W.view.2:=by
 have h1:=h.size_le hok true
 have S:=Wd.seen hok
 have hm:=(Wd.pass_mid hok true).1
 rw [Wd.size_met hok] at h1 ⊢
 rw [sumL_range] at h1 ⊢
 have h2:=sum_filter (p:=fun i=>atB (W.pass true).1 i) (f:=fun i=>(W.th i).words) ((List.range W.T.length).map (Int.ofNat ·))
 have h3:=sum_sub (f:=fun i=>(W.th i).words) (fun i=>words_nonneg _) (m:=W.met) (l:=((List.range W.T.length).map (Int.ofNat ·)).filter fun i=>atB (W.pass true).1 i) ((nodup_range_int _).filter _) (fun i hi=>h.alive_met hok (List.mem_filter.1 hi).2)
 omega
structure StrongGreat (O P:Wo) (c grow:Int):Prop where
 view:P.view=O.view
 code:c=0∨c=3
 full:c=3↔sizeN O.view.2 > grow
 used:c=0→((P.ar.grn-P.ar.nur:Nat):Int)=sizeN O.view.2
 young:c=0→P.ar.yng=0
theorem Rep.strongMajor (R:Rep O W φ) (hs:W.strong):StrongGreat O (jCut O).2 (jCut O).1 W.grow∧∃ ψ,Rep (jCut O).2 (W.cut true).2 ψ:=by
 obtain ⟨e,ψ,R'⟩:=R.major
 refine ⟨?_,ψ,R'⟩
 have hv:(jCut O).2.view=O.view:=by rw [R'.view,R.view,hs.view_cut R.hw]
 have hsz:=hs.size_eq R.hw
 have ho':=R'.olds_eq;have hy':=R'.sy
 by_cases hf:sumL (W.pass true).1 W.T > W.grow
 ·have ec:=W.cut_great_no hf
  have e3:(jCut O).1=3:=by rw [e,ec]
  rw [e3]
  exact ⟨hv, .inr rfl,⟨fun _=>by rw [R.view];omega,fun _=>rfl⟩,fun h=>absurd h (by decide),fun h=>absurd h (by decide)⟩
 ·have ec:=W.cut_great hf
  have e0:(jCut O).1=0:=by rw [e,ec]
  rw [ec] at ho' hy' R'
  dsimp only at ho' hy'
  have hsa:=Wd.after_sums R.hw true
  rw [e0]
  refine ⟨hv, .inl rfl,⟨fun h=>absurd h (by decide),fun h=>by rw [R.view] at h;omega⟩,fun _=>?_,fun _=>by have:=hsa.1;omega⟩
  rw [R.view]
  have:=hsa.2;omega
end
end
section
section
variable {O:Wo} {W:Wd} {φ:Int→Int}
theorem Wd.strong.room (h:W.strong) (hok:W.ok) (n:Int):(W.room n).2.strong:=by
 unfold Wd.room
 split
 ·exact h.cut hok _
 ·exact h
theorem Wd.strong.newT (h:W.strong) (hok:W.ok) {r k:Int} {l:List Int} (hk:k=1∨k=2):(W.newT r k l).2.strong:=by
 unfold Wd.newT
 split
 ·exact (h.room hok _).put hk
 ·exact h
theorem Wd.strong.do (h:W.strong) (hok:W.ok) {x:St} (h6:x.k≠6) (h7:x.k≠7) (h8:x.k≠8):(W.do x).2.strong:=by
 unfold Wd.do
 by_cases hc:checkM x=0
 ·rw [if_pos hc]
  unfold Wd.step
  by_cases h1:x.k=1;· rw [if_pos h1];exact h.setR _ _
  rw [if_neg h1]
  by_cases h2:x.k=2;· rw [if_pos h2];exact h.setR _ _
  rw [if_neg h2]
  by_cases h3:x.k=3;· rw [if_pos h3];exact h.setR _ _
  rw [if_neg h3]
  by_cases h4:x.k=4;· rw [if_pos h4];exact h.newT hok (.inl rfl)
  rw [if_neg h4]
  by_cases h5:x.k=5;· rw [if_pos h5];exact h.newT hok (.inr rfl)
  rw [if_neg h5,if_neg h6,if_neg h7,if_neg h8]
  by_cases h9:x.k=9
  ·rw [if_pos h9];unfold Wd.reg;rw [if_pos (.inr (h.guard hok _))];exact h
  rw [if_neg h9]
  by_cases h10:x.k=10
  ·rw [if_pos h10];unfold Wd.pop;rw [if_pos (h.guard hok _)];exact h
  rw [if_neg h10]
  by_cases h11:x.k=11
  ·rw [if_pos h11];unfold Wd.get;split
   ·exact h.setR _ _
   ·exact h
  rw [if_neg h11]
  by_cases h12:x.k=12
  ·rw [if_pos h12];unfold Wd.set;split
   ·rename_i hf
    exact h.setF (Wd.thing_live hok (Wd.field_at hf).1)
   ·exact h
  rw [if_neg h12]
  by_cases h13:x.k=13
  ·rw [if_pos h13];unfold Wd.len;split
   ·exact h
   ·exact h.setR _ _
  rw [if_neg h13]
  by_cases h14:x.k=14;· rw [if_pos h14];exact h.setR _ _
  rw [if_neg h14]
  by_cases h15:x.k=15;· rw [if_pos h15];exact h.cut hok _
  rw [if_neg h15]
  exact h.cut hok _
 ·rw [if_neg hc];exact h
theorem Wd.do_dims (W:Wd) (x:St):(W.do x).2.most=W.most∧(W.do x).2.grow=W.grow:=by
 have hnew:∀ (r k:Int) (l:List Int),(W.newT r k l).2.most=W.most∧(W.newT r k l).2.grow=W.grow:=fun r k l=>by
  unfold Wd.newT
  split
  ·show (W.room _).2.most=_∧(W.room _).2.grow=_
   unfold Wd.room;split
   ·exact Wd.cut_dims W _
   ·exact ⟨rfl,rfl⟩
  ·exact ⟨rfl,rfl⟩
 unfold Wd.do
 by_cases hc:checkM x=0
 ·rw [if_pos hc]
  unfold Wd.step
  by_cases h1:x.k=1;· rw [if_pos h1];exact ⟨rfl,rfl⟩
  rw [if_neg h1]
  by_cases h2:x.k=2;· rw [if_pos h2];exact ⟨rfl,rfl⟩
  rw [if_neg h2]
  by_cases h3:x.k=3;· rw [if_pos h3];exact ⟨rfl,rfl⟩
  rw [if_neg h3]
  by_cases h4:x.k=4;· rw [if_pos h4];exact hnew _ _ _
  rw [if_neg h4]
  by_cases h5:x.k=5;· rw [if_pos h5];exact hnew _ _ _
  rw [if_neg h5]
  by_cases h6:x.k=6;· rw [if_pos h6];exact hnew _ _ _
  rw [if_neg h6]
  by_cases h7:x.k=7;· rw [if_pos h7];exact hnew _ _ _
  rw [if_neg h7]
  by_cases h8:x.k=8;· rw [if_pos h8];exact hnew _ _ _
  rw [if_neg h8]
  by_cases h9:x.k=9
  ·rw [if_pos h9];unfold Wd.reg;split
   ·exact ⟨rfl,rfl⟩
   ·split <;> exact ⟨rfl,rfl⟩
  rw [if_neg h9]
  by_cases h10:x.k=10
  ·rw [if_pos h10];unfold Wd.pop;split
   ·exact ⟨rfl,rfl⟩
   ·split <;> exact ⟨rfl,rfl⟩
  rw [if_neg h10]
  by_cases h11:x.k=11;· rw [if_pos h11];unfold Wd.get;split <;> exact ⟨rfl,rfl⟩
  rw [if_neg h11]
  by_cases h12:x.k=12;· rw [if_pos h12];unfold Wd.set;split <;> exact ⟨rfl,rfl⟩
  rw [if_neg h12]
  by_cases h13:x.k=13;· rw [if_pos h13];unfold Wd.len;split <;> exact ⟨rfl,rfl⟩
  rw [if_neg h13]
  by_cases h14:x.k=14;· rw [if_pos h14];exact ⟨rfl,rfl⟩
  rw [if_neg h14]
  by_cases h15:x.k=15;· rw [if_pos h15];exact Wd.cut_dims W _
  rw [if_neg h15]
  exact Wd.cut_dims W _
 ·rw [if_neg hc];exact ⟨rfl,rfl⟩
def needM (x:St):Int:=if x.k=5 then 1+x.n else 3
def fullM (W:Wd) (O:Wo) (x:St):Prop:=needM x > W.most-(O.ar.yng:Int)∧(O.ar.yng:Int) > W.grow-((O.ar.grn-O.ar.nur:Nat):Int)∧sizeN O.view.2 > W.grow
theorem Rep.rooms (R:Rep O W φ) (hs:W.strong) {x:St} (hc:checkM x=0) (hk:x.k=4∨x.k=5):(fullM W O x→(O.do x).1=3)∧(¬ fullM W O x→(O.do x).1=0):=by
 have e1:(O.do x).1=(W.do x).1:=(R.do x).1
 have hn:(W.do x).1=(W.room (needM x)).1:=by
  unfold Wd.do
  rw [if_pos hc]
  unfold Wd.step needM
  have hnt:∀ (r k:Int) (l:List Int),(W.newT r k l).1=(W.room (1+l.length)).1:=fun r k l=>by
   unfold Wd.newT;split
   ·rename_i h0;exact h0.symm
   ·rfl
  rcases hk with h4 | h5
  ·rw [if_neg (by omega),if_neg (by omega),if_neg (by omega),if_pos h4,if_neg (by omega),hnt];rfl
  ·have h12:=(checkM_use hc).2.2.2.2.2 h5
   rw [if_neg (by omega),if_neg (by omega),if_neg (by omega),if_neg (by omega),if_pos h5,if_pos h5,hnt,List.length_replicate]
   congr 2
   omega
 rw [e1,hn]
 have hy:=R.sy;have ho:=R.olds_eq
 unfold fullM
 rw [hy,ho]
 unfold Wd.room
 by_cases ha:needM x > W.most-W.young
 ·rw [if_pos ha]
  by_cases hb:W.young > W.grow-W.olds
  ·rw [decide_eq_true hb]
   obtain ⟨g,-⟩:=R.strongMajor hs
   obtain ⟨e,-⟩:=R.major
   have hf:=g.full;have hcd:=g.code
   rw [e] at hf hcd
   refine ⟨fun h=>hf.2 h.2.2,fun h=>?_⟩
   rcases hcd with h0 | h3
   ·exact h0
   ·exact absurd ⟨ha,hb,hf.1 h3⟩ h
  ·rw [decide_eq_false hb]
   have hm:=(Wd.pass_mid R.hw false).1
   have hsum:=sumL_le R.hw hm.live
   have ec:=W.cut_small hb (by omega)
   rw [ec]
   exact ⟨fun h=>absurd h.2.1 hb,fun _=>rfl⟩
 ·rw [if_neg ha]
  exact ⟨fun h=>absurd h.1 ha,fun _=>rfl⟩
end
end
section
theorem Wo.do_same {O:Wo} {x:St} (h:(O.do x).1≠0):(O.do x).2=O:=by
 have hnew:∀ (r k:Int) (l:List Int),(O.newT r k l).1≠0→(O.newT r k l).2=O:=fun r k l h=>by
  unfold Wo.newT at h ⊢
  split
  ·rename_i h0;rw [if_pos h0] at h;exact (h rfl).elim
  ·rename_i h0;exact Wo.room_no O h0
 have hreg:(O.reg x.a x.b).1≠0→(O.reg x.a x.b).2=O:=fun h=>by
  unfold Wo.reg at h ⊢
  split
  ·rfl
  ·rename_i h1;rw [if_neg h1] at h
   split
   ·rfl
   ·rename_i h2;rw [if_neg h2] at h
    split
    ·rfl
    ·rename_i h3;rw [if_neg h3] at h;exact (h rfl).elim
 have hpop:(O.pop x.r x.a).1≠0→(O.pop x.r x.a).2=O:=fun h=>by
  unfold Wo.pop at h ⊢
  split
  ·rfl
  ·rename_i h1;rw [if_neg h1] at h
   cases hp:popW O.wt (O.rtA x.a) with
   | none=>rfl
   | some q=>rw [hp] at h;exact (h rfl).elim
 have hput:∀ q:Int × Int,(O.putC x.r q).1≠0→(O.putC x.r q).2=O:=fun q h=>by
  unfold Wo.putC at h ⊢
  split
  ·rename_i h0;rw [if_pos h0] at h;exact (h rfl).elim
  ·rfl
 have hset:∀ a i y:Int,(O.set a i y).1≠0→(O.set a i y).2=O:=fun a i y h=>by
  unfold Wo.set at h ⊢
  split
  ·rfl
  ·rename_i h0;rw [if_neg h0] at h;exact (h rfl).elim
 have hj:(jCut O).1≠0→(jCut O).2=O:=fun h=>by
  unfold jCut at h ⊢
  split
  ·rfl
  ·rename_i h1;rw [if_neg h1] at h;exact (h rfl).elim
 unfold Wo.do at h ⊢
 by_cases hc:checkM x=0
 ·rw [if_pos hc] at h ⊢
  unfold Wo.step at h ⊢
  by_cases h1:x.k=1;· rw [if_pos h1] at h;exact (h rfl).elim
  rw [if_neg h1] at h ⊢
  by_cases h2:x.k=2;· rw [if_pos h2] at h;exact (h rfl).elim
  rw [if_neg h2] at h ⊢
  by_cases h3:x.k=3;· rw [if_pos h3] at h;exact (h rfl).elim
  rw [if_neg h3] at h ⊢
  by_cases h4:x.k=4;· rw [if_pos h4] at h ⊢;exact hnew _ _ _ h
  rw [if_neg h4] at h ⊢
  by_cases h5:x.k=5;· rw [if_pos h5] at h ⊢;exact hnew _ _ _ h
  rw [if_neg h5] at h ⊢
  by_cases h6:x.k=6;· rw [if_pos h6] at h ⊢;exact hnew _ _ _ h
  rw [if_neg h6] at h ⊢
  by_cases h7:x.k=7;· rw [if_pos h7] at h ⊢;exact hnew _ _ _ h
  rw [if_neg h7] at h ⊢
  by_cases h8:x.k=8;· rw [if_pos h8] at h ⊢;exact hnew _ _ _ h
  rw [if_neg h8] at h ⊢
  by_cases h9:x.k=9;· rw [if_pos h9] at h ⊢;exact hreg h
  rw [if_neg h9] at h ⊢
  by_cases h10:x.k=10;· rw [if_pos h10] at h ⊢;exact hpop h
  rw [if_neg h10] at h ⊢
  by_cases h11:x.k=11;· rw [if_pos h11] at h ⊢;exact hput _ h
  rw [if_neg h11] at h ⊢
  by_cases h12:x.k=12;· rw [if_pos h12] at h ⊢;exact hset _ _ _ h
  rw [if_neg h12] at h ⊢
  by_cases h13:x.k=13;· rw [if_pos h13] at h ⊢;exact hput _ h
  rw [if_neg h13] at h ⊢
  by_cases h14:x.k=14;· rw [if_pos h14] at h;exact (h rfl).elim
  rw [if_neg h14] at h ⊢
  by_cases h15:x.k=15;· rw [if_pos h15] at h ⊢;exact mCut_no h
  rw [if_neg h15] at h ⊢
  exact hj h
 ·rw [if_neg hc]
end
section
open Go.RowKit
section
variable {P:Program} {ops:Array Oper} {md:Region.Mode} {G:World→Prop}
def gUpon (P:Program) (o:Oper) (a:Act) (K:Act→World→Prop):Result Next→Prop
 | .ok (.value v) w'=>K (a.put o.dst v) w'
 | .ok .skip w'=>K (a.put o.dst undef) w'
 | .ok (.enter f args) w'=>Calls P f args w' fun
   | .returned v,w''=>K (a.put o.dst v) w''
   | _,_=>False
 | _=>False
def gRun (P:Program) (o:Oper) (a:Act) (w:World) (K:Act→World→Prop):Prop:=gUpon P o a K ((execOp a.eval o).run P w)
def gOp (P:Program) (ops:Array Oper) (i:Nat) (K:Act→World→Prop) (a:Act) (w:World):Prop:=
 match ops[i]? with
 | none=>K a w
 | some o=>if Region.wanted o (yielded ops a.tmps)=true then gRun P o a w K else K (a.put o.dst undef) w
theorem gRun_mono {o:Oper} {a:Act} {w:World} {K K':Act→World→Prop} (h:∀ a w,K a w→K' a w) (hh:gRun P o a w K):gRun P o a w K':=by
 unfold gRun at *
 generalize (execOp a.eval o).run P w=r at *
 cases r with
 | ok n w'=>
  cases n <;> simp only [gUpon] at hh ⊢
  case value u=>exact h _ _ hh
  case skip=>exact h _ _ hh
  case enter f args=>exact hh.mono fun e w'' hq=>by cases e <;> first | exact h _ _ hq | exact hq
 | halt x w'=>exact hh
theorem gOp_mono {i:Nat} {a:Act} {w:World} {K K':Act→World→Prop} (h:∀ a w,K a w→K' a w) (hh:gOp P ops i K a w):gOp P ops i K' a w:=by
 unfold gOp at *
 split
 ·rename_i ho;simp only [ho] at hh;exact h _ _ hh
 ·rename_i o ho
  simp only [ho] at hh
  split
  ·rename_i hw;rw [if_pos hw] at hh;exact gRun_mono h hh
  ·rename_i hw;rw [if_neg hw] at hh;exact h _ _ hh
theorem wpOp_of_gOp {i:Nat} {a:Act} {w:World} {K:Act→World→Prop} {Q':Exit→Act→World→Prop} (hh:gOp P ops i K a w):wpOp P ops Q' i K a w:=by
 unfold gOp at hh
 unfold wpOp
 split
 ·rename_i ho;simp only [ho] at hh;exact hh
 ·rename_i o ho
  simp only [ho] at hh
  split
  ·rename_i hw
   rw [if_pos hw] at hh
   left
   unfold gRun at hh
   unfold Oper.wp
   generalize (execOp a.eval o).run P w=r at *
   cases r with
   | ok n w'=>
    cases n <;> simp only [gUpon] at hh <;> simp only [Oper.upon]
    case value u=>exact hh
    case skip=>exact hh
    case enter f args=>exact hh.mono fun e w'' hq=>by cases e <;> first | exact hq | exact hq.elim
   | halt x w'=>exact hh.elim
  ·rename_i hw;rw [if_neg hw] at hh;exact hh
def waitsT (md:Region.Mode) (ops:Array Oper):Nat→Nat→Nat→Bool
 | 0,_,_=>false
 | n+1,j,i=>match ops[j]? with
  | none=>false
  | some o=>o.after.any fun e=>Region.binds md e && (e.on == i || waitsT md ops n e.on i)
def Shut (md:Region.Mode) (ops:Array Oper) (listed:Array Bool):Prop:=
 ∀ (j:Nat) (o:Oper),ops[j]? = some o→listed.getD j false=true→∀ e ∈ o.after,Region.binds md e=true→listed.getD e.on false=true
theorem Shut.waits {listed:Array Bool} (h:Shut md ops listed):∀ (n j i:Nat),(∃ o,ops[j]? = some o∧∀ e ∈ o.after,Region.binds md e=true→listed.getD e.on false=true)→waitsT md ops n j i=true→listed.getD i false=true
 | 0,_,_,_,hw=>by simp [waitsT] at hw
 | n+1,j,i,⟨o,ho,hall⟩,hw=>by
  simp only [waitsT,ho,Array.any_eq_true] at hw
  obtain ⟨k,hk,hb⟩:=hw
  simp only [Bool.and_eq_true,Bool.or_eq_true,beq_iff_eq] at hb
  have he:=hall _ (Array.getElem_mem hk) hb.1
  rcases hb.2 with e | e
  ·rw [←e];exact he
  ·refine h.waits n _ i ?_ e
   cases hx:ops[(o.after[k]).on]? with
   | none=>exfalso;cases n <;> simp [waitsT,hx] at e
   | some ox=>exact ⟨ox,rfl,h _ ox hx he⟩
theorem Shut.next {listed:Array Bool} (h:Shut md ops listed) {i:Nat} (hi:i ∈ Region.ready md ops listed):Shut md ops (listed.setIfInBounds i true):=by
 intro j o ho hl e he hb
 by_cases hji:j=i
 ·subst hji
  obtain ⟨_,o',ho',hall⟩:=mem_ready.1 hi
  rw [ho] at ho';cases ho'
  exact getD_set_true (hall e he hb)
 ·rw [getD_set_ne false (Ne.symm hji)] at hl
  exact getD_set_true (h j o ho hl e he hb)
def wpAnyG (P:Program) (md:Region.Mode) (ops:Array Oper) (z:List Nat) (G:World→Prop) (Q:Act→World→Prop):Nat→Array Bool→Act→World→Prop
 | 0,listed,a,w=>Region.ready md ops listed=[]∧Q a w
 | f+1,listed,a,w=>
  (Region.ready md ops listed=[]→Q a w) ∧
  ∀ i ∈ Region.ready md ops listed,gOp P ops i (fun a' w'=>(z.contains i=false→G w')∧wpAnyG P md ops z G Q f (listed.setIfInBounds i true) a' w') a w
theorem wpAny_of_G {z:List Nat} {Q:Act→World→Prop} {Q':Exit→Act→World→Prop} (hQ:∀ a w,Q a w→Q' .normal a w):∀ (f:Nat) (listed:Array Bool) (a:Act) (w:World),
  wpAnyG P md ops z G Q f listed a w→wpAny P md ops Q' f listed a w
 | 0,_,_,_,h=>⟨h.1,hQ _ _ h.2⟩
 | f+1,_,_,_,h=>⟨fun h0=>hQ _ _ (h.1 h0),fun i hi=>wpOp_of_gOp (gOp_mono (fun a w ⟨_,hk⟩=>wpAny_of_G hQ f _ a w hk) (h.2 i hi))⟩
def Gives (v:Value) (w:World) (r:Result Next):Prop:=r=.ok (.value v) w
theorem Gives.mk (v:Value) (w:World):Gives v w (.ok (.value v) w):=rfl
def YieldsG (P:Program) (ops:Array Oper) (G:World→Prop) (o:Oper) (v:Value) (a:Act):Prop:=
 (Region.wanted o (yielded ops a.tmps)=true∧∀ w,G w→Gives v w ((execOp a.eval o).run P w))∨(Region.wanted o (yielded ops a.tmps)=false∧v=undef)
theorem YieldsG.gOp {i:Nat} {o:Oper} {v:Value} {a:Act} {w:World} (hi:ops[i]? = some o) (hy:YieldsG P ops G o v a) (hw:G w) {K:Act→World→Prop} (h:K (a.put o.dst v) w):gOp P ops i K a w:=by
 unfold Go.Proofs.Ytjifdalflepcoac.gOp
 simp only [hi]
 rcases hy with ⟨hwt,hv⟩ | ⟨hwt,rfl⟩
 ·rw [if_pos hwt]
  unfold gRun
  rw [show (execOp a.eval o).run P w=_ from hv w hw]
  exact h
 ·rw [if_neg (by simp [hwt])];exact h
theorem gOp_put {j:Nat} {oi oj:Oper} {v:Value} (hj:ops[j]? = some oj) (hap:oi.apart ops oj=true)
  (hsi:∀ cs b,oi.op≠.select cs b) (hsj:∀ cs b,oj.op≠.select cs b) {K:Act→World→Prop} {a:Act} {w:World}
  (hy:YieldsG P ops G oi v a) (h:gOp P ops j K (a.put oi.dst v) w) :
  gOp P ops j (fun a' w'=>YieldsG P ops G oi v a'∧K (a'.put oi.dst v) w') a w:=by
 obtain ⟨h1,h2,h3⟩:=Oper.apart_spec hap
 have keep:∀ u,YieldsG P ops G oi v (a.put oj.dst u):=fun u=>by
  unfold YieldsG at *
  rw [execOp_put oi hsi a oj.dst u h3,wanted_put oi a oj.dst u h3]
  exact hy
 have com:∀ u,(a.put oi.dst v).put oj.dst u=(a.put oj.dst u).put oi.dst v:=fun u=>Act.put_comm a v u h2
 unfold gOp at *
 simp only [hj] at *
 rw [wanted_put oj a oi.dst v h1] at h
 split
 ·rename_i hw
  rw [if_pos hw] at h
  unfold gRun at *
  rw [execOp_put oj hsj a oi.dst v h1] at h
  generalize (execOp a.eval oj).run P w=r at *
  cases r with
  | ok n w'=>
   cases n <;> simp only [gUpon] at h ⊢
   case value u=>exact ⟨keep u,by rw [←com];exact h⟩
   case skip=>exact ⟨keep undef,by rw [←com];exact h⟩
   case enter f args=>
    refine h.mono fun e w'' hq=>?_
    cases e with
    | returned u=>exact ⟨keep u,by rw [←com];exact hq⟩
    | panicked _=>exact hq
    | outgrown=>exact hq
  | halt x w'=>exact h
 ·rename_i hw
  rw [if_neg hw] at h
  exact ⟨keep undef,by rw [←com];exact h⟩
theorem wpAnyG_first {z:List Nat} {Q:Act→World→Prop} {i:Nat} {oi:Oper} {v:Value} (hi:ops[i]? = some oi) (hsel:∀ (j:Nat) (o:Oper) cs b,ops[j]? = some o→o.op≠.select cs b)
  (hz:∀ j,z.contains j=true→waitsT md ops ops.size j i=true) :
  ∀ (fuel:Nat) (listed:Array Bool) (a:Act) (w:World),G w→Shut md ops listed →
   (∀ j oj,ops[j]? = some oj→j≠i→listed.getD j true=false→(∀ e ∈ oj.after,Region.binds md e=true→e.on≠i)→oi.apart ops oj=true) →
   i ∈ Region.ready md ops listed→YieldsG P ops G oi v a →
   wpAnyG P md ops z G Q fuel (listed.setIfInBounds i true) (a.put oi.dst v) w→wpAnyG P md ops z G Q (fuel+1) listed a w:=by
 intro fuel
 induction fuel with
 | zero=>
  intro listed a w hG hS _ hr hy H
  refine ⟨fun h=>(by rw [h] at hr;cases hr),fun j hj=>?_⟩
  by_cases hji:j=i
  ·subst hji;exact hy.gOp hi hG ⟨fun _=>hG,H⟩
  ·have:=ready_mono hj hji
   rw [H.1] at this
   cases this
 | succ fuel ih=>
  intro listed a w hG hS hfree hr hy H
  refine ⟨fun h=>(by rw [h] at hr;cases hr),fun j hj=>?_⟩
  by_cases hji:j=i
  ·subst hji;exact hy.gOp hi hG ⟨fun _=>hG,H⟩
  ·have h1:=H.2 j (ready_mono hj hji)
   obtain ⟨hjun,oj,hoj,hall⟩:=mem_ready.1 hj
   have hin:listed.getD i false=false:=by
    have h0:=(mem_ready.1 hr).1
    rcases Nat.lt_or_ge i listed.size with h' | h'
    ·simp [h'] at h0 ⊢;exact h0
    ·simp [Array.getElem?_eq_none h'] at h0
   have hjz:z.contains j=false:=by
    cases hc:z.contains j
    ·rfl
    ·have:=hS.waits _ j i ⟨oj,hoj,hall⟩ (hz j hc)
     rw [hin] at this;cases this
   have hnot:∀ e ∈ oj.after,Region.binds md e=true→e.on≠i:=fun e he hb heq=>by
    have h1:=hall e he hb
    rw [heq,hin] at h1
    cases h1
   have h2:=gOp_put hoj (hfree j oj hoj hji hjun hnot) (fun cs b=>hsel i oi cs b hi) (fun cs b=>hsel j oj cs b hoj) hy h1
   have hfree':∀ k ok,ops[k]? = some ok→k≠i→(listed.setIfInBounds j true).getD k true=false →
     (∀ e ∈ ok.after,Region.binds md e=true→e.on≠i)→oi.apart ops ok=true:=fun k ok hk hki hun hno=>by
    refine hfree k ok hk hki ?_ hno
    by_cases hjk:j=k
    ·subst hjk;exact hjun
    ·rw [getD_set_ne true hjk] at hun;exact hun
   refine gOp_mono (fun a' w' ⟨hy',hG',h3⟩=>?_) h2
   refine ⟨fun _=>hG' hjz,ih (listed.setIfInBounds j true) a' w' (hG' hjz) (hS.next hj) hfree' (ready_mono hr (Ne.symm hji)) hy' ?_⟩
   rw [Array.setIfInBounds_comm _ _ hji]
   exact h3
def lateOf (ord:List (Nat × Nat)):List Nat:=(ord.filter fun p=>p.2 == 2).map (·.1)
def ordB (md:Region.Mode) (ops:Array Oper) (z:List Nat):List (Nat × Nat)→Array Bool→Bool
 | [],listed=>(Region.ready md ops listed).isEmpty
 | (i,k) :: r,listed=>
  (if k=0 then (Region.ready md ops listed).contains i && Region.free md ops listed i && z.all fun j=>waitsT md ops ops.size j i
  else Region.ready md ops listed == [i] && (k == 1 || z.contains i && r.all fun p=>p.2 != 0)) && ordB md ops z r (listed.setIfInBounds i true)
def wpOrd (P:Program) (ops:Array Oper) (z:List Nat) (G:World→Prop) (Q:Act→World→Prop):List (Nat × Nat)→Act→World→Prop
 | [],a,w=>Q a w
 | (i,0) :: r,a,w=>∃ o v,ops[i]? = some o∧YieldsG P ops G o v a∧wpOrd P ops z G Q r (a.put o.dst v) w
 | (i,k+1) :: r,a,w=>gOp P ops i (fun a' w'=>(k=0→G w')∧wpOrd P ops z G Q r a' w') a w
theorem wpAnyG_ord {z:List Nat} {Q:Act→World→Prop} (hs:Region.noSelect ops=true):∀ (ord:List (Nat × Nat)) (listed:Array Bool) (a:Act) (w:World),Shut md ops listed→(G w∨∀ p ∈ ord,p.2≠0) →
  ordB md ops z ord listed=true→wpOrd P ops z G Q ord a w→wpAnyG P md ops z G Q ord.length listed a w
 | [],_,_,_,_,_,hB,h=>⟨by simpa [ordB] using hB,h⟩
 | (i,0) :: r,listed,a,w,hS,hG,hB,h=>by
  have hG:G w:=by
   rcases hG with h | h
   ·exact h
   ·exact absurd rfl (h (i,0) (by simp))
  simp only [ordB,if_true,Bool.and_eq_true] at hB
  obtain ⟨⟨⟨hr,hf⟩,hz⟩,hB'⟩:=hB
  obtain ⟨o,v,ho,hy,hn⟩:=h
  have hr':i ∈ Region.ready md ops listed:=by simpa using hr
  refine wpAnyG_first ho (Region.noSelect_spec hs) (fun j hj=>?_) r.length listed a w hG hS (Region.free_spec ho hf) hr' hy ?_
  ·have:=List.all_eq_true.1 hz j (by simpa using hj)
   exact this
  ·exact wpAnyG_ord hs r _ _ w (hS.next hr') (.inl hG) hB' hn
 | (i,k+1) :: r,listed,a,w,hS,hG,hB,h=>by
  have h0:¬ (k+1=0):=by omega
  simp only [ordB,if_neg h0,Bool.and_eq_true] at hB
  obtain ⟨⟨hr,hk⟩,hB'⟩:=hB
  have hr1:Region.ready md ops listed=[i]:=by simpa using hr
  have hin:i ∈ Region.ready md ops listed:=by rw [hr1];simp
  refine ⟨(fun h0=>by rw [hr1] at h0;cases h0),fun j hj=>?_⟩
  rw [hr1] at hj
  obtain rfl:j=i:=by simpa using hj
  refine gOp_mono (fun a' w' ⟨hG',hn⟩=>?_) h
  by_cases hk0:k=0
  ·exact ⟨fun _=>hG' hk0,wpAnyG_ord hs r _ a' w' (hS.next hin) (.inl (hG' hk0)) hB' hn⟩
  ·have hk1:(k+1 == 1)=false:=by simpa using hk0
   simp only [hk1,Bool.false_or,Bool.and_eq_true] at hk
   refine ⟨(fun hz=>by rw [hk.1] at hz;cases hz),wpAnyG_ord hs r _ a' w' (hS.next hin) (.inr fun p hp=>?_) hB' hn⟩
   have:=List.all_eq_true.1 hk.2 p hp
   simpa using this
theorem wp_region_ord {id:Nat} {Q:Exit→Act→World→Prop} {a:Act} {w:World} {l:List Oper} (ord:List (Nat × Nat)) (G:World→Prop) (hm:P.follows .mixedOrders=true)
  (hB:(Region.noSelect l.toArray && ord.length == l.toArray.size && ordB .any l.toArray (lateOf ord) ord (Array.replicate l.toArray.size false))=true) (hG:G w.drew)
  (h:wpOrd P l.toArray (lateOf ord) G (fun a' w'=>Q .normal a' w') ord a w.drew):(Code.region id l.toArray true).wp P Q a w:=by
 simp only [Bool.and_eq_true,beq_iff_eq] at hB
 obtain ⟨⟨hs,hl⟩,hB⟩:=hB
 refine wp_region_any hm ?_
 have hshut:Shut .any l.toArray (Array.replicate l.toArray.size false):=by
  intro j o ho hx
  have h0:(Array.replicate l.toArray.size false).getD j false=false:=by
   rw [Array.getD_eq_getD_getElem?,Array.getElem?_replicate];split <;> rfl
  rw [h0] at hx;cases hx
 have:=wpAnyG_ord (z:=lateOf ord) (md:=.any) hs ord _ a w.drew hshut (.inl hG) hB h
 rw [hl] at this
 exact wpAny_of_G (fun _ _ h=>h) _ _ _ _ this
theorem wpOrd_pure {z:List Nat} {Q:Act→World→Prop} {i:Nat} {r:List (Nat × Nat)} {a:Act} {w:World} {o:Oper} (ho:ops[i]? = some o) (hw:Region.wanted o (yielded ops a.tmps)=true) (v:Value)
  (h:∀ w',G w'→Gives v w' ((execOp a.eval o).run P w')) (hn:∀ K:Act→Prop,(∀ a',wpOrd P ops z G Q r a' w→K a')→K (a.put o.dst v)):wpOrd P ops z G Q ((i,0) :: r) a w:=
 ⟨o,v,ho, .inl ⟨hw,h⟩,hn _ (fun _ h=>h)⟩
theorem wpOrd_run {z:List Nat} {Q:Act→World→Prop} {i:Nat} {r:List (Nat × Nat)} {a:Act} {w:World} {o:Oper} (ho:ops[i]? = some o) (hw:Region.wanted o (yielded ops a.tmps)=true)
  (h:∀ K:Act→World→Prop,(∀ a' w',G w'→wpOrd P ops z G Q r a' w'→K a' w')→gRun P o a w K):wpOrd P ops z G Q ((i,1) :: r) a w:=by
 show gOp P ops i _ a w
 unfold gOp
 simp only [ho,hw,if_true]
 exact h _ (fun a' w' hg hk=>⟨fun _=>hg,hk⟩)
theorem wpOrd_last {z:List Nat} {Q:Act→World→Prop} {i:Nat} {r:List (Nat × Nat)} {a:Act} {w:World} {o:Oper} (ho:ops[i]? = some o) (hw:Region.wanted o (yielded ops a.tmps)=true)
  (h:∀ K:Act→World→Prop,(∀ a' w',wpOrd P ops z G Q r a' w'→K a' w')→gRun P o a w K):wpOrd P ops z G Q ((i,2) :: r) a w:=by
 show gOp P ops i _ a w
 unfold gOp
 simp only [ho,hw,if_true]
 exact h _ (fun a' w' hk=>⟨(fun h=>by cases h),hk⟩)
theorem wpOrd_end {z:List Nat} {Q:Act→World→Prop} {a:Act} {w:World} (h:Q a w):wpOrd P ops z G Q [] a w:=h
theorem gRun_app {w:World} {o:Oper} {a:Act} {K:Act→World→Prop} (s x:Operand) (t:TypeId)
  (ho:o.op=.call { callee:=.builtin .append,args:=#[s,x],argTypes:=#[t,t] })
  (e:TypeId) (i:TypeInfo) (z:Value) (size bytes:Nat) (ht:P.underlying t=some (.slice e)) (hi:P.info? e=some i) (hz:i.zero=some z)
  (hsize:i.size=size) (hby:i.bytes=bytes) (hzs:z.cells.size=size) (hsz:0<size)
  (v:Value) (n:Nat) (xs:List Value) (hs:a.eval s=v) (hown:Sl w e size v n xs)
  (ad:Addr) (m c:Nat) (news:List Value) (hx:a.eval x=.slice (some ad) m c) (hl:news.length=m*size) (hnews:∀ j u,news[j]? = some u→w.cell? (ad.add j)=some u) (h1:∀ u ∈ news,u.oneCell'=true)
  (h63:n+m≤maxLen) (hbytes:(n+m)*bytes≤140737488355328)
  (h:∀ v' w',Sl w' e size v' (n+m) (xs ++ news)→Keeps (ownB v) w w'→(∀ k,ownB v' k→ownB v k∨w.heap.size≤k)→K (a.put o.dst v') w'):gRun P o a w K:=by
 obtain ⟨v',w',hr,h2,h3,h4⟩:=run_app (P:=P) w t o.type e i z size bytes ht hi hz hsize hby hzs hsz v n xs hown ad m c news hl hnews h1 h63 hbytes
 unfold gRun execOp
 simp only [ho,resolve,invoke,builtin,Sem.run_bind,Sem.run_pure,Result.andThen_ok,List.map_toArray,List.map_cons,List.map_nil,hs,hx,hr]
 exact h v' w' h2 h3 h4
theorem gRun_app_room {w:World} {o:Oper} {a:Act} {K:Act→World→Prop} (s x:Operand) (t:TypeId)
  (ho:o.op=.call { callee:=.builtin .append,args:=#[s,x],argTypes:=#[t,t] })
  (e:TypeId) (i:TypeInfo) (size:Nat) (ht:P.underlying t=some (.slice e)) (hi:P.info? e=some i) (hsize:i.size=size)
  (g off n cap:Nat) (cur:List Value) (hs:a.eval s=.slice (some ⟨g,off,none⟩) n cap) (hb:Blk w g cur e)
  (ad:Addr) (m c:Nat) (news:List Value) (hx:a.eval x=.slice (some ad) m c) (hl:news.length=m*size) (hnews:∀ j u,news[j]? = some u→w.cell? (ad.add j)=some u) (h1:∀ u ∈ news,u.oneCell'=true)
  (hr:n+m≤cap) (hoc:off+cap*size≤cur.length)
  (h:K (a.put o.dst (.slice (some ⟨g,off,none⟩) (n+m) cap)) (w.setRow g (cur.take (off+n*size) ++ news ++ cur.drop (off+n*size+news.length)).toArray)):gRun P o a w K:=by
 have hr:=run_app_room (P:=P) w t o.type e i size ht hi hsize g off n cap cur hb ad m c news hl hnews h1 hr hoc
 unfold gRun execOp
 simp only [ho,resolve,invoke,builtin,Sem.run_bind,Sem.run_pure,Result.andThen_ok,List.map_toArray,List.map_cons,List.map_nil,hs,hx,hr]
 exact h
end
end
section
open Go.RowKit
inductive RO where
 | fin
 | pure (i:Nat) (r:RO)
 | free (i:Nat) (r:RO)
 | base (i:Nat) (r:RO)
 | run (i:Nat) (r:RO)
 | two (i:Nat) (r:RO) (j:Nat) (s:RO)
 | swi (z:List Nat) (r:RO)
namespace RO
def size:RO→Nat
 | fin=>0
 | pure _ r=>r.size+1
 | free _ r=>r.size+1
 | base _ r=>r.size+1
 | run _ r=>r.size+1
 | two _ r _ _=>r.size+1
 | swi _ r=>r.size
def noPure:RO→Bool
 | fin=>true
 | pure _ _=>false
 | free _ r=>r.noPure
 | base _ r=>r.noPure
 | run _ r=>r.noPure
 | two _ r _ s=>r.noPure && s.noPure
 | swi _ _=>true
end RO
section
variable {P:Program} {ops:Array Oper} {md:Region.Mode}
def roB (md:Region.Mode) (ops:Array Oper):RO→List Nat→Array Bool→Bool
 | .fin,_,listed=>(Region.ready md ops listed).isEmpty
 | .pure i r,z,listed=>(Region.ready md ops listed).contains i && Region.free md ops listed i && (z.all fun j=>waitsT md ops ops.size j i) && roB md ops r z (listed.setIfInBounds i true)
 | .free i r,z,listed=>(Region.ready md ops listed).contains i && Region.free md ops listed i && roB md ops r z (listed.setIfInBounds i true)
 | .base i r,z,listed=>(Region.ready md ops listed).contains i && Region.free md ops listed i && roB md ops r z (listed.setIfInBounds i true)
 | .run i r,z,listed=>Region.ready md ops listed == [i] && (!z.contains i || r.noPure) && roB md ops r z (listed.setIfInBounds i true)
 | .two i r j s,z,listed=>Region.ready md ops listed == [i,j] && (!z.contains i || r.noPure) && (!z.contains j || s.noPure) && r.size == s.size && roB md ops r z (listed.setIfInBounds i true) && roB md ops s z (listed.setIfInBounds j true)
 | .swi z' r,z,listed=>((List.range ops.size).all fun k=>listed.getD k true || z.contains k) && roB md ops r z' listed
def roRaw (P:Program) (ops:Array Oper) (B:World→Prop) (Q:Act→World→Prop):RO→List Nat→(World→Prop)→Act→World→Prop
 | .fin,_,_,a,w=>Q a w
 | .pure i r,z,G,a,w=>∃ o v,ops[i]? = some o∧YieldsG P ops G o v a∧roRaw P ops B Q r z G (a.put o.dst v) w
 | .free i r,z,G,a,w=>∃ o v,ops[i]? = some o∧YieldsG P ops (fun _=>True) o v a∧roRaw P ops B Q r z G (a.put o.dst v) w
 | .base i r,z,G,a,w=>∃ o v,ops[i]? = some o∧YieldsG P ops B o v a∧roRaw P ops B Q r z G (a.put o.dst v) w
 | .run i r,z,G,a,w=>gOp P ops i (fun a' w'=>(B w→B w')∧(z.contains i=false→G w→G w')∧roRaw P ops B Q r z G a' w') a w
 | .two i r j s,z,G,a,w=>gOp P ops i (fun a' w'=>(B w→B w')∧(z.contains i=false→G w→G w')∧roRaw P ops B Q r z G a' w') a w∧gOp P ops j (fun a' w'=>(B w→B w')∧(z.contains j=false→G w→G w')∧roRaw P ops B Q s z G a' w') a w
 | .swi z' r,_,_,a,w=>∃ G':World→Prop,G' w∧roRaw P ops B Q r z' G' a w
def wpAnyH (P:Program) (md:Region.Mode) (ops:Array Oper) (B:World→Prop) (z:List Nat) (G:World→Prop) (Q:Act→World→Prop):Nat→Array Bool→Act→World→Prop
 | 0,listed,a,w=>Region.ready md ops listed=[]∧Q a w
 | f+1,listed,a,w=>
  (Region.ready md ops listed=[]→Q a w) ∧
  ∀ i ∈ Region.ready md ops listed,gOp P ops i (fun a' w'=>(B w→B w')∧(z.contains i=false→G w→G w')∧wpAnyH P md ops B z G Q f (listed.setIfInBounds i true) a' w') a w
variable {B:World→Prop}
theorem wpAny_of_H {z:List Nat} {G:World→Prop} {Q:Act→World→Prop} {Q':Exit→Act→World→Prop} (hQ:∀ a w,Q a w→Q' .normal a w):∀ (f:Nat) (listed:Array Bool) (a:Act) (w:World),
  wpAnyH P md ops B z G Q f listed a w→wpAny P md ops Q' f listed a w
 | 0,_,_,_,h=>⟨h.1,hQ _ _ h.2⟩
 | f+1,_,_,_,h=>⟨fun h0=>hQ _ _ (h.1 h0),fun i hi=>wpOp_of_gOp (gOp_mono (fun a w ⟨_,_,hk⟩=>wpAny_of_H hQ f _ a w hk) (h.2 i hi))⟩
theorem ready_lt {listed:Array Bool} {i:Nat} (hi:i ∈ Region.ready md ops listed):i<ops.size∧listed.getD i true=false:=by
 obtain ⟨hun,oi,hoi,_⟩:=mem_ready.1 hi
 refine ⟨?_,hun⟩
 rcases Nat.lt_or_ge i ops.size with h | h
 ·exact h
 ·rw [Array.getElem?_eq_none h] at hoi;cases hoi
theorem wpAnyH_swi {z z':List Nat} {G G':World→Prop} {Q:Act→World→Prop}:∀ (fuel:Nat) (listed:Array Bool) (a:Act) (w:World),
  (∀ k,k<ops.size→listed.getD k true=false→z.contains k=true)→wpAnyH P md ops B z' G' Q fuel listed a w→wpAnyH P md ops B z G Q fuel listed a w
 | 0,_,_,_,_,h=>h
 | f+1,listed,a,w,hz,h=>⟨h.1,fun i hi=>gOp_mono (fun a' w' ⟨hb,_,hk⟩=>by
   obtain ⟨hil,hun⟩:=ready_lt hi
   refine ⟨hb,fun hc=>?_,wpAnyH_swi f _ a' w' (fun k hk hl=>?_) hk⟩
   ·have:=hz i hil hun
    rw [hc] at this;cases this
   ·by_cases hki:i=k
    ·subst hki
     exact hz i hil hun
    ·rw [getD_set_ne true hki] at hl;exact hz k hk hl) (h.2 i hi)⟩
theorem wpAnyH_first {G Gy:World→Prop} {z:List Nat} {Q:Act→World→Prop} {i:Nat} {oi:Oper} {v:Value} (hi:ops[i]? = some oi) (hsel:∀ (j:Nat) (o:Oper) cs b,ops[j]? = some o→o.op≠.select cs b)
  (hz:(Gy=G∧∀ j,z.contains j=true→waitsT md ops ops.size j i=true)∨Gy=B∨∀ w,Gy w) :
  ∀ (fuel:Nat) (listed:Array Bool) (a:Act) (w:World),Gy w→Shut md ops listed →
   (∀ j oj,ops[j]? = some oj→j≠i→listed.getD j true=false→(∀ e ∈ oj.after,Region.binds md e=true→e.on≠i)→oi.apart ops oj=true) →
   i ∈ Region.ready md ops listed→YieldsG P ops Gy oi v a →
   wpAnyH P md ops B z G Q fuel (listed.setIfInBounds i true) (a.put oi.dst v) w→wpAnyH P md ops B z G Q (fuel+1) listed a w:=by
 intro fuel
 induction fuel with
 | zero=>
  intro listed a w hG hS _ hr hy H
  refine ⟨fun h=>(by rw [h] at hr;cases hr),fun j hj=>?_⟩
  by_cases hji:j=i
  ·subst hji
   exact hy.gOp hi hG ⟨fun h=>h,fun _ h=>h,H⟩
  ·have:=ready_mono hj hji
   rw [H.1] at this
   cases this
 | succ fuel ih=>
  intro listed a w hG hS hfree hr hy H
  refine ⟨fun h=>(by rw [h] at hr;cases hr),fun j hj=>?_⟩
  by_cases hji:j=i
  ·subst hji
   exact hy.gOp hi hG ⟨fun h=>h,fun _ h=>h,H⟩
  ·have h1:=H.2 j (ready_mono hj hji)
   obtain ⟨hjun,oj,hoj,hall⟩:=mem_ready.1 hj
   have hin:listed.getD i false=false:=by
    have h0:=(mem_ready.1 hr).1
    rcases Nat.lt_or_ge i listed.size with h' | h'
    ·simp [h'] at h0 ⊢;exact h0
    ·simp [Array.getElem?_eq_none h'] at h0
   have hnot:∀ e ∈ oj.after,Region.binds md e=true→e.on≠i:=fun e he hb heq=>by
    have h1:=hall e he hb
    rw [heq,hin] at h1
    cases h1
   have h2:=gOp_put hoj (hfree j oj hoj hji hjun hnot) (fun cs b=>hsel i oi cs b hi) (fun cs b=>hsel j oj cs b hoj) hy h1
   have hfree':∀ k ok,ops[k]? = some ok→k≠i→(listed.setIfInBounds j true).getD k true=false →
     (∀ e ∈ ok.after,Region.binds md e=true→e.on≠i)→oi.apart ops ok=true:=fun k ok hk hki hun hno=>by
    refine hfree k ok hk hki ?_ hno
    by_cases hjk:j=k
    ·subst hjk;exact hjun
    ·rw [getD_set_ne true hjk] at hun;exact hun
   refine gOp_mono (fun a' w' ⟨hy',hB',hG',h3⟩=>?_) h2
   refine ⟨hB',hG',ih (listed.setIfInBounds j true) a' w' ?_ (hS.next hj) hfree' (ready_mono hr (Ne.symm hji)) hy' ?_⟩
   ·rcases hz with ⟨rfl,hzz⟩ | rfl | h2
    ·refine hG' ?_ hG
     cases hc:z.contains j
     ·rfl
     ·have:=hS.waits _ j i ⟨oj,hoj,hall⟩ (hzz j hc)
      rw [hin] at this;cases this
    ·exact hB' hG
    ·exact h2 w'
   ·rw [Array.setIfInBounds_comm _ _ hji]
    exact h3
theorem wpAnyH_ro {Q:Act→World→Prop} (hs:Region.noSelect ops=true):∀ (t:RO) (z:List Nat) (G:World→Prop) (listed:Array Bool) (a:Act) (w:World),Shut md ops listed→B w→(G w∨t.noPure=true) →
  roB md ops t z listed=true→roRaw P ops B Q t z G a w→wpAnyH P md ops B z G Q t.size listed a w
 | .fin,_,_,_,_,_,_,_,_,hB,h=>⟨by simpa [roB] using hB,h⟩
 | .pure i r,z,G,listed,a,w,hS,hb,hG,hB,h=>by
  have hG:G w:=by
   rcases hG with h | h
   ·exact h
   ·simp [RO.noPure] at h
  simp only [roB,Bool.and_eq_true] at hB
  obtain ⟨⟨⟨hr,hf⟩,hz⟩,hB'⟩:=hB
  obtain ⟨o,v,ho,hy,hn⟩:=h
  have hr':i ∈ Region.ready md ops listed:=by simpa using hr
  refine wpAnyH_first ho (Region.noSelect_spec hs) (.inl ⟨rfl,fun j hj=>?_⟩) r.size listed a w hG hS (Region.free_spec ho hf) hr' hy ?_
  ·exact List.all_eq_true.1 hz j (by simpa using hj)
  ·exact wpAnyH_ro hs r z G _ _ w (hS.next hr') hb (.inl hG) hB' hn
 | .free i r,z,G,listed,a,w,hS,hb,hG,hB,h=>by
  simp only [roB,Bool.and_eq_true] at hB
  obtain ⟨⟨hr,hf⟩,hB'⟩:=hB
  obtain ⟨o,v,ho,hy,hn⟩:=h
  have hr':i ∈ Region.ready md ops listed:=by simpa using hr
  refine wpAnyH_first ho (Region.noSelect_spec hs) (.inr (.inr fun _=>trivial)) r.size listed a w trivial hS (Region.free_spec ho hf) hr' hy ?_
  exact wpAnyH_ro hs r z G _ _ w (hS.next hr') hb hG hB' hn
 | .base i r,z,G,listed,a,w,hS,hb,hG,hB,h=>by
  simp only [roB,Bool.and_eq_true] at hB
  obtain ⟨⟨hr,hf⟩,hB'⟩:=hB
  obtain ⟨o,v,ho,hy,hn⟩:=h
  have hr':i ∈ Region.ready md ops listed:=by simpa using hr
  refine wpAnyH_first ho (Region.noSelect_spec hs) (.inr (.inl rfl)) r.size listed a w hb hS (Region.free_spec ho hf) hr' hy ?_
  exact wpAnyH_ro hs r z G _ _ w (hS.next hr') hb hG hB' hn
 | .run i r,z,G,listed,a,w,hS,hb,hG,hB,h=>by
  simp only [roB,Bool.and_eq_true] at hB
  obtain ⟨⟨hr,hk⟩,hB'⟩:=hB
  have hr1:Region.ready md ops listed=[i]:=by simpa using hr
  have hin:i ∈ Region.ready md ops listed:=by rw [hr1];simp
  refine ⟨(fun h0=>by rw [hr1] at h0;cases h0),fun j hj=>?_⟩
  rw [hr1] at hj
  obtain rfl:j=i:=by simpa using hj
  refine gOp_mono (fun a' w' ⟨hb',hG',hn⟩=>⟨hb',hG',wpAnyH_ro hs r z G _ a' w' (hS.next hin) (hb' hb) ?_ hB' hn⟩) h
  cases hc:z.contains j
  ·rcases hG with hG | hG
   ·exact .inl (hG' hc hG)
   ·exact .inr hG
  ·rw [hc] at hk;exact .inr (by simpa using hk)
 | .two i r k s,z,G,listed,a,w,hS,hb,hG,hB,h=>by
  simp only [roB,Bool.and_eq_true,beq_iff_eq] at hB
  obtain ⟨⟨⟨⟨⟨hr,hki⟩,hkk⟩,hsz⟩,hB1⟩,hB2⟩:=hB
  have hr1:Region.ready md ops listed=[i,k]:=by simpa using hr
  refine ⟨(fun h0=>by rw [hr1] at h0;cases h0),fun j hj=>?_⟩
  have hin:j ∈ Region.ready md ops listed:=hj
  rw [hr1] at hj
  have hj:j=i∨j=k:=by simpa using hj
  rcases hj with rfl | rfl
  ·refine gOp_mono (fun a' w' ⟨hb',hG',hn⟩=>⟨hb',hG',wpAnyH_ro hs r z G _ a' w' (hS.next hin) (hb' hb) ?_ hB1 hn⟩) h.1
   cases hc:z.contains j
   ·rcases hG with hG | hG
    ·exact .inl (hG' hc hG)
    ·simp only [RO.noPure,Bool.and_eq_true] at hG;exact .inr hG.1
   ·rw [hc] at hki;exact .inr (by simpa using hki)
  ·show gOp P ops j (fun a' w'=>(B w→B w')∧(z.contains j=false→G w→G w')∧wpAnyH P md ops B z G Q r.size (listed.setIfInBounds j true) a' w') a w
   rw [hsz]
   refine gOp_mono (fun a' w' ⟨hb',hG',hn⟩=>⟨hb',hG',wpAnyH_ro hs s z G _ a' w' (hS.next hin) (hb' hb) ?_ hB2 hn⟩) h.2
   cases hc:z.contains j
   ·rcases hG with hG | hG
    ·exact .inl (hG' hc hG)
    ·simp only [RO.noPure,Bool.and_eq_true] at hG;exact .inr hG.2
   ·rw [hc] at hkk;exact .inr (by simpa using hkk)
 | .swi z' r,z,G,listed,a,w,hS,hb,hG,hB,h=>by
  simp only [roB,Bool.and_eq_true] at hB
  obtain ⟨hz,hB'⟩:=hB
  obtain ⟨G',hG',hn⟩:=h
  refine wpAnyH_swi _ listed a w (fun k hk hl=>?_) (wpAnyH_ro hs r z' G' listed a w hS hb (.inl hG') hB' hn)
  have:=List.all_eq_true.1 hz k (List.mem_range.2 hk)
  rw [hl] at this;simpa using this
structure wpROB (P:Program) (ops:Array Oper) (B:World→Prop) (Q:Act→World→Prop) (t:RO) (z:List Nat) (G:World→Prop) (a:Act) (w:World):Prop where
 raw:roRaw P ops B Q t z G a w
abbrev wpRO (P:Program) (ops:Array Oper) (Q:Act→World→Prop) (t:RO) (z:List Nat) (G:World→Prop) (a:Act) (w:World):Prop:=wpROB P ops (fun _=>True) Q t z G a w
theorem wp_region_rob {id:Nat} {Q:Exit→Act→World→Prop} {a:Act} {w:World} {l:List Oper} (t:RO) (z:List Nat) (B G:World→Prop) (hm:P.follows .mixedOrders=true)
  (hB:(Region.noSelect l.toArray && t.size == l.toArray.size && roB .any l.toArray t z (Array.replicate l.toArray.size false))=true) (hb:B w.drew) (hG:G w.drew)
  (h:wpROB P l.toArray B (fun a' w'=>Q .normal a' w') t z G a w.drew):(Code.region id l.toArray true).wp P Q a w:=by
 simp only [Bool.and_eq_true,beq_iff_eq] at hB
 obtain ⟨⟨hs,hl⟩,hB⟩:=hB
 refine wp_region_any hm ?_
 have hshut:Shut .any l.toArray (Array.replicate l.toArray.size false):=by
  intro j o ho hx
  have h0:(Array.replicate l.toArray.size false).getD j false=false:=by
   rw [Array.getD_eq_getD_getElem?,Array.getElem?_replicate];split <;> rfl
  rw [h0] at hx;cases hx
 have:=wpAnyH_ro (md:=.any) hs t z G _ a w.drew hshut hb (.inl hG) hB h.raw
 rw [hl] at this
 exact wpAny_of_H (fun _ _ h=>h) _ _ _ _ this
theorem wp_region_ro {id:Nat} {Q:Exit→Act→World→Prop} {a:Act} {w:World} {l:List Oper} (t:RO) (z:List Nat) (G:World→Prop) (hm:P.follows .mixedOrders=true)
  (hB:(Region.noSelect l.toArray && t.size == l.toArray.size && roB .any l.toArray t z (Array.replicate l.toArray.size false))=true) (hG:G w.drew)
  (h:wpRO P l.toArray (fun a' w'=>Q .normal a' w') t z G a w.drew):(Code.region id l.toArray true).wp P Q a w:=wp_region_rob t z _ G hm hB trivial hG h
section
variable {z:List Nat} {G:World→Prop} {Q:Act→World→Prop} {i:Nat} {r:RO} {a:Act} {w:World} {o:Oper}
theorem wpRO_pure (ho:ops[i]? = some o) (hw:Region.wanted o (yielded ops a.tmps)=true) (v:Value)
  (h:∀ w',G w'→Gives v w' ((execOp a.eval o).run P w')) (hn:∀ K:Act→Prop,(∀ a',wpROB P ops B Q r z G a' w→K a')→K (a.put o.dst v)):wpROB P ops B Q (.pure i r) z G a w:=
 ⟨⟨o,v,ho, .inl ⟨hw,h⟩,hn (fun a'=>roRaw P ops B Q r z G a' w) (fun _ h=>h.raw)⟩⟩
theorem wpRO_base (ho:ops[i]? = some o) (hw:Region.wanted o (yielded ops a.tmps)=true) (v:Value)
  (h:∀ w',B w'→Gives v w' ((execOp a.eval o).run P w')) (hn:∀ K:Act→Prop,(∀ a',wpROB P ops B Q r z G a' w→K a')→K (a.put o.dst v)):wpROB P ops B Q (.base i r) z G a w:=
 ⟨⟨o,v,ho, .inl ⟨hw,h⟩,hn (fun a'=>roRaw P ops B Q r z G a' w) (fun _ h=>h.raw)⟩⟩
theorem wpRO_free (ho:ops[i]? = some o) (hw:Region.wanted o (yielded ops a.tmps)=true) (v:Value)
  (h:∀ w',Gives v w' ((execOp a.eval o).run P w')) (hn:∀ K:Act→Prop,(∀ a',wpROB P ops B Q r z G a' w→K a')→K (a.put o.dst v)):wpROB P ops B Q (.free i r) z G a w:=
 ⟨⟨o,v,ho, .inl ⟨hw,fun w' _=>h w'⟩,hn (fun a'=>roRaw P ops B Q r z G a' w) (fun _ h=>h.raw)⟩⟩
theorem wpRO_skip (ho:ops[i]? = some o) (hw:Region.wanted o (yielded ops a.tmps)=false)
  (hn:∀ K:Act→Prop,(∀ a',wpROB P ops B Q r z G a' w→K a')→K (a.put o.dst undef)):wpROB P ops B Q (.pure i r) z G a w:=
 ⟨⟨o,undef,ho, .inr ⟨hw,rfl⟩,hn (fun a'=>roRaw P ops B Q r z G a' w) (fun _ h=>h.raw)⟩⟩
theorem wpRO_skipB (ho:ops[i]? = some o) (hw:Region.wanted o (yielded ops a.tmps)=false)
  (hn:∀ K:Act→Prop,(∀ a',wpROB P ops B Q r z G a' w→K a')→K (a.put o.dst undef)):wpROB P ops B Q (.base i r) z G a w:=
 ⟨⟨o,undef,ho, .inr ⟨hw,rfl⟩,hn (fun a'=>roRaw P ops B Q r z G a' w) (fun _ h=>h.raw)⟩⟩
theorem wpRO_skipF (ho:ops[i]? = some o) (hw:Region.wanted o (yielded ops a.tmps)=false)
  (hn:∀ K:Act→Prop,(∀ a',wpROB P ops B Q r z G a' w→K a')→K (a.put o.dst undef)):wpROB P ops B Q (.free i r) z G a w:=
 ⟨⟨o,undef,ho, .inr ⟨hw,rfl⟩,hn (fun a'=>roRaw P ops B Q r z G a' w) (fun _ h=>h.raw)⟩⟩
theorem gOp_run {K:Act→World→Prop} (ho:ops[i]? = some o) (hw:Region.wanted o (yielded ops a.tmps)=true) (h:gRun P o a w K):gOp P ops i K a w:=by
 unfold gOp;simp only [ho,hw,if_true];exact h
theorem wpRO_runB (ho:ops[i]? = some o) (hw:Region.wanted o (yielded ops a.tmps)=true)
  (h:∀ K:Act→World→Prop,(∀ a' w',(B w→B w')→(G w→G w')→wpROB P ops B Q r z G a' w'→K a' w')→gRun P o a w K):wpROB P ops B Q (.run i r) z G a w:=
 ⟨gOp_run ho hw (h _ (fun a' w' hb hg hk=>⟨hb,fun _=>hg,hk.raw⟩))⟩
theorem wpRO_run (ho:ops[i]? = some o) (hw:Region.wanted o (yielded ops a.tmps)=true)
  (h:∀ K:Act→World→Prop,(∀ a' w',(G w→G w')→wpRO P ops Q r z G a' w'→K a' w')→gRun P o a w K):wpRO P ops Q (.run i r) z G a w:=
 wpRO_runB ho hw fun K hK=>h K fun a' w' hg hk=>hK a' w' (fun h=>h) hg hk
theorem wpRO_chgB (ho:ops[i]? = some o) (hz:z.contains i=true) (hw:Region.wanted o (yielded ops a.tmps)=true)
  (h:∀ K:Act→World→Prop,(∀ a' w',(B w→B w')→wpROB P ops B Q r z G a' w'→K a' w')→gRun P o a w K):wpROB P ops B Q (.run i r) z G a w:=
 ⟨gOp_run ho hw (h _ (fun a' w' hb hk=>⟨hb,(fun hc=>by rw [hz] at hc;cases hc),hk.raw⟩))⟩
theorem wpRO_chg (ho:ops[i]? = some o) (hz:z.contains i=true) (hw:Region.wanted o (yielded ops a.tmps)=true)
  (h:∀ K:Act→World→Prop,(∀ a' w',wpRO P ops Q r z G a' w'→K a' w')→gRun P o a w K):wpRO P ops Q (.run i r) z G a w:=
 wpRO_chgB ho hz hw fun K hK=>h K fun a' w' hk=>hK a' w' (fun h=>h) hk
theorem wpRO_two {j:Nat} {s:RO} {o':Oper} (ho:ops[i]? = some o) (hw:Region.wanted o (yielded ops a.tmps)=true) (ho':ops[j]? = some o') (hw':Region.wanted o' (yielded ops a.tmps)=true)
  (h:∀ K:Act→World→Prop,(∀ a' w',(B w→B w')→(z.contains i=false→G w→G w')→wpROB P ops B Q r z G a' w'→K a' w')→gRun P o a w K)
  (h':∀ K:Act→World→Prop,(∀ a' w',(B w→B w')→(z.contains j=false→G w→G w')→wpROB P ops B Q s z G a' w'→K a' w')→gRun P o' a w K):wpROB P ops B Q (.two i r j s) z G a w:=
 ⟨⟨gOp_run ho hw (h _ (fun a' w' hb hg hk=>⟨hb,hg,hk.raw⟩)),gOp_run ho' hw' (h' _ (fun a' w' hb hg hk=>⟨hb,hg,hk.raw⟩))⟩⟩
theorem wpRO_swi {z':List Nat} (G':World→Prop) (hG:G' w) (h:wpROB P ops B Q r z' G' a w):wpROB P ops B Q (.swi z' r) z G a w:=⟨⟨G',hG,h.raw⟩⟩
theorem wpRO_fin (h:Q a w):wpROB P ops B Q .fin z G a w:=⟨h⟩
def rowB (P:Program) (t:TypeId) (n:Nat):Bool:=(match P.underlying t with | some d=>d.isRow | none=>false) && (P.info? t).map (·.size) == some n
theorem rowB_spec {t:TypeId} {n:Nat} (h:rowB P t n=true):∃ d,P.underlying t=some d∧d.isRow=true∧(P.info? t).map (·.size)=some n:=by
 unfold rowB at h
 simp only [Bool.and_eq_true,beq_iff_eq] at h
 cases hd:P.underlying t with
 | none=>rw [hd] at h;cases h.1
 | some d=>rw [hd] at h;exact ⟨d,rfl,h.1,h.2⟩
theorem rangeAt2 {b off:Nat} {v0 v1:Value} (h0:w.cell? ⟨b,off,none⟩=some v0) (h1:w.cell? ⟨b,off+1,none⟩=some v1):w.rangeAt b off [v0,v1]:=by
 intro j v hj
 match j with
 | 0=>simp at hj;subst hj;exact h0
 | 1=>simp at hj;subst hj;exact h1
 | j+2=>simp at hj
theorem gives_agg2 {t:TypeId} {x:Operand} {b off:Nat} {v0 v1:Value} (ho:o.op=.load t x) (hr:rowB P t 2=true) (hx:a.eval x=.pointer (some ⟨b,off,none⟩))
  (h0:w.cell? ⟨b,off,none⟩=some v0) (h1:w.cell? ⟨b,off+1,none⟩=some v1):Gives (.agg #[v0,v1]) w ((execOp a.eval o).run P w):=by
 obtain ⟨d,hu,hd,hi⟩:=rowB_spec hr
 have:=run_loadAt_mid (P:=P) w b off t [v0,v1] d (rangeAt2 h0 h1) hu hd hi
 unfold Gives execOp
 simp only [ho,hx,Sem.run_bind,Sem.run_pure,Result.andThen_ok,this]
theorem wpList_agg2 {rest:List Oper} {Q:Exit→Act→World→Prop} (hgd:o.guard=none) (t:TypeId) (x:Operand) (ho:o.op=.load t x) (hr:rowB P t 2=true) (b off:Nat) (hx:a.eval x=.pointer (some ⟨b,off,none⟩)) (v0 v1:Value)
  (h0:w.cell? ⟨b,off,none⟩=some v0) (h1:w.cell? ⟨b,off+1,none⟩=some v1) (h:wpList P ops Q rest (a.put o.dst (.agg #[v0,v1])) w):wpList P ops Q (o :: rest) a w:=by
 obtain ⟨d,hu,hd,hi⟩:=rowB_spec hr
 exact wpList_load_mid hgd t x ho b off hx [v0,v1] d (rangeAt2 h0 h1) hu hd hi h
end
end
end
section
open Go.RowKit
theorem run_appR {P:Program} (w:World) (t ty e:TypeId) (i:TypeInfo) (z:Value) (size bytes:Nat) (ht:P.underlying t=some (.slice e)) (hi:P.info? e=some i) (hz:i.zero=some z)
  (hsize:i.size=size) (hby:i.bytes=bytes) (hzs:z.cells.size=size) (hsz:0<size)
  (v:Value) (n:Nat) (xs:List Value) (hs:Sl w e size v n xs)
  (ao:Option Addr) (m c:Nat) (news:List Value) (hl:news.length=m*size) (hrd:Rd w ao news) (h1:∀ u ∈ news,u.oneCell'=true)
  (h63:n+m≤maxLen) (hbytes:(n+m)*bytes≤140737488355328) :
  ∃ v' w',(Builtin.append_ #[t,t] ty #[v, .slice ao m c]).run P w=.ok v' w'∧Sl w' e size v' (n+m) (xs ++ news)∧Keeps (ownB v) w w'∧(∀ k,ownB v' k→ownB v k∨w.heap.size≤k):=by
 cases ao with
 | some a=>
  refine run_app w t ty e i z size bytes ht hi hz hsize hby hzs hsz v n xs hs a m c news hl ?_ h1 h63 hbytes
  intro j u hu
  have hj:=(List.getElem?_eq_some_iff.1 hu).1
  obtain ⟨g,o,e,_,hc⟩:=hrd (by rintro rfl;simp at hj)
  cases e
  rw [addr_add,hc j hj,hu]
 | none=>
  have hn:news=[]:=by
   by_cases h:news=[]
   ·exact h
   ·obtain ⟨g,o,e,_⟩:=hrd h;cases e
  subst hn
  have hm:m=0:=by
   rcases Nat.mul_eq_zero.1 (show m*size=0 by simpa using hl.symm) with h | h
   ·exact h
   ·omega
  subst hm
  refine ⟨v,w,?_,by simpa using hs,Keeps.refl _ _,fun k hk=>.inl hk⟩
  subst hsize
  obtain ⟨hxl,⟨rfl,rfl⟩ | ⟨g,o,cap,cur,rfl,hb,hnc,hcm,hoc,hx⟩⟩:=hs
  ·simp [Builtin.append_,run_underlying ht,sizeOf,typeInfo,hi,Builtin.lenOf,Builtin.firstCells]
  ·simp [Builtin.append_,run_underlying ht,sizeOf,typeInfo,hi,Builtin.lenOf,Builtin.firstCells,hnc,storeCells]
theorem wpList_appR {P:Program} {w:World} {ops:Array Oper} {rest:List Oper} {o:Oper} {a:Act} {Q:Exit→Act→World→Prop} (hgd:o.guard=none) (s x:Operand) (t:TypeId)
  (ho:o.op=.call { callee:=.builtin .append,args:=#[s,x],argTypes:=#[t,t] })
  (e:TypeId) (i:TypeInfo) (z:Value) (size bytes:Nat) (ht:P.underlying t=some (.slice e)) (hi:P.info? e=some i) (hz:i.zero=some z)
  (hsize:i.size=size) (hby:i.bytes=bytes) (hzs:z.cells.size=size) (hsz:0<size)
  (v:Value) (n:Nat) (xs:List Value) (hs:a.eval s=v) (hown:Sl w e size v n xs)
  (ao:Option Addr) (m c:Nat) (news:List Value) (hx:a.eval x=.slice ao m c) (hl:news.length=m*size) (hrd:Rd w ao news) (h1:∀ u ∈ news,u.oneCell'=true)
  (h63:n+m≤maxLen) (hbytes:(n+m)*bytes≤140737488355328)
  (h:∀ v' w',Sl w' e size v' (n+m) (xs ++ news)→Keeps (ownB v) w w'→(∀ k,ownB v' k→ownB v k∨w.heap.size≤k)→wpList P ops Q rest (a.put o.dst v') w'):wpList P ops Q (o :: rest) a w:=by
 refine wpList_plain hgd fun _ hK=>?_
 obtain ⟨v',w',hr,h2,h3,h4⟩:=run_appR (P:=P) w t o.type e i z size bytes ht hi hz hsize hby hzs hsz v n xs hown ao m c news hl hrd h1 h63 hbytes
 unfold Oper.wp execOp
 simp only [ho,resolve,invoke,builtin,Sem.run_bind,Sem.run_pure,Result.andThen_ok,List.map_toArray,List.map_cons,List.map_nil,hs,hx,hr]
 exact hK _ _ (h v' w' h2 h3 h4)
end
section
open Go.RowKit
section
variable {P:Program} {w:World} {ops:Array Oper} {o:Oper} {a:Act}
theorem wpList_agg {rest:List Oper} {Q:Exit→Act→World→Prop} (hgd:o.guard=none) (t:TypeId) (x:Operand) (ho:o.op=.load t x) (cs:List Value) (hr:rowB P t cs.length=true) (b off:Nat) (hx:a.eval x=.pointer (some ⟨b,off,none⟩))
  (h0:w.rangeAt b off cs) (h:wpList P ops Q rest (a.put o.dst (.agg cs.toArray)) w):wpList P ops Q (o :: rest) a w:=by
 obtain ⟨d,hu,hd,hi⟩:=rowB_spec hr
 exact wpList_load_mid hgd t x ho b off hx cs d h0 hu hd hi h
theorem rangeAt_nil {b off:Nat}:w.rangeAt b off []:=by intro j v hj;simp at hj
theorem rangeAt_cons {b off:Nat} {v:Value} {cs:List Value} (h:w.cell? ⟨b,off,none⟩=some v) (hr:w.rangeAt b (off+1) cs):w.rangeAt b off (v :: cs):=by
 intro j u hj
 cases j with
 | zero=>simp at hj;subst hj;exact h
 | succ j=>simp at hj;rw [show off+(j+1)=off+1+j by omega];exact hr j u hj
end
end
section
open Go.RowKit
theorem Rd.num {w:World} {ao:Option Addr} {l:List Int} (h:Rd w ao (l.map (Value.int .i64))) (i:Nat) (hi:i<l.length) :
  ∃ g o,ao=some ⟨g,o,none⟩∧g<w.heap.size∧w.cell? ⟨g,o+i,none⟩=some (.int .i64 (l.getD i 0)):=by
 obtain ⟨g,o,rfl,hg,hc⟩:=h (by intro e;simp at e;subst e;simp at hi)
 refine ⟨g,o,rfl,hg,?_⟩
 rw [hc i (by simpa using hi)]
 simp [List.getD,hi]
theorem SameLongs_yes (a b:Option Addr) (ca cb:Nat) (l:List Int) (w:World) (h1:Rd w a (l.map (Value.int .i64))) (h2:Rd w b (l.map (Value.int .i64))) (hl:l.length≤1000000) :
  Calls Try.prog 16 #[.slice a l.length ca, .slice b l.length cb] w fun e w'=>e=.returned (.bool true)∧Keeps (fun _=>False) w w':=by
 have H1:=Hz h1;have H2:=Hz h2
 clear h1 h2
 go_enter Try.func16,Try.ntmps16
 go_wp2_with fail
 go_loopw [5] (fun i wr=>∃ k:Nat,k≤l.length∧i=.int .i64 k∧Keeps (fun _=>False) w wr) (fun i _=>l.length-(intOf i).toNat)
 case atStart=>exact ⟨0,Nat.zero_le _,rfl,Keeps.refl _ _⟩
 case round=>
  obtain ⟨k,hk,rfl,hkk⟩:=hrel
  have HK:=Hz hkk;clear hkk
  by_cases hlt:k<l.length
  ·obtain ⟨g,o,rfl,hgl,d0⟩:=(H1.out.keep HK.out (fun _ _ _ h=>h)).num k hlt
   obtain ⟨g',o',rfl,hgl',e0⟩:=(H2.out.keep HK.out (fun _ _ _ h=>h)).num k hlt
   generalize l.getD k 0=v at *
   go_wp2_with fail
   refine wp_region_ro (.free 0 (.free 1 (.free 2 (.free 4 (.free 5 (.free 6 (.pure 3 (.pure 7 (.free 8 (.fin)))))))))) [] (fun w'=>w'.cell? ⟨g,o+k,none⟩=some (.int .i64 v)∧w'.cell? ⟨g',o' + k,none⟩=some (.int .i64 v)) (by kernel_rfl) (by kernel_rfl) ⟨d0,e0⟩ ?_
   iterate 9 first | (refine wpRO_free rfl rfl _ (fun w'=>by go_simp;exact Gives.mk _ _) (fun K hK=>?_);go_simp;refine hK _ ?_;clear hK K) | (refine wpRO_skipF rfl rfl (fun K hK=>?_);go_simp;refine hK _ ?_;clear hK K) | (refine wpRO_pure rfl rfl _ (fun w' hG=>by obtain ⟨g0,g1⟩:=hG;exact gives_agg2 rfl (by decide +kernel) rfl (by assumption) (by assumption)) (fun K hK=>?_);go_simp;refine hK _ ?_;clear hK K) | (refine wpRO_pure rfl rfl _ (fun w' hG=>by obtain ⟨g0,g1⟩:=hG;go_simp;exact Gives.mk _ _) (fun K hK=>?_);go_simp;refine hK _ ?_;clear hK K) | (refine wpRO_skip rfl rfl (fun K hK=>?_);go_simp;refine hK _ ?_;clear hK K)
   refine wpRO_fin ?_
   go_wp2_with fail
   go_roundw
   case rel=>exact ⟨k+1,by omega,by go_num,HK.out.drew⟩
   case measure=>simp [intOf];omega
  ·obtain rfl:k=l.length:=by omega
   go_wp2_with fail
   go_ret
   exact ⟨rfl,HK.out⟩
end
section
open Go.RowKit
theorem ret_two {a b c d:Int} (h1:a=c) (h2:b=d):Ending.returned (.tuple #[.int .i64 a, .int .i64 b])=Ending.returned (.tuple #[.int .i64 c, .int .i64 d]):=by rw [h1,h2]
theorem Encode_c (k n:Int) (w:World) (h1:-9223372036854775808≤n) (h2:n≤9223372036854775807) :
  Calls Try.prog 23 #[.agg #[.int .i64 k, .int .i64 n]] w fun e w'=>e=.returned (.tuple #[.int .i64 (encW k n).1, .int .i64 (encW k n).2])∧Keeps (fun _=>False) w w':=by
 by_cases k0:k=0
 ·subst k0
  by_cases n0:n=0
  ·subst n0
   go_enter Try.func23,Try.ntmps23
   go_wp2
   go_ret2
   exact ⟨rfl,(Keeps.refl _ _).alloc _⟩
  ·have hz:(n != 0)=true:=by simpa using n0
   have he:encW 0 n=(0,7):=by simp [encW,n0]
   have HE:=Hz he;clear he n0
   go_enter Try.func23,Try.ntmps23
   go_wp2
   go_ret2
   exact ⟨by rw [HE.out];rfl,(Keeps.refl _ _).alloc _⟩
 by_cases k2:k=2
 ·subst k2
  by_cases n0:n=0
  ·subst n0
   go_enter Try.func23,Try.ntmps23
   go_wp2
   go_ret2
   exact ⟨rfl,(Keeps.refl _ _).alloc _⟩
  ·have hz:(n != 0)=true:=by simpa using n0
   have he:encW 2 n=(0,7):=by simp [encW,n0]
   have HE:=Hz he;clear he n0
   go_enter Try.func23,Try.ntmps23
   go_wp2
   go_ret2
   exact ⟨by rw [HE.out];rfl,(Keeps.refl _ _).alloc _⟩
 by_cases k1:k=1
 ·subst k1
  by_cases c1:n < -1152921504606846976
  ·have he:encW 1 n=(0,1):=encW_int_no (by omega)
   have HE:=Hz he;clear he
   go_enter Try.func23,Try.ntmps23
   go_wp2
   go_ret2
   exact ⟨by rw [HE.out];rfl,(Keeps.refl _ _).alloc _⟩
  by_cases c2:1152921504606846976≤n
  ·have he:encW 1 n=(0,1):=encW_int_no (by omega)
   have HE:=Hz he;clear he
   go_enter Try.func23,Try.ntmps23
   go_wp2
   go_ret2
   exact ⟨by rw [HE.out];rfl,(Keeps.refl _ _).alloc _⟩
  have he:encW 1 n=(4*n,0):=encW_int (by omega)
  have HE:=Hz he;clear he
  have hor:=i64_or0 (n*4) (by omega) (by omega)
  go_enter Try.func23,Try.ntmps23
  go_wp2
  go_ret2
  exact ⟨by rw [HE.out];exact ret_two (Int.mul_comm _ _) rfl,(Keeps.refl _ _).alloc _⟩
 by_cases k3:k=3
 ·subst k3
  by_cases c1:n<0
  ·have he:encW 3 n=(0,1):=encW_ref_no (by omega)
   have HE:=Hz he;clear he
   go_enter Try.func23,Try.ntmps23
   go_wp2
   go_ret2
   exact ⟨by rw [HE.out];rfl,(Keeps.refl _ _).alloc _⟩
  by_cases c2:1152921504606846976≤n
  ·have he:encW 3 n=(0,1):=encW_ref_no (by omega)
   have HE:=Hz he;clear he
   go_enter Try.func23,Try.ntmps23
   go_wp2
   go_ret2
   exact ⟨by rw [HE.out];rfl,(Keeps.refl _ _).alloc _⟩
  have he:encW 3 n=(4*n+1,0):=encW_ref (by omega)
  have HE:=Hz he;clear he
  have hor:=i64_or1 n (by omega) (by omega)
  go_enter Try.func23,Try.ntmps23
  go_wp2
  go_ret2
  exact ⟨by rw [HE.out];exact ret_two (by omega) rfl,(Keeps.refl _ _).alloc _⟩
 have e0:(k == 0)=false:=by simpa using k0
 have e1:(k == 1)=false:=by simpa using k1
 have e2:(k == 2)=false:=by simpa using k2
 have e3:(k == 3)=false:=by simpa using k3
 have he:encW k n=(0,2):=encW_other k0 k1 k2 k3
 have HE:=Hz he;clear he k0 k1 k2 k3
 go_enter Try.func23,Try.ntmps23
 go_wp2
 go_ret2
 exact ⟨by rw [HE.out];rfl,(Keeps.refl _ _).alloc _⟩
theorem Ref_c (x:Int) (w:World) (h1:0≤x) (h2:x<1152921504606846976) :
  Calls Try.prog 45 #[.int .i64 x] w fun e w'=>e=.returned (.int .i64 (4*x+1))∧w=w':=by
 have hor:=i64_or1 x (by omega) (by omega)
 go_enter Try.func45,Try.ntmps45
 go_wp2
 go_ret
 exact ⟨ret_int (by omega),rfl⟩
theorem Nil_c (w:World):Calls Try.prog 25 #[] w fun e w'=>e=.returned (.int .i64 2)∧w=w':=by
 go_enter Try.func25,Try.ntmps25
 go_wp2
 go_ret
 exact ⟨rfl,rfl⟩
theorem Gone_c (w:World):Calls Try.prog 100 #[] w fun e w'=>e=.returned (.int .i64 3)∧w=w':=by
 go_enter Try.func100,Try.ntmps100
 go_wp2
 go_ret
 exact ⟨rfl,rfl⟩
theorem At_yes (x:Int) (w:World) (h:x%4=1) :
  Calls Try.prog 39 #[.int .i64 x] w fun e w'=>e=.returned (.tuple #[.int .i64 (x/4), .bool true])∧w=w':=by
 have ha:bits .and .i64 x 3=1:=by rw [i64_and3,h]
 clear h
 go_enter Try.func39,Try.ntmps39
 go_wp2
 go_ret2
 exact ⟨rfl,rfl⟩
theorem At_no (x:Int) (w:World) (h:x%4≠1) :
  Calls Try.prog 39 #[.int .i64 x] w fun e w'=>e=.returned (.tuple #[.int .i64 0, .bool false])∧w=w':=by
 have ha:(bits .and .i64 x 3 != 1)=true:=by rw [i64_and3];simpa using h
 clear h
 go_enter Try.func39,Try.ntmps39
 go_wp2
 go_ret2
 exact ⟨rfl,rfl⟩
theorem ret_val {k n c:Int} {y:Int × Int × Int} (h:y=(k,n,c)) :
  Ending.returned (.tuple #[.agg #[.int .i64 k, .int .i64 n], .int .i64 c])=Ending.returned (.tuple #[.agg #[.int .i64 y.1, .int .i64 y.2.1], .int .i64 y.2.2]):=by subst h;rfl
theorem Decode_c (x:Int) (w:World) (h1:-9223372036854775808≤x) (h2:x≤9223372036854775807) :
  Calls Try.prog 40 #[.int .i64 x] w fun e w'=>e=.returned (.tuple #[.agg #[.int .i64 (decW x).1, .int .i64 (decW x).2.1], .int .i64 (decW x).2.2])∧Keeps (fun _=>False) w w':=by
 have hm:=Hz (i64_and3 x)
 by_cases m0:x%4=0
 ·have ha:bits .and .i64 x 3=0:=by rw [hm.out,m0]
  by_cases c1:x/4 < -1152921504606846976
  ·have HE:=Hz (decW_int_no m0 (by omega));clear m0
   go_enter Try.func40,Try.ntmps40
   go_wp2
   exact bodyPost_ret (v:=.tuple #[.agg #[.int .i64 0, .int .i64 0], .int .i64 1]) (by simp [results,Try.results40,go_sem]) rfl ⟨ret_val HE.out,(((Keeps.refl _ _).alloc _))⟩
  by_cases c2:1152921504606846976≤x/4
  ·have HE:=Hz (decW_int_no m0 (by omega));clear m0
   go_enter Try.func40,Try.ntmps40
   go_wp2
   exact bodyPost_ret (v:=.tuple #[.agg #[.int .i64 0, .int .i64 0], .int .i64 1]) (by simp [results,Try.results40,go_sem]) rfl ⟨ret_val HE.out,(((Keeps.refl _ _).alloc _))⟩
  have HE:=Hz (decW_int m0 (by omega));clear m0
  go_enter Try.func40,Try.ntmps40
  go_wp2
  exact bodyPost_ret (v:=.tuple #[.agg #[.int .i64 1, .int .i64 (x/4)], .int .i64 0]) (by simp [results,Try.results40,go_sem]) rfl ⟨ret_val HE.out,(((Keeps.refl _ _).alloc _))⟩
 by_cases m1:x%4=1
 ·have ha:bits .and .i64 x 3=1:=by rw [hm.out,m1]
  by_cases c1:x/4<0
  ·have HE:=Hz (decW_ref_no m1 (by omega));clear m1
   go_enter Try.func40,Try.ntmps40
   go_wp2
   exact bodyPost_ret (v:=.tuple #[.agg #[.int .i64 0, .int .i64 0], .int .i64 1]) (by simp [results,Try.results40,go_sem]) rfl ⟨ret_val HE.out,(((Keeps.refl _ _).alloc _))⟩
  by_cases c2:1152921504606846976≤x/4
  ·have HE:=Hz (decW_ref_no m1 (by omega));clear m1
   go_enter Try.func40,Try.ntmps40
   go_wp2
   exact bodyPost_ret (v:=.tuple #[.agg #[.int .i64 0, .int .i64 0], .int .i64 1]) (by simp [results,Try.results40,go_sem]) rfl ⟨ret_val HE.out,(((Keeps.refl _ _).alloc _))⟩
  have HE:=Hz (decW_ref m1 (by omega));clear m1
  go_enter Try.func40,Try.ntmps40
  go_wp2
  exact bodyPost_ret (v:=.tuple #[.agg #[.int .i64 3, .int .i64 (x/4)], .int .i64 0]) (by simp [results,Try.results40,go_sem]) rfl ⟨ret_val HE.out,(((Keeps.refl _ _).alloc _))⟩
 have ha0:(bits .and .i64 x 3 == 0)=false:=by rw [hm.out];simpa using m0
 have ha1:(bits .and .i64 x 3 == 1)=false:=by rw [hm.out];simpa using m1
 by_cases c1:x/4=0
 ·have h23:x=2∨x=3:=by omega
  clear m0 m1 ha0 ha1 c1 hm
  rcases h23 with rfl | rfl
  ·go_enter Try.func40,Try.ntmps40
   go_wp2
   exact bodyPost_ret (v:=.tuple #[.agg #[.int .i64 0, .int .i64 0], .int .i64 0]) (by simp [results,Try.results40,go_sem]) rfl ⟨rfl,(((Keeps.refl _ _).alloc _))⟩
  ·go_enter Try.func40,Try.ntmps40
   go_wp2
   exact bodyPost_ret (v:=.tuple #[.agg #[.int .i64 2, .int .i64 0], .int .i64 0]) (by simp [results,Try.results40,go_sem]) rfl ⟨rfl,(((Keeps.refl _ _).alloc _))⟩
 ·have hz:(x/4 != 0)=true:=by simpa using c1
  have HE:=Hz (decW_bits m0 m1 c1);clear m0 m1 c1
  go_enter Try.func40,Try.ntmps40
  go_wp2
  exact bodyPost_ret (v:=.tuple #[.agg #[.int .i64 0, .int .i64 0], .int .i64 7]) (by simp [results,Try.results40,go_sem]) rfl ⟨ret_val HE.out,(((Keeps.refl _ _).alloc _))⟩
end
section
open Go.RowKit
theorem headW_kind {k f:Int} (h:k<1∨5<k):headW k f=(0,2):=if_pos h
theorem headW_no {k f:Int} (h:1≤k∧k≤5) (hf:fitsW k f=false):headW k f=(0,1):=by
 unfold headW;rw [if_neg (by omega),if_neg (by simp [hf])]
theorem headW_yes {k f:Int} (h:1≤k∧k≤5) (hf:fitsW k f=true):headW k f=(16*f+k,0):=by
 unfold headW;rw [if_neg (by omega),if_pos hf]
theorem fitsW_2 {k f:Int} (hk:k=1∨k=3∨k=4):fitsW k f=(f == 2):=by
 rcases hk with rfl | rfl | rfl <;> simp [fitsW]
theorem fitsW_5 {f:Int}:fitsW 5 f=(f == 0):=by simp [fitsW]
theorem fitsW_vec {f:Int}:fitsW 2 f=(decide (0≤f) && decide (f≤12)):=by simp [fitsW]
theorem Head_c (k f:Int) (w:World) (h1:-9223372036854775808≤f) (h2:f≤9223372036854775807) :
  Calls Try.prog 107 #[.int .i64 k, .int .i64 f] w fun e w'=>e=.returned (.tuple #[.int .i64 (headW k f).1, .int .i64 (headW k f).2])∧w=w':=by
 by_cases c1:k<1
 ·have HE:=Hz (headW_kind (f:=f) (.inl c1))
  go_enter Try.func107,Try.ntmps107
  go_wp2
  go_ret2
  exact ⟨by rw [HE.out];rfl,rfl⟩
 by_cases c2:5<k
 ·have HE:=Hz (headW_kind (f:=f) (.inr c2))
  go_enter Try.func107,Try.ntmps107
  go_wp2
  go_ret2
  exact ⟨by rw [HE.out];rfl,rfl⟩
 have hk:k=1∨k=2∨k=3∨k=4∨k=5:=by omega
 clear c1 c2
 rcases hk with rfl | rfl | rfl | rfl | rfl
 ·by_cases c:f=2
  ·subst c
   have hor:=i64_or16 2 1 (by omega) (by omega) (by omega) (by omega)
   have HE:=Hz (headW_yes (k:=1) (f:=2) (by omega) (by decide))
   go_enter Try.func107,Try.ntmps107
   go_wp2
   go_ret2
   exact ⟨by rw [HE.out];rfl,rfl⟩
  ·have hne:(f != 2)=true:=by simpa using c
   have HE:=Hz (headW_no (k:=1) (f:=f) (by omega) (by rw [fitsW_2 (by omega)];simpa using c));clear c
   go_enter Try.func107,Try.ntmps107
   go_wp2
   go_ret2
   exact ⟨by rw [HE.out];rfl,rfl⟩
 ·by_cases c1:f<0
  ·have HE:=Hz (headW_no (k:=2) (f:=f) (by omega) (by rw [fitsW_vec];simp;omega))
   go_enter Try.func107,Try.ntmps107
   go_wp2
   go_ret2
   exact ⟨by rw [HE.out];rfl,rfl⟩
  by_cases c2:12<f
  ·have HE:=Hz (headW_no (k:=2) (f:=f) (by omega) (by rw [fitsW_vec];simp;omega))
   go_enter Try.func107,Try.ntmps107
   go_wp2
   go_ret2
   exact ⟨by rw [HE.out];rfl,rfl⟩
  have hor:=i64_or16 f 2 (by omega) (by omega) (by omega) (by omega)
  have HE:=Hz (headW_yes (k:=2) (f:=f) (by omega) (by rw [fitsW_vec];simp;omega))
  go_enter Try.func107,Try.ntmps107
  go_wp2
  go_ret2
  exact ⟨by rw [HE.out];exact ret_two (by omega) rfl,rfl⟩
 ·by_cases c:f=2
  ·subst c
   have hor:=i64_or16 2 3 (by omega) (by omega) (by omega) (by omega)
   have HE:=Hz (headW_yes (k:=3) (f:=2) (by omega) (by decide))
   go_enter Try.func107,Try.ntmps107
   go_wp2
   go_ret2
   exact ⟨by rw [HE.out];rfl,rfl⟩
  ·have hne:(f != 2)=true:=by simpa using c
   have HE:=Hz (headW_no (k:=3) (f:=f) (by omega) (by rw [fitsW_2 (by omega)];simpa using c));clear c
   go_enter Try.func107,Try.ntmps107
   go_wp2
   go_ret2
   exact ⟨by rw [HE.out];rfl,rfl⟩
 ·by_cases c:f=2
  ·subst c
   have hor:=i64_or16 2 4 (by omega) (by omega) (by omega) (by omega)
   have HE:=Hz (headW_yes (k:=4) (f:=2) (by omega) (by decide))
   go_enter Try.func107,Try.ntmps107
   go_wp2
   go_ret2
   exact ⟨by rw [HE.out];rfl,rfl⟩
  ·have hne:(f != 2)=true:=by simpa using c
   have HE:=Hz (headW_no (k:=4) (f:=f) (by omega) (by rw [fitsW_2 (by omega)];simpa using c));clear c
   go_enter Try.func107,Try.ntmps107
   go_wp2
   go_ret2
   exact ⟨by rw [HE.out];rfl,rfl⟩
 ·by_cases c:f=0
  ·subst c
   have hor:=i64_or16 0 5 (by omega) (by omega) (by omega) (by omega)
   have HE:=Hz (headW_yes (k:=5) (f:=0) (by omega) (by decide))
   go_enter Try.func107,Try.ntmps107
   go_wp2
   go_ret2
   exact ⟨by rw [HE.out];rfl,rfl⟩
  ·have hne:(f != 0)=true:=by simpa using c
   have HE:=Hz (headW_no (k:=5) (f:=f) (by omega) (by rw [fitsW_5];simpa using c));clear c
   go_enter Try.func107,Try.ntmps107
   go_wp2
   go_ret2
   exact ⟨by rw [HE.out];rfl,rfl⟩
theorem ret_three {a b c:Int} {y:Int × Int × Int} (h:y=(a,b,c)) :
  Ending.returned (.tuple #[.int .i64 a, .int .i64 b, .int .i64 c])=Ending.returned (.tuple #[.int .i64 y.1, .int .i64 y.2.1, .int .i64 y.2.2]):=by subst h;rfl
theorem partsW_no {h:Int} (hf:fitsW (h%16) (h/16)=false):partsW h=(0,0,7):=by unfold partsW;rw [if_neg (by simp [hf])]
theorem partsW_yes {h:Int} (hf:fitsW (h%16) (h/16)=true):partsW h=(h%16,h/16,0):=by unfold partsW;rw [if_pos hf]
theorem partsW_out {h:Int} (c:h<0∨207<h):partsW h=(0,0,7):=by
 apply partsW_no
 cases hf:fitsW (h%16) (h/16)
 ·rfl
 ·have:=fitsW_spec hf;omega
theorem headW_code {k f:Int} (h:fitsW k f=false):(headW k f).1=0∧((headW k f).2 != 0)=true:=by
 unfold headW
 split
 ·exact ⟨rfl,rfl⟩
 ·rw [if_neg (by simp [h])];exact ⟨rfl,rfl⟩
theorem headW_fits {k f:Int} (h:fitsW k f=true):headW k f=(16*f+k,0):=headW_yes ⟨(fitsW_spec h).1,(fitsW_spec h).2.1⟩ h
theorem Parts_c (h:Int) (w:World) (h1:-9223372036854775808≤h) (h2:h≤9223372036854775807) :
  Calls Try.prog 106 #[.int .i64 h] w fun e w'=>e=.returned (.tuple #[.int .i64 (partsW h).1, .int .i64 (partsW h).2.1, .int .i64 (partsW h).2.2])∧w=w':=by
 by_cases c1:h<0
 ·have HE:=Hz (partsW_out (.inl c1))
  go_enter Try.func106,Try.ntmps106
  go_wp2_with fail
  go_ret3
  exact ⟨ret_three HE.out,rfl⟩
 by_cases c2:207<h
 ·have HE:=Hz (partsW_out (.inr c2))
  go_enter Try.func106,Try.ntmps106
  go_wp2_with fail
  go_ret3
  exact ⟨ret_three HE.out,rfl⟩
 have ha:=i64_and15 h
 cases hf:fitsW (h%16) (h/16)
 ·have HE:=Hz (partsW_no hf)
  have hc:=(headW_code hf).2
  have HF:=Hz hf;clear hf
  go_enter Try.func106,Try.ntmps106
  go_wp2_with fail
  refine (Head_c (h%16) (h/16) _ (by omega) (by omega)).mono ?_
  rintro e w' ⟨rfl,rfl⟩
  go_wp2_with fail
  go_ret3
  exact ⟨ret_three HE.out,rfl⟩
 ·have HE:=Hz (partsW_yes hf)
  have HC:=Hz (headW_fits hf)
  have HF:=Hz hf;clear hf
  go_enter Try.func106,Try.ntmps106
  go_wp2_with fail
  refine (Head_c (h%16) (h/16) _ (by omega) (by omega)).mono ?_
  rintro e w' ⟨rfl,rfl⟩
  rw [HC.out]
  go_wp2_with fail
  go_ret3
  exact ⟨ret_three HE.out,rfl⟩
end
end Go.Proofs.Ytjifdalflepcoac
