/-
  Parts of the proof, merged: what the functions do, and plain laws.
-/
import Derived.Test.YtjifdalflepcoadGreatTRPP11
set_option maxHeartbeats 16000000
set_option maxRecDepth 100000
set_option linter.unusedVariables false
set_option linter.unusedSimpArgs false
namespace Go.Proofs.YtjifdalflepcoadGreat
section
open Go.RowKit
def SB (n0:Nat) (t:List Bool × List Nat):Prop:=cL t.1<=n0/\(t.2=[]\/cL t.1<n0)
theorem SB.mark {n0:Nat} {W:Wd} {t:List Bool × List Nat} (h:SB n0 t) (hl:t.1.length=W.T.length) (v:Vl) (hv:v.1=3->W.live v.2):SB n0 (cm t v):=by
 obtain ⟨h1,h2,h3,h4⟩:=kV hl v hv;obtain ⟨h5,h6⟩:=h;refine ⟨by omega,?_⟩;rcases h3 with h3 | h3
 ·rcases h6 with h6 | h6
  ·exact .inl (by rw [h3,h6])
  ·exact .inr (by omega)
 ·exact .inr (by omega)
theorem AP {α:Type} {l:List α} (h:l.length=2):∃ a b,l=[a,b]:=by
 match l,h with
 | [a,b],_=>exact ⟨a,b,rfl⟩
theorem Sl.D7 {w:World} {e:TypeId} {g o n cap:Nat} {x:Value} {xs:List Value} (h:Sl w e 1 (.slice (some ⟨g,o,none⟩) (n+1) cap) (n+1) (x :: xs)) :
  Sl w e 1 (.slice (if cap=1 then some ⟨g,o,none⟩ else some ⟨g,o+1,none⟩) n (cap-1)) n xs:=by
 obtain ⟨g',o',cap',cur,e',hb,h1,h2,h3,h4⟩:=h.laid (by omega);cases e';have hl:=h.1;refine ⟨by simp at hl ⊢;omega, .inr ?_⟩;have htl:(cur.drop (o+1)).take (n*1)=xs:=by
  have h5:((cur.drop o).take ((n+1)*1)).drop 1=xs:=by rw [h4];rfl
  rw [<-h5,List.drop_take,List.drop_drop];congr 1
 by_cases hc:cap=1
 ·rw [if_pos hc];subst hc;have hn:n=0:=by omega
  subst hn;have:xs=[]:=by cases xs with | nil=>rfl | cons a l=>simp at hl
  subst this;exact ⟨g,o,0,cur,rfl,hb,Zb _,by unfold maxLen;omega,by omega,by simp⟩
 ·rw [if_neg hc];exact ⟨g,o+1,cap-1,cur,rfl,hb,by omega,by omega,by omega,htl⟩
structure jT (w:World) (gx:GX) (gp:Nat) (rgv wv:Value) (ai q:List (Int × Int)) (fv:Nat->Value) (W:Wd):Prop where
 S:bX gx w gp rgv wv ai q
 T:eV w gx.l fv W.T
 F:∀ i b,aq (fv i) b->∃ c,ak w b c 77
structure LI (w wr:World) (gp lb ib:Nat) (nv nv1:Value) (W:Wd) (q:List (Int × Int)) (s0:List Bool) (E:Int->Prop) (t:List Bool × List Nat):Prop where
 L:dC wr gp lb ib nv1 t
 K:aa (gu lb ib nv) w wr
 O:∀ k,aq nv1 k->aq nv k\/w.heap.size<=k
 G:GI W q s0 E t
section
variable {w wr w2 w':World} {gx:GX} {gp lb ib:Nat} {rgv wv nv nv1:Value} {ai q:List (Int × Int)} {fv:Nat->Value} {W:Wd} {s0:List Bool} {E E':Int->Prop} {t t2:List Bool × List Nat}
theorem jT.lv (S:jT w gx gp rgv wv ai q fv W) (L:dC w gp lb ib nv t) (k:aa (gu lb ib nv) w w'):jT w' gx gp rgv wv ai q fv W:=by
 have ne:∀ {b:Nat} {c:List Value} {T:TypeId},ak w b c T->T≠158->T≠4->T≠3->¬ gu lb ib nv b:=λhb h1 h2 h3 e=>by
  obtain ⟨_,c',T',hc',hT⟩:=L.bE e;rcases hT with rfl | rfl | rfl
  ·exact hb.ne hc' h1 rfl
  ·exact hb.ne hc' h2 rfl
  ·exact hb.ne hc' h3 rfl
 refine ⟨S.S.ab k (λb hb=>?_),S.T.ab k (λb hb=>?_) (λi b hb=>?_),λi b hb=>?_⟩
 ·rcases hb with rfl | hb | hb
  ·exact ne S.S.hp (by decide) (by decide) (by decide)
  ·obtain ⟨_,c,hc⟩:=S.S.hr.own hb;exact ne hc (by decide) (by decide) (by decide)
  ·obtain ⟨_,c,hc⟩:=S.S.hw.own hb;exact ne hc (by decide) (by decide) (by decide)
 ·obtain ⟨cs,hs,_⟩:=S.T;obtain ⟨_,c,hc⟩:=hs.own hb;exact ne hc (by decide) (by decide) (by decide)
 ·obtain ⟨c,hc⟩:=S.F i b hb;exact ne hc (by decide) (by decide) (by decide)
 ·obtain ⟨c,hc⟩:=S.F i b hb;exact ⟨c,k.au hc (ne hc (by decide) (by decide) (by decide))⟩
theorem LI.to (I:LI w wr gp lb ib nv nv1 W q s0 E t) (U:g6 wr gp lb ib nv1 w2 t2) (G:GI W q s0 E' t2):∃ nv2,LI w w2 gp lb ib nv nv2 W q s0 E' t2:=by
 obtain ⟨nv2,L2,k2,o2⟩:=U;refine ⟨nv2,L2,I.K.then k2 (λb hb=>?_),λb hb=>?_,G⟩
 ·rcases hb with hb | hb | hb
  ·exact .inl (.inl hb)
  ·exact .inl (.inr (.inl hb))
  ·exact (I.O b hb).imp (λh=>.inr (.inr h)) id
 ·rcases o2 b hb with h | h
  ·exact I.O b h
  ·exact .inr (Za I.K.size h)
theorem LI.same (I:LI w wr gp lb ib nv nv1 W q s0 E t) (k:aa (λ_=>False) wr w2):LI w w2 gp lb ib nv nv1 W q s0 E t:=⟨I.L.same k,I.K.trans (k.mono (λ_ _ h=>h.elim)),I.O,I.G⟩
theorem LI.mN (I:LI w wr gp lb ib nv nv1 W q s0 E t) (v:Vl) (hv:v.1=3->W.live v.2) (hT:W.T.length<=100000) :
  Calls Tryz.prog 103 #[.pointer (some ⟨lb,0,none⟩), .agg #[.int .i64 v.1, .int .i64 v.2]] wr λe w'=>e=.returned (.tuple #[])/\g6 wr gp lb ib nv1 w' (cm t v):=
 pC v I.L (λh3=>by have:=hv h3;rw [I.G.len];exact ⟨this.1,this.2.1⟩) (by rw [I.G.len];exact hT) (Za I.G.mJ hT)
theorem jT.nth (S:jT w gx gp rgv wv ai q fv W) {i:Nat} (hi:i<W.T.length):∃ g o nc,gx.l=.slice (some ⟨g,o,none⟩) W.T.length nc/\g<w.heap.size /\
  nU w (fv i) (W.th (i:Int)) (w.cell? ⟨g,o+i*4,none⟩) (w.cell? ⟨g,o+i*4+1,none⟩) (w.cell? ⟨g,o+i*4+2,none⟩) (w.cell? ⟨g,o+i*4+3,none⟩):=by
 obtain ⟨cs,hs,hr⟩:=S.T;obtain ⟨g,o,cap,cur,e,hb,h1,h2,h3,h4⟩:=hs.laid (by omega);have hl:=hs.1;have hc:∀ j,j<W.T.length*4->w.cell? ⟨g,o+j,none⟩=cs[j]? := λj hj=>by
  rw [hb.cell,<-h4,List.getElem?_take,if_pos hj,List.getElem?_drop]
 refine ⟨g,o,cap,e,hb.lt,?_⟩;have:=hr i hi;rw [Wd.gQ,hc (i*4) (by omega),Nat.add_assoc o (i*4) 1,hc (i*4+1) (by omega),Nat.add_assoc o (i*4) 2,hc (i*4+2) (by omega),Nat.add_assoc o (i*4) 3,hc (i*4+3) (by omega)];exact this
theorem jT.row (S:jT w gx gp rgv wv ai q fv W) {i g o nc:Nat} (hi:i<W.T.length) (e:gx.l=.slice (some ⟨g,o,none⟩) W.T.length nc):g<w.heap.size /\
  nU w (fv i) (W.th (i:Int)) (w.cell? ⟨g,o+i*4,none⟩) (w.cell? ⟨g,o+i*4+1,none⟩) (w.cell? ⟨g,o+i*4+2,none⟩) (w.cell? ⟨g,o+i*4+3,none⟩):=by
 obtain ⟨g',o',nc',e',h1,h2⟩:=S.nth hi;rw [e] at e';cases e';exact ⟨h1,h2⟩
theorem GI.lead (G:GI W q s0 E t) (hok:W.ok) {i:Int} (hi:aw t.1 i=true) {v:Vl} (hv:v.1=3->W.live v.2) (h:v.1=3->iT W.nd q (λk=>aw t.1 k=true) i v.2):v.1=3->W.live v.2/\cO W.nd q (λk=>aw s0 k=true) v.2:=λh3=>
 ⟨hv h3,cO.closed W.nd q _ i v.2 (G.al i hi) ((h h3).mono (λk hk=>G.al k hk) (λ_ h=>h))⟩
theorem dC.pop {g o cap k:Nat} {is:List Bool} {r:List Nat} (L:dC w gp lb ib (.slice (some ⟨g,o,none⟩) (r.length+1) cap) (is,k :: r)) :
  g6 w gp lb ib (.slice (some ⟨g,o,none⟩) (r.length+1) cap) (w.setCell ⟨lb,2,none⟩ (.slice (if cap=1 then some ⟨g,o,none⟩ else some ⟨g,o+1,none⟩) r.length (cap-1))) (is,r):=by
 have K:=(aa.refl (·=lb) w).setCell (p:=⟨lb,2,none⟩) (.inl rfl) (.slice (if cap=1 then some ⟨g,o,none⟩ else some ⟨g,o+1,none⟩) r.length (cap-1));have hn:=L.hn;have hs:Sl w 3 1 (.slice (if cap=1 then some ⟨g,o,none⟩ else some ⟨g,o+1,none⟩) r.length (cap-1)) r.length (j6 r):=Sl.D7 hn;refine ⟨_,⟨by simpa using L.hp.aE 2 _,K.au L.hi (λe=>L.hi.ne L.hp (by decide) e),hs.ab K (λb hb e=>?_)⟩,K.mono (λb _ e=>.inl e),λb hb=>.inl ?_⟩
 ·obtain ⟨_,c,hc⟩:=hs.own hb;exact hc.ne L.hp (by decide) e
 ·by_cases hc:cap=1
  ·rw [if_pos hc] at hb;exact hb
  ·rw [if_neg hc] at hb;exact hb
theorem jT.tl (S:jT w gx gp rgv wv ai q fv W):∃ no nc,gx.l=.slice no W.T.length nc:=by
 obtain ⟨cs,hs,-⟩:=S.T;obtain ⟨no,nc,e,-,-,-⟩:=hs.rd;exact ⟨no,nc,e⟩
theorem GSpread_c (S:jT w gx gp rgv wv ai q fv W) (L:dC w gp lb ib nv t) (hok:W.ok) (G:GI W q t.1 (λ_=>False) t) (hq:∀ e ∈ q,W.dL e) (hT:W.T.length<=100000) (hql:q.length<=1000000) :
  Calls Tryz.prog 104 #[.pointer (some ⟨lb,0,none⟩)] w λe w'=>e=.returned (.tuple #[])/\g6 w gp lb ib nv w' (W.cY q t.1,[]):=by
 have SP:=Hz S;have HOK:=Hz hok;have HQ:=Hz hq;have SPK:=Hz (λw' (k:aa (gu lb ib nv) w w')=>S.lv L k);have HI0:=Hz (show LI w w gp lb ib nv nv W q t.1 (λ_=>False) t from ⟨L,aa.refl _ _,λk hk=>.inl hk,G⟩);have HS0:=Hz (show t.1.length=W.T.length from G.len);have HTT:=Hz hT;have HQL:=Hz hql;have lbl:=L.hp.lt;obtain ⟨s0,hs0⟩:∃ s,t.1=s:=⟨_,rfl⟩;rw [hs0] at HI0 HS0 ⊢;clear S L G hok hq hs0;go_enter Tryz.func104,Tryz.ntmps104;go_wp2_with fail;go_loopw [2] (λb wr=>∃ (bv:Bool) (t1:List Bool × List Nat) (nv1:Value),b=.bool bv/\LI w wr gp lb ib nv nv1 W q s0 (λ_=>False) t1/\(bv=false->t1=(W.cY q s0,[]))) (λb wr=>2*gfalsW wr ib+(match b with | .bool true=>1 | _=>0))
 case atStart=>exact ⟨true,t,nv,rfl,HI0.o,λh=>by cases h⟩
 case round=>
  obtain ⟨bv,t1,nv1,rfl,hI,hend⟩:=hrel;cases bv
  ·have TO:=Hz (show g6 w gp lb ib nv wr (W.cY q s0,[]) by rw [<-hend rfl];exact ⟨nv1,hI.L,hI.K,hI.O⟩);clear hI hend;go_wp2_with fail;go_end0;exact ⟨rfl,TO.o⟩
  have I1:=Hz hI;clear hI hend HI0;obtain ⟨n0,hn0⟩:∃ n,gfalsW wr ib=n:=⟨_,rfl⟩;have HN0:=Hz (show cL t1.1=n0 by rw [<-I1.o.L.bS];exact hn0);rw [hn0];clear hn0;go_wp2_with fail;go_loopw [3] (λu wx=>∃ (t2:List Bool × List Nat) (nv2:Value),LI w wx gp lb ib nv nv2 W q s0 (λ_=>False) t2/\cL t2.1<=n0) (λu wx=>2*gfalsW wx ib+tF wx lb 2)
  case atStart=>exact ⟨t1,nv1,I1.o,by have:=HN0.o;omega⟩
  case round=>
   clear I1 HN0;obtain ⟨t2,nv2,hI,hle⟩:=hrel;have I2:=Hz hI;obtain ⟨is,nx⟩:=t2;dsimp only at hle;have c0:=hI.L.hp.cell 0;have c2:=hI.L.hp.cell 2;have cl:=hI.L.hp.lt;simp only [Lz,aB] at c0 c2;obtain ⟨no,nc,en,-,hnm,-⟩:=hI.L.hn.rd;rw [en] at c2;dsimp only at c2;have HEN:=Hz en;clear hI en hnm;cases nx with
   | nil=>
    simp only [List.length_nil] at c2;obtain ⟨no3,nc3,etl⟩:=(SPK.o _ I2.o.K).tl;have HTL:=Hz etl;have p0:=(SPK.o _ I2.o.K).S.hp.cell 0;have pl:=(SPK.o _ I2.o.K).S.hp.lt;simp only [Lz,aB] at p0;rw [etl] at p0;have HLE:=Hz hle;clear etl hle;go_wp2_with fail;clear c0 c2 p0 pl cl;go_loopw [77] (λu wx=>∃ (i:Nat) (t3:List Bool × List Nat) (nv3:Value),i<=W.T.length/\u=.int .i64 i/\LI w wx gp lb ib nv nv3 W q s0 (λ_=>False) t3/\SB n0 t3/\(t3.2=[]->∀ j:Nat,j<i->j5 W t3.1 (j:Int))) (λu _=>W.T.length-(intOf u).toNat)
    case atStart=>exact ⟨0,(is,[]),nv2,Zc _,rfl,I2.o,⟨HLE.o, .inl rfl⟩,λ_ j hj=>by omega⟩
    case round=>
     clear I2 HLE HEN;obtain ⟨i,t3,nv3,hi,rfl,hI,hsb,heph⟩:=hrel;have I3:=Hz hI;have SB3:=Hz hsb;have EP3:=Hz heph;clear hI hsb heph;obtain ⟨is3,nx3⟩:=t3;have HLN:=Hz I3.o.G.len;have p0:=(SPK.o _ I3.o.K).S.hp.cell 0;have pl:=(SPK.o _ I3.o.K).S.hp.lt;have c0:=I3.o.L.hp.cell 0;have c1:=I3.o.L.hp.cell 1;have cl:=I3.o.L.hp.lt;simp only [Lz,aB] at p0 c0 c1;rw [HTL.o] at p0;rw [HLN.o] at c1;by_cases hlt:i<W.T.length
     ·obtain ⟨gt,ot,ntc,etl,hgt,hrow⟩:=(SPK.o _ I3.o.K).nth hlt;rw [HTL.o] at etl;cases etl;have hb:=I3.o.L.bool (i:=i) (by have:=HLN.o;dsimp only at this ⊢;omega);have hbl:=I3.o.L.hi.lt;have HRW:=Hz hrow;clear hrow;have HAT:=Hz (show aw is3 (i:Int)=is3.getD i false from dQ is3 i);have hii:(i:Int)<W.T.length:=by omega
      have NXS:=Hz (λ(w5:World) (k:aa (λ_=>False) wr w5) (h:j5 W is3 (i:Int))=>(show ∃ (i2:Nat) (t3:List Bool × List Nat) (nv3:Value),i2<=W.T.length/\Value.int .i64 ((i:Int)+1)=.int .i64 i2/\LI w w5 gp lb ib nv nv3 W q s0 (λ_=>False) t3/\SB n0 t3/\(t3.2=[]->∀ j:Nat,j<i2->j5 W t3.1 (j:Int)) from
       ⟨i+1,(is3,nx3),nv3,hlt,rfl,I3.o.same k,SB3.o,λh0 j hj=>by
        by_cases e:j=i
        ·subst e;exact h
        ·exact EP3.o h0 j (by omega)⟩))
      go_upto_region 19 with (fail);cases eh:is3.getD i false
      ·rw [eh] at hb;have NX:=Hz (NXS.o _ (Kz wr).drew (λh=>by have:=HAT.o;rw [eh,h] at this;cases this));clear eh;refine a6 (ftq [0,1,2,4] (.pure 3 (.free 5 (.pure 6 (ftq [7,8,9,10] (.pure 11 (ftq [12,13,14,15,16,17] (.pure 18 (.free 19 (.free 20 (.pure 21 (ftq [22,23,24,25,26,28,29,30] (.pure 27 (.pure 31 (.free 32 (.free 33 (.pure 34 (.free 35 (.pure 36 (.free 37 (.free 38 (.fin)))))))))))))))))))))) [] (Fz c1 (Fa hb)) ?_
       iterate 39 refine Wz ?_
       refine av ?_;clear c0 c1 cl p0 pl hb hbl hgt;go_wp2_with fail;go_roundw
       case rel=>
        first
        | exact NX.o
        | ((repeat apply Exists.intro);exact ⟨NX.o,rfl⟩)
       case measure=>simp [intOf];omega
      have HBV:=Hz eh;rw [eh] at hb;have hli:W.live (i:Int):=I3.o.G.lv _ (show aw is3 (i:Int)=true by rw [HAT.o,eh]);have HLI:=Hz hli;have hded:=hli.2.2;have t0:=HRW.o.k hded;have t1:=HRW.o.f hded;have HRS:=Hz (HRW.o.s hded);obtain ⟨fo,fc,efv,-,-,-⟩:=HRS.o.rd;have HEF:=Hz efv;rw [efv] at t1;clear efv hded hli eh;obtain ⟨kd,hkd⟩:∃ x,(W.th (i:Int)).k=x:=⟨_,rfl⟩;rw [hkd] at t0;have HKD:=Hz hkd;clear hkd;by_cases h4:kd=4
      case neg=>
       have NX:=Hz (NXS.o _ (Kz wr).drew (λ_ hk=>by rw [HKD.o] at hk;exact absurd hk h4));have e4:(kd == 4)=false:=by simpa using h4
       clear h4 t1;refine a6 (ftq [0,1,2,4] (.pure 3 (.free 5 (.pure 6 (ftq [7,8,9,10] (.pure 11 (ftq [12,13,14,15,16,17] (.pure 18 (.free 19 (.free 20 (.pure 21 (ftq [22,23,24,25,26,28,29,30] (.pure 27 (.pure 31 (.free 32 (.free 33 (.pure 34 (.free 35 (.pure 36 (.free 37 (.free 38 (.fin)))))))))))))))))))))) [] (Fz c1 (Fz hb (Fa t0))) ?_
       iterate 39 refine Wz ?_
       refine av ?_;clear t0;clear c0 c1 cl p0 pl hb hbl hgt;go_wp2_with fail;go_roundw
       case rel=>
        first
        | exact NX.o
        | ((repeat apply Exists.intro);exact ⟨NX.o,rfl⟩)
       case measure=>simp [intOf];omega
      subst h4;obtain ⟨u,v,hfs⟩:∃ u v,(W.th (i:Int)).fs=[u,v]:=AP (by
       have:=HOK.o.tk _ HLI.o;rw [HKD.o] at this;simp [bj] at this
       omega)
      have rd3:Rd wr fo (aH [u,v]):=by
       have:=HRS.o;rw [HEF.o,hfs] at this;obtain ⟨_,_,e',rd,-,-⟩:=this.rd;cases e';exact rd
      obtain ⟨gf,of,rfl,hgf,u0,u1⟩:=rd3.val 0 (by simp);obtain ⟨_,_,e',-,v0,v1⟩:=rd3.val 1 (by simp);cases e';have lenE:(W.th (i:Int)).fs.length=2:=by rw [hfs];rfl
      rw [lenE] at t1;simp only [List.getD_cons_zero,List.getD_cons_succ,Nat.zero_mul,Nat.add_zero,Nat.one_mul] at u0 u1 v0 v1;have HFS:=Hz hfs;have HIN:=Hz (show v.1=3->W.live v.2 from λh3=>Wd.aY (HOK.o.tv _ HLI.o v (by rw [hfs];simp)) h3);have HIU:=Hz (show u.1=3->W.live u.2 from λh3=>Wd.aY (HOK.o.tv _ HLI.o u (by rw [hfs];simp)) h3);obtain ⟨uk,ux⟩:=u;dsimp only at u0 u1;clear rd3 lenE hfs;by_cases h3:uk=3
      case neg=>
       have e3:(uk == 3)=false:=by simpa using h3
       have HU:=Hz (show bY is3 (uk,ux)=true by unfold bY;simp [h3]);have e3':(uk != 3)=true:=by simpa using h3
       refine a6 (ftq [0,1,2,4] (.pure 3 (.free 5 (.pure 6 (ftq [7,8,9,10] (.pure 11 (ftq [12,13,14,15,16,17] (.pure 18 (.free 19 (.free 20 (.pure 21 (ftq [22,23,24,25,26,28,29,30] (.pure 27 (.pure 31 (.free 32 (.free 33 (.pure 34 (.free 35 (.pure 36 (.free 37 (.free 38 (.fin)))))))))))))))))))))) [] (Fz c1 (Fz hb (Fz t0 (Fz t1 (Fa u0))))) ?_
       iterate 39 refine Wz ?_
       refine av ?_;clear e3' h3;go_wp2_with (refine ct rfl 77 (.tmp 133) rfl (by kernel_rfl) gf _ rfl _ _ v0 v1 ?_);have I4:=Hz (I3.o.same (Kz wr).drew);refine (I4.o.mN v HIN.o HTT.o).mono ?_;rintro e w5 ⟨rfl,hU⟩;obtain ⟨nv5,i5⟩:=I4.o.to hU (I4.o.G.mark (GI.lead I4.o.G HOK.o (show aw is3 (i:Int)=true by rw [HAT.o,HBV.o]) HIN.o (ud HKD.o HFS.o HU.o)));have NX:=Hz (show ∃ (i2:Nat) (t3:List Bool × List Nat) (nv3:Value),i2<=W.T.length/\Value.int .i64 ((i:Int)+1)=.int .i64 i2/\LI w w5 gp lb ib nv nv3 W q s0 (λ_=>False) t3/\SB n0 t3/\(t3.2=[]->∀ j:Nat,j<i2->j5 W t3.1 (j:Int)) from
        ⟨i+1,cm (is3,nx3) v,nv5,hlt,rfl,i5,SB3.o.mark I4.o.G.len v HIN.o,λh0 j hj=>by
         have hin:=jR I4.o.G.len v HIN.o;rw [kU h0] at hin ⊢;by_cases e:j=i
         ·subst e;intro _ _ _ x hx h3;rw [HFS.o] at hx;simp at hx;subst hx;exact hin h3
         ·exact EP3.o (l7 h0) j (by omega)⟩)
       clear hU i5 v0 v1 hgf t0 t1 u0 u1 e3;clear c0 c1 cl p0 pl hb hbl hgt;go_wp2_with fail;go_roundw
       case rel=>
        first
        | exact NX.o
        | ((repeat apply Exists.intro);exact ⟨NX.o,rfl⟩)
       case measure=>simp [intOf];omega
      subst h3;have hlu:=HIU.o rfl;dsimp only at hlu;obtain ⟨x,rfl⟩:=Zg hlu.1;have hxl:x<W.T.length:=by have:=hlu.2.1;omega
      have hx:=I3.o.L.bool (i:=x) (by have:=HLN.o;dsimp only at this ⊢;omega);have HAX:=Hz (show aw is3 (x:Int)=is3.getD x false from dQ is3 x);have hxi:(x:Int)<W.T.length:=by omega
      clear hlu;cases bG:is3.getD x false
      ·rw [bG] at hx;have NX:=Hz (NXS.o _ (Kz wr).drew (λ_ _ h=>by
        rw [HFS.o] at h;have h:bY is3 (3,(x:Int))=true:=h;have e:aw is3 (x:Int)=false:=by rw [HAX.o,bG]
        unfold bY at h
        simp [e] at h))
       clear bG;refine a6 (ftq [0,1,2,4] (.pure 3 (.free 5 (.pure 6 (ftq [7,8,9,10] (.pure 11 (ftq [12,13,14,15,16,17] (.pure 18 (.free 19 (.free 20 (.pure 21 (ftq [22,23,24,25,26,28,29,30] (.pure 27 (.pure 31 (.free 32 (.free 33 (.pure 34 (.free 35 (.pure 36 (.free 37 (.free 38 (.fin)))))))))))))))))))))) [] (Fz c1 (Fz hb (Fz t0 (Fz t1 (Fz u0 (Fz u1 (Fa hx))))))) ?_
       iterate 39 refine Wz ?_
       refine av ?_;clear t0 t1 u0 u1 hx v0 v1 hgf;clear c0 c1 cl p0 pl hb hbl hgt;go_wp2_with fail;go_roundw
       case rel=>
        first
        | exact NX.o
        | ((repeat apply Exists.intro);exact ⟨NX.o,rfl⟩)
       case measure=>simp [intOf];omega
      ·rw [bG] at hx;have HU:=Hz (show bY is3 (3,(x:Int))=true by unfold bY;simp [show aw is3 (x:Int)=true by rw [HAX.o,bG]]);clear bG;refine a6 (ftq [0,1,2,4] (.pure 3 (.free 5 (.pure 6 (ftq [7,8,9,10] (.pure 11 (ftq [12,13,14,15,16,17] (.pure 18 (.free 19 (.free 20 (.pure 21 (ftq [22,23,24,25,26,28,29,30] (.pure 27 (.pure 31 (.free 32 (.free 33 (.pure 34 (.free 35 (.pure 36 (.free 37 (.free 38 (.fin)))))))))))))))))))))) [] (Fz c1 (Fz hb (Fz t0 (Fz t1 (Fz u0 (Fz u1 (Fa hx))))))) ?_
       iterate 39 refine Wz ?_
       refine av ?_;go_wp2_with (refine ct rfl 77 (.tmp 133) rfl (by kernel_rfl) gf _ rfl _ _ v0 v1 ?_);have I4:=Hz (I3.o.same (Kz wr).drew);refine (I4.o.mN v HIN.o HTT.o).mono ?_;rintro e w5 ⟨rfl,hU⟩;obtain ⟨nv5,i5⟩:=I4.o.to hU (I4.o.G.mark (GI.lead I4.o.G HOK.o (show aw is3 (i:Int)=true by rw [HAT.o,HBV.o]) HIN.o (ud HKD.o HFS.o HU.o)));have NX:=Hz (show ∃ (i2:Nat) (t3:List Bool × List Nat) (nv3:Value),i2<=W.T.length/\Value.int .i64 ((i:Int)+1)=.int .i64 i2/\LI w w5 gp lb ib nv nv3 W q s0 (λ_=>False) t3/\SB n0 t3/\(t3.2=[]->∀ j:Nat,j<i2->j5 W t3.1 (j:Int)) from
        ⟨i+1,cm (is3,nx3) v,nv5,hlt,rfl,i5,SB3.o.mark I4.o.G.len v HIN.o,λh0 j hj=>by
         have hin:=jR I4.o.G.len v HIN.o;rw [kU h0] at hin ⊢;by_cases e:j=i
         ·subst e;intro _ _ _ x hx h3;rw [HFS.o] at hx;simp at hx;subst hx;exact hin h3
         ·exact EP3.o (l7 h0) j (by omega)⟩)
       clear hU i5 v0 v1 hgf t0 t1 u0 u1 hx;clear c0 c1 cl p0 pl hb hbl hgt;go_wp2_with fail;go_roundw
       case rel=>
        first
        | exact NX.o
        | ((repeat apply Exists.intro);exact ⟨NX.o,rfl⟩)
       case measure=>simp [intOf];omega
     ·have hie:=Hz (show i=W.T.length by omega);have EPA:=Hz (show nx3=[]->∀ j:Nat,j<W.T.length->j5 W is3 (j:Int) from λh j hj=>EP3.o h j (by rw [hie.o];exact hj));have w0:=(SPK.o _ I3.o.K).S.hp.cell 3;simp only [Lz,aB] at w0;obtain ⟨wo,wc,ewv,-,-,-⟩:=(SPK.o _ I3.o.K).S.hw.rd;have HWV:=Hz ewv;rw [ewv] at w0;clear c1 ewv p0;go_wp2_with fail;clear c0 w0 cl pl;go_loopw [146] (λu wx=>∃ (f:Nat) (t4:List Bool × List Nat) (nv4:Value),f<=q.length/\u=.int .i64 f/\LI w wx gp lb ib nv nv4 W q s0 (λ_=>False) t4/\SB n0 t4/\(t4.2=[]->(∀ j:Nat,j<W.T.length->j5 W t4.1 (j:Int))/\∀ e ∈ q.take f,ry t4.1 e)) (λu _=>q.length-(intOf u).toNat)
      case atStart=>exact ⟨0,(is3,nx3),nv3,Zc _,rfl,I3.o,SB3.o,λh=>⟨EPA.o h,λe he=>by simp at he⟩⟩
      case round=>
       clear I3 SB3 EP3 EPA HLN hie hi;obtain ⟨f,t4,nv4,hf,rfl,hI,hsb,hcl⟩:=hrel;have I4:=Hz hI;have SB4:=Hz hsb;have CL4:=Hz hcl;clear hI hsb hcl;obtain ⟨is4,nx4⟩:=t4;have HLN:=Hz I4.o.G.len;by_cases hlt:f<q.length
       ·have rd3:Rd wr wo (aH q):=by
         have:=(SPK.o _ I4.o.K).S.hw;rw [HWV.o] at this;obtain ⟨_,_,e',rd,-,-⟩:=this.rd;cases e';exact rd
        obtain ⟨gf,of,rfl,hgf,v0,v1⟩:=rd3.fZ f hlt;have hmem:q.getD f (0,0) ∈ q:=by rw [Ld,Le hlt];exact Ze hlt
        have htk:=Hz (show q.take (f+1)=q.take f ++ [q.getD f (0,0)] by rw [<-List.take_append_getElem hlt,Ld,Le hlt];rfl);have HMM:=Hz hmem;generalize q.getD f (0,0)=e at *;obtain ⟨eg,et⟩:=e;dsimp only at v0 v1;obtain ⟨hl1,hk5,hl2⟩:=HQ.o _ HMM.o;dsimp only at hl1 hk5 hl2;obtain ⟨g5,rfl⟩:=Zg hl1.1;have hgl:g5<W.T.length:=by have:=hl1.2.1;omega
        have HK5:=Hz hk5;have HL2:=Hz hl2;have hgi:(g5:Int)<W.T.length:=by omega
        clear hmem rd3 hl1 hk5 hl2;go_upto_region 25 with (refine ct rfl 119 (.tmp 148) rfl (by kernel_rfl) gf (of+f*2) rfl _ _ v0 v1 ?_)
        have B5:=Hz (show ak (wr.alloc (.cells #[.int .i64 (g5:Int), .int .i64 et] 119)) wr.heap.size [.int .i64 (g5:Int), .int .i64 et] 119 from ak.newAt _ rfl rfl);have I5:=Hz (I4.o.same ((Kz wr).alloc (.cells #[.int .i64 (g5:Int), .int .i64 et] 119)));clear v0 v1 hgf;generalize wr.alloc (.cells #[.int .i64 (g5:Int), .int .i64 et] 119)=w5 at *;generalize wr.heap.size=sb at *;have z0:=B5.o.cell 0;have z1:=B5.o.cell 1;have sl:=B5.o.lt;have c1:=I5.o.L.hp.cell 1;have cl:=I5.o.L.hp.lt;simp only [Lz,aB] at z0 z1 c1;rw [HLN.o] at c1;have hb:=I5.o.L.bool (i:=g5) (by have:=HLN.o;dsimp only at this ⊢;omega);have hbl:=I5.o.L.hi.lt;have HAT:=Hz (show aw is4 (g5:Int)=is4.getD g5 false from dQ is4 g5);cases eh:is4.getD g5 false
        ·rw [eh] at hb;have NX:=Hz (show ∃ (f2:Nat) (t4:List Bool × List Nat) (nv4:Value),f2<=q.length/\Value.int .i64 ((f:Int)+1)=.int .i64 f2/\LI w w5.drew gp lb ib nv nv4 W q s0 (λ_=>False) t4/\SB n0 t4/\(t4.2=[]->(∀ j:Nat,j<W.T.length->j5 W t4.1 (j:Int))/\∀ e ∈ q.take f2,ry t4.1 e) from
          ⟨f+1,(is4,nx4),nv4,hlt,rfl,I5.o.same (Kz w5).drew,SB4.o,λh0=>⟨(CL4.o h0).1,λe he=>by
           rw [htk.o] at he;rcases Zk.1 he with he | he
           ·exact (CL4.o h0).2 e he
           ·rw [List.mem_singleton] at he;subst he;intro ha;have ha:aw is4 (g5:Int)=true:=ha
            rw [HAT.o,eh] at ha;cases ha⟩⟩)
         clear eh;refine a6 (ftq [0,1,2,4] (.pure 3 (.pure 5 (.free 6 (.pure 7 (.fin)))))) [] (Fz c1 (Fz hb (Fa z0))) ?_
         iterate 8 refine Wz ?_
         refine av ?_;clear c1 hb z0 z1 sl cl hbl;go_wp2_with fail;go_roundw
         case rel=>
          first
          | exact NX.o
          | ((repeat apply Exists.intro);exact ⟨NX.o,rfl⟩)
         case measure=>simp [intOf];omega
        ·rw [eh] at hb;have HBV:=Hz eh;clear eh;refine a6 (ftq [0,1,2,4] (.pure 3 (.pure 5 (.free 6 (.pure 7 (.fin)))))) [] (Fz c1 (Fz hb (Fa z0))) ?_
         iterate 8 refine Wz ?_
         refine av ?_;go_wp2_with fail;have I6:=Hz (I5.o.same (Kz w5).drew);refine (I6.o.mN (3,et) (λ_=>HL2.o) HTT.o).mono ?_;rintro e w6 ⟨rfl,hU⟩;obtain ⟨nv6,i6⟩:=I6.o.to hU (I6.o.G.mark (GI.lead I6.o.G HOK.o (i:=(g5:Int)) (show aw is4 (g5:Int)=true by rw [HAT.o,HBV.o]) (λ_=>HL2.o) (xj HK5.o HMM.o rfl)));have NX:=Hz (show ∃ (f2:Nat) (t4:List Bool × List Nat) (nv4:Value),f2<=q.length/\Value.int .i64 ((f:Int)+1)=.int .i64 f2/\LI w w6 gp lb ib nv nv4 W q s0 (λ_=>False) t4/\SB n0 t4/\(t4.2=[]->(∀ j:Nat,j<W.T.length->j5 W t4.1 (j:Int))/\∀ e ∈ q.take f2,ry t4.1 e) from
          ⟨f+1,cm (is4,nx4) (3,et),nv6,hlt,rfl,i6,SB4.o.mark I6.o.G.len (3,et) (λ_=>HL2.o),λh0=>by
           have hin:=jR I6.o.G.len (3,et) (λ_=>HL2.o) rfl;rw [kU h0] at hin ⊢;refine ⟨(CL4.o (l7 h0)).1,λe he=>?_⟩;rw [htk.o] at he;rcases Zk.1 he with he | he
           ·exact (CL4.o (l7 h0)).2 e he
           ·rw [List.mem_singleton] at he;subst he
            exact λ_=>hin⟩)
         clear hU i6 c1 hb z0 z1 sl cl hbl;go_wp2_with fail;go_roundw
         case rel=>
          first
          | exact NX.o
          | ((repeat apply Exists.intro);exact ⟨NX.o,rfl⟩)
         case measure=>simp [intOf];omega
       ·have hfe:=Hz (show q.take f=q by rw [List.take_of_length_le (by omega)]);have c2:=I4.o.L.hp.cell 2;have cl:=I4.o.L.hp.lt;simp only [Lz,aB] at c2;obtain ⟨no4,nc4,en4,-,-,-⟩:=I4.o.L.hn.rd;have HE4:=Hz en4;rw [en4] at c2;clear en4;cases nx4 with
        | nil=>
         have CE:=Hz (show is4=W.cY q s0 from GI.closed HOK.o I4.o.G HS0.o (CL4.o rfl).1 (by have:=(CL4.o rfl).2;rw [hfe.o] at this;exact this));have FE:=Hz (show gfalsW wr ib<=n0 by rw [I4.o.L.bS];exact SB4.o.1);simp only [List.length_nil] at c2;clear hf;go_wp2_with fail;go_roundw
         case rel=>exact ⟨false,(is4,[]),nv4,rfl,I4.o,λ_=>by rw [CE.o]⟩
         case measure=>have:=FE.o;(try dsimp only);omega
        | cons k4 r4=>
         have FE:=Hz (show gfalsW wr ib<n0 by
          rw [I4.o.L.bS];rcases SB4.o.2 with h | h
          ·cases h
          ·exact h)
         simp only [List.length_cons] at c2;have hnp:(0:Int)<((r4.length+1:Nat):Int):=by omega
         clear hf;go_wp2_with fail;go_roundw
         case rel=>exact ⟨true,(is4,k4 :: r4),nv4,rfl,I4.o,λh=>by cases h⟩
         case measure=>have:=FE.o;(try dsimp only);omega
   | cons k r=>
    have hlv:=I2.o.G.lv _ (I2.o.G.nx k (by simp));have hkT:k<W.T.length:=by have:=hlv.2.1;omega
    have S2:=Hz (SPK.o _ I2.o.K);have p0:=S2.o.S.hp.cell 0;have pl:=S2.o.S.hp.lt;simp only [Lz,aB] at p0;obtain ⟨gt,ot,ntc,etl,hgt,hrow⟩:=S2.o.nth hkT;have hnl:=I2.o.L.hn;rw [HEN.o] at hnl;obtain ⟨gn,on,cn,cur,e',hbn,hn1,hn2,hn3,hn4⟩:=hnl.laid (by simp);cases e';have hk0:wr.cell? ⟨gn,on,none⟩=some (.int .i64 k):=by
     have:=hbn.cell on;rw [this];have h5:((cur.drop on).take ((k :: r).length*1))[0]? = some (.int .i64 k):=by rw [hn4];rfl
     rw [List.getElem?_take,if_pos (by simp),List.getElem?_drop] at h5;exact h5
    have hpop:=dC.pop (by have h:=I2.o.L;rw [HEN.o] at h;exact h);have hfx:=I2.o.L.hp.free 2;have hd:W.T.length=W.T.length:=rfl;have HLV:=Hz hlv;have hded:(W.th (k:Int)).dead=false:=hlv.2.2;have hrk:=hrow.k hded;have hrf:=hrow.f hded;have HRS:=Hz (hrow.s hded);have HLEN:=Hz (show tF wr lb 2=r.length+1 from I2.o.L.uX);have HFAL:=Hz (show gfalsW wr ib=cL is from I2.o.L.bS);have HPOP:=Hz hpop;have HFV:=Hz etl;rw [etl] at p0;simp only [List.length_cons] at c2 hn1;have hgn:=hbn.lt;have hki:(k:Int)<W.T.length:=by omega
    have hrl:(0:Int)<=(r.length:Int):=by omega
    clear hnl hbn hn2 hn3 hn4 hpop hrow etl hlv hd;have hnp:(0:Int)<((r.length+1:Nat):Int):=by omega
    go_upto_region 3 with (fail);refine a6 (ftq [0,1,2,7,8,9] (.pure 3 (.free 4 (.free 5 (.pure 6 (.pure 10 (.free 11 (.pure 12 (.free 13 (.free 14 (.fin))))))))))) [] (Fz c0 (Fz p0 (Fz c2 (Fa hk0)))) ?_
    iterate 15 refine Wz ?_
    refine av ?_;go_upto_region 5 with (fail)
    obtain ⟨nv3,I3⟩:=I2.o.to (show g6 wr gp lb ib nv2 _ (is,r) by rw [HEN.o];exact HPOP.o) I2.o.G.pop;have I3h:=Hz (I3.same (Kz _).drew);clear I3;have I3:=I3h;clear I3h HPOP hk0 hgn hgt p0 pl c0 c2 cl hfx hded hrk hrf HRS S2 hnp hrl hn1;generalize (wr.setCell { block:=lb,off:=2 } (Value.slice (if nc=1 then some { block:=gn,off:=on } else some { block:=gn,off:=on+1 }) r.length (nc-1))).drew=w3 at *;generalize (if nc=1 then some (⟨gn,on,none⟩:Addr) else some ⟨gn,on+1,none⟩)=pv at *;obtain ⟨hg3,hrow⟩:=(SPK.o _ I3.o.K).row hkT HFV.o;have hded:(W.th (k:Int)).dead=false:=HLV.o.2.2;have t0:=hrow.k hded;have t1:=hrow.f hded;have HRS:=Hz (hrow.s hded);obtain ⟨fo,fc,efv,-,hfml,hfm2⟩:=HRS.o.rd;have HEF:=Hz efv;rw [efv] at t1;clear efv hrow hded;obtain ⟨kd,hkd⟩:∃ x,(W.th (k:Int)).k=x:=⟨_,rfl⟩;rw [hkd] at t0;have HKD:=Hz hkd;clear hkd;have HAK:=Hz (show aw is (k:Int)=true from I2.o.G.nx k (by simp));by_cases h1:kd=1
    ·subst h1;have HKK:=Hz (show (W.th (k:Int)).k=1\/(W.th (k:Int)).k=2 by have:=HKD.o;omega);go_wp2_with fail;obtain ⟨fs,hfs⟩:∃ l,(W.th (k:Int)).fs=l:=⟨_,rfl⟩;rw [hfs] at t1 HRS HEF hfml hfm2;have HFS:=Hz hfs;rw [hfs];clear hfs t0 t1 hg3;go_loopw [51] (λu wx=>∃ (f:Nat) (t2:List Bool × List Nat) (nv2:Value),f<=fs.length/\u=.int .i64 f/\LI w wx gp lb ib nv nv2 W q s0 (λi=>i=(k:Int)) t2/\(2*cL t2.1+t2.2.length<=2*cL is+r.length/\cL t2.1<=cL is)/\aw t2.1 (k:Int)=true/\∀ v ∈ fs.take f,v.1=3->aw t2.1 v.2=true) (λu _=>fs.length-(intOf u).toNat)
     case atStart=>exact ⟨0,(is,r),nv3,Zc _,rfl,I3.o,⟨Zb _,Zb _⟩,HAK.o,λv hv=>by simp at hv⟩
     case round=>
      obtain ⟨f,t2,nv4,hf,rfl,hI,hms,hak,hlk⟩:=hrel;have I4:=Hz hI;have MS:=Hz hms;have AK:=Hz hak;have LK:=Hz hlk;clear hI hms hak hlk;by_cases hlt:f<fs.length
      ·have rd3:Rd wr fo (aH fs):=by
        have:=((SPK.o _ I4.o.K).row hkT HFV.o).2.s HLV.o.2.2;rw [HFS.o,HEF.o] at this;obtain ⟨_,_,e',rd,-,-⟩:=this.rd;cases e';exact rd
       obtain ⟨gf,of,rfl,hgf,v0,v1⟩:=rd3.val f hlt;have hmem:fs.getD f (0,0) ∈ fs:=by rw [Ld,Le hlt];exact Ze hlt
       have htk:=Hz (show fs.take (f+1)=fs.take f ++ [fs.getD f (0,0)] by rw [<-List.take_append_getElem hlt,Ld,Le hlt];rfl);have HMM:=Hz hmem;generalize fs.getD f (0,0)=v at *;have HIN:=Hz (show v.1=3->W.live v.2 from λh3=>Wd.aY (HOK.o.tv _ HLV.o v (by rw [HFS.o];exact hmem)) h3);have LD:=Hz (GI.lead I4.o.G HOK.o AK.o (v:=v) HIN.o (pK HKK.o (by rw [HFS.o];exact hmem)));clear hmem rd3;go_wp2_with (refine ct rfl 77 (.tmp 53) rfl (by kernel_rfl) gf (of+f*2) rfl _ _ v0 v1 ?_);have IA:=Hz (I4.o.same ((Kz wr).alloc (.cells #[.int .i64 v.1, .int .i64 v.2] 77)));refine (IA.o.mN v HIN.o HTT.o).mono ?_;rintro e w5 ⟨rfl,hU⟩;obtain ⟨nv5,i5⟩:=IA.o.to hU (IA.o.G.mark LD.o);have I5:=Hz i5;have UP:=Hz (qp I4.o.G.len v HIN.o);have IN:=Hz (jR I4.o.G.len v HIN.o);have MM:=Hz (kV I4.o.G.len v HIN.o);clear hU i5 v0 v1 hgf IA;have HWR:=Hz (show wrap64 ((f:Int)+1)=((f+1:Nat):Int) from by unfold maxLen at hfml;rw [IntWalk.wrap64_in _ (by omega)];omega);have NX:=Hz (show ∃ (f2:Nat) (t3:List Bool × List Nat) (nv2:Value),f2<=fs.length/\Value.int .i64 (wrap64 ((f:Int)+1))=.int .i64 f2/\LI w w5 gp lb ib nv nv2 W q s0 (λi=>i=(k:Int)) t3/\(2*cL t3.1+t3.2.length<=2*cL is+r.length/\cL t3.1<=cL is)/\aw t3.1 (k:Int)=true/\∀ v ∈ fs.take f2,v.1=3->aw t3.1 v.2=true from
        ⟨f+1,cm t2 v,nv5,hlt,by rw [HWR.o],I5.o,by have:=MS.o;have:=MM.o;omega,UP.o _ AK.o,λu hu h3=>by
         rw [htk.o] at hu;rcases Zk.1 hu with hu | hu
         ·exact UP.o _ (LK.o u hu h3)
         ·rw [List.mem_singleton] at hu;subst hu;exact IN.o h3⟩)
       go_wp2_with fail;go_roundw
       case rel=>
        first
        | exact NX.o
        | ((repeat apply Exists.intro);exact ⟨NX.o,rfl⟩)
       case measure=>rw [HWR.o];simp only [intOf];omega
      ·have hfe:=Hz (show f=fs.length by omega);have IZ:=Hz (show LI w wr gp lb ib nv nv4 W q s0 (λ_=>False) t2 from ⟨I4.o.L,I4.o.K,I4.o.O,I4.o.G.done ⟨λ_ v hv h3=>LK.o v (by rw [hfe.o,List.take_length,<-HFS.o];exact hv) h3,λh3=>by have:=HKK.o;omega⟩⟩);clear hf;go_wp2_with fail;go_roundw
       case rel=>
        first
        | exact ⟨t2,nv4,IZ.o,by have:=MS.o;omega⟩
        | ((repeat apply Exists.intro);exact ⟨⟨t2,nv4,IZ.o,by have:=MS.o;omega⟩,rfl⟩)
       case measure=>
        have e1:=IZ.o.L.bS;have e2:=IZ.o.L.uX;rw [e1,e2,HLEN.o,HFAL.o];have:=MS.o;omega
    by_cases h2:kd=2
    ·subst h2;have HKK:=Hz (show (W.th (k:Int)).k=1\/(W.th (k:Int)).k=2 by have:=HKD.o;omega);go_wp2_with fail;obtain ⟨fs,hfs⟩:∃ l,(W.th (k:Int)).fs=l:=⟨_,rfl⟩;rw [hfs] at t1 HRS HEF hfml hfm2;have HFS:=Hz hfs;rw [hfs];clear hfs t0 t1 hg3;go_loopw [51] (λu wx=>∃ (f:Nat) (t2:List Bool × List Nat) (nv2:Value),f<=fs.length/\u=.int .i64 f/\LI w wx gp lb ib nv nv2 W q s0 (λi=>i=(k:Int)) t2/\(2*cL t2.1+t2.2.length<=2*cL is+r.length/\cL t2.1<=cL is)/\aw t2.1 (k:Int)=true/\∀ v ∈ fs.take f,v.1=3->aw t2.1 v.2=true) (λu _=>fs.length-(intOf u).toNat)
     case atStart=>exact ⟨0,(is,r),nv3,Zc _,rfl,I3.o,⟨Zb _,Zb _⟩,HAK.o,λv hv=>by simp at hv⟩
     case round=>
      obtain ⟨f,t2,nv4,hf,rfl,hI,hms,hak,hlk⟩:=hrel;have I4:=Hz hI;have MS:=Hz hms;have AK:=Hz hak;have LK:=Hz hlk;clear hI hms hak hlk;by_cases hlt:f<fs.length
      ·have rd3:Rd wr fo (aH fs):=by
        have:=((SPK.o _ I4.o.K).row hkT HFV.o).2.s HLV.o.2.2;rw [HFS.o,HEF.o] at this;obtain ⟨_,_,e',rd,-,-⟩:=this.rd;cases e';exact rd
       obtain ⟨gf,of,rfl,hgf,v0,v1⟩:=rd3.val f hlt;have hmem:fs.getD f (0,0) ∈ fs:=by rw [Ld,Le hlt];exact Ze hlt
       have htk:=Hz (show fs.take (f+1)=fs.take f ++ [fs.getD f (0,0)] by rw [<-List.take_append_getElem hlt,Ld,Le hlt];rfl);have HMM:=Hz hmem;generalize fs.getD f (0,0)=v at *;have HIN:=Hz (show v.1=3->W.live v.2 from λh3=>Wd.aY (HOK.o.tv _ HLV.o v (by rw [HFS.o];exact hmem)) h3);have LD:=Hz (GI.lead I4.o.G HOK.o AK.o (v:=v) HIN.o (pK HKK.o (by rw [HFS.o];exact hmem)));clear hmem rd3;go_wp2_with (refine ct rfl 77 (.tmp 53) rfl (by kernel_rfl) gf (of+f*2) rfl _ _ v0 v1 ?_);have IA:=Hz (I4.o.same ((Kz wr).alloc (.cells #[.int .i64 v.1, .int .i64 v.2] 77)));refine (IA.o.mN v HIN.o HTT.o).mono ?_;rintro e w5 ⟨rfl,hU⟩;obtain ⟨nv5,i5⟩:=IA.o.to hU (IA.o.G.mark LD.o);have I5:=Hz i5;have UP:=Hz (qp I4.o.G.len v HIN.o);have IN:=Hz (jR I4.o.G.len v HIN.o);have MM:=Hz (kV I4.o.G.len v HIN.o);clear hU i5 v0 v1 hgf IA;have HWR:=Hz (show wrap64 ((f:Int)+1)=((f+1:Nat):Int) from by unfold maxLen at hfml;rw [IntWalk.wrap64_in _ (by omega)];omega);have NX:=Hz (show ∃ (f2:Nat) (t3:List Bool × List Nat) (nv2:Value),f2<=fs.length/\Value.int .i64 (wrap64 ((f:Int)+1))=.int .i64 f2/\LI w w5 gp lb ib nv nv2 W q s0 (λi=>i=(k:Int)) t3/\(2*cL t3.1+t3.2.length<=2*cL is+r.length/\cL t3.1<=cL is)/\aw t3.1 (k:Int)=true/\∀ v ∈ fs.take f2,v.1=3->aw t3.1 v.2=true from
        ⟨f+1,cm t2 v,nv5,hlt,by rw [HWR.o],I5.o,by have:=MS.o;have:=MM.o;omega,UP.o _ AK.o,λu hu h3=>by
         rw [htk.o] at hu;rcases Zk.1 hu with hu | hu
         ·exact UP.o _ (LK.o u hu h3)
         ·rw [List.mem_singleton] at hu;subst hu;exact IN.o h3⟩)
       go_wp2_with fail;go_roundw
       case rel=>
        first
        | exact NX.o
        | ((repeat apply Exists.intro);exact ⟨NX.o,rfl⟩)
       case measure=>rw [HWR.o];simp only [intOf];omega
      ·have hfe:=Hz (show f=fs.length by omega);have IZ:=Hz (show LI w wr gp lb ib nv nv4 W q s0 (λ_=>False) t2 from ⟨I4.o.L,I4.o.K,I4.o.O,I4.o.G.done ⟨λ_ v hv h3=>LK.o v (by rw [hfe.o,List.take_length,<-HFS.o];exact hv) h3,λh3=>by have:=HKK.o;omega⟩⟩);clear hf;go_wp2_with fail;go_roundw
       case rel=>
        first
        | exact ⟨t2,nv4,IZ.o,by have:=MS.o;omega⟩
        | ((repeat apply Exists.intro);exact ⟨⟨t2,nv4,IZ.o,by have:=MS.o;omega⟩,rfl⟩)
       case measure=>
        have e1:=IZ.o.L.bS;have e2:=IZ.o.L.uX;rw [e1,e2,HLEN.o,HFAL.o];have:=MS.o;omega
    have e1:(kd == 1)=false:=by simpa using h1
    have e2:(kd == 2)=false:=by simpa using h2
    by_cases h3:kd=3
    ·subst h3;clear e1 e2 h1 h2;obtain ⟨u,v,hfs⟩:∃ u v,(W.th (k:Int)).fs=[u,v]:=AP (by
      have:=HOK.o.tk _ HLV.o;rw [HKD.o] at this;simp [bj] at this
      omega)
     have rd3:Rd w3 fo (aH [u,v]):=by
      have:=HRS.o;rw [HEF.o,hfs] at this;obtain ⟨_,_,e',rd,-,-⟩:=this.rd;cases e';exact rd
     obtain ⟨gf,of,rfl,hgf,v0,v1⟩:=rd3.val 1 (by simp);have lenE:(W.th (k:Int)).fs.length=2:=by rw [hfs];rfl
     rw [lenE] at t1;simp only [List.getD_cons_zero,List.getD_cons_succ,Nat.zero_mul,Nat.add_zero,Nat.one_mul] at v0 v1;have HFS:=Hz hfs;have HIN:=Hz (show v.1=3->W.live v.2 from λh3=>Wd.aY (HOK.o.tv _ HLV.o v (by rw [hfs];simp)) h3);have LD:=Hz (GI.lead I3.o.G HOK.o HAK.o (v:=v) HIN.o (yc HKD.o hfs));clear rd3 lenE hfs;go_wp2_with (refine ct rfl 77 (.tmp 66) rfl (by kernel_rfl) gf _ rfl _ _ v0 v1 ?_);refine (I3.o.mN v HIN.o HTT.o).mono ?_;rintro e w5 ⟨rfl,hU⟩;obtain ⟨nv5,i5⟩:=I3.o.to hU (I3.o.G.mark LD.o);have MM:=Hz (kV I3.o.G.len v HIN.o);have IN:=jR I3.o.G.len v HIN.o;have IZ:=Hz (show LI w w5 gp lb ib nv nv5 W q s0 (λ_=>False) (cm (is,r) v) from ⟨i5.L,i5.K,i5.O,i5.G.done ⟨λhk=>by have:=HKD.o;omega,λ_ x hx h3=>by
      rw [HFS.o] at hx;simp at hx;subst hx
      exact IN h3⟩⟩)
     clear hU i5 v0 v1 hgf IN;go_wp2_with fail;go_roundw
     case rel=>
      first
      | exact ⟨cm (is,r) v,nv5,IZ.o,by have:=MM.o;(try dsimp only at this);omega⟩
      | ((repeat apply Exists.intro);exact ⟨⟨cm (is,r) v,nv5,IZ.o,by have:=MM.o;(try dsimp only at this);omega⟩,rfl⟩)
     case measure=>
      have e1:=IZ.o.L.bS;have e2:=IZ.o.L.uX;rw [e1,e2,HLEN.o,HFAL.o];try dsimp only
      have:=MM.o;(try dsimp only at this);omega
    have e3:(kd == 3)=false:=by simpa using h3
    have IZ:=Hz (show LI w w3 gp lb ib nv nv3 W q s0 (λ_=>False) (is,r) from ⟨I3.o.L,I3.o.K,I3.o.O,I3.o.G.done ⟨λhk=>by have:=HKD.o;omega,λhk=>by have:=HKD.o;omega⟩⟩);have MM:=Hz (show 2*cL (is,r).1+(is,r).2.length<=2*cL is+r.length/\cL (is,r).1<=cL is from ⟨Zb _,Zb _⟩);clear h1 h2 h3;go_wp2_with fail;go_roundw
    case rel=>
     first
     | exact ⟨(is,r),nv3,IZ.o,by have:=MM.o;(try dsimp only at this);omega⟩
     | ((repeat apply Exists.intro);exact ⟨⟨(is,r),nv3,IZ.o,by have:=MM.o;(try dsimp only at this);omega⟩,rfl⟩)
    case measure=>
     have e1:=IZ.o.L.bS;have e2:=IZ.o.L.uX;rw [e1,e2,HLEN.o,HFAL.o];try dsimp only
     have:=MM.o;(try dsimp only at this);omega
end
end
end Go.Proofs.YtjifdalflepcoadGreat
