/-
  Parts of the proof, merged: what the functions do, and plain laws.
-/
import Derived.Test.YtjifdalflepcoadGreatTRPP4
import Derived.Test.YtjifdalflepcoadGreatTRPP5
set_option maxHeartbeats 16000000
set_option maxRecDepth 100000
set_option linter.unusedVariables false
set_option linter.unusedSimpArgs false
namespace Go.Proofs.YtjifdalflepcoadGreat
section
open Go.RowKit
variable {gx:GX}
variable {τ:Type}
def ky {P:Program} {p:Nat} (L:fj gx P p τ) (t:τ) (F:Nat->Prop) (rv wv:Value) (ai wait:List (Int × Int)) (w:World) (e:Ending) (w':World):Prop:=
 e=.returned (.tuple #[])/\∃ F' rv' wv',L.J w' (dw L.alive L.ab t ai wait).1 F' /\
  bX gx w' p rv' wv' (bq L.alive L.now (dw L.alive L.ab t ai wait).1 (dw L.alive L.ab t ai wait).2.2) (bt L.alive L.now (dw L.alive L.ab t ai wait).1 (dw L.alive L.ab t ai wait).2.1) /\
  eG F' p rv' wv'/\aa (λb=>F b\/aG p rv wv b) w w'/\(∀ b,F' b->F b\/w.heap.size<=b)/\(∀ b,aG p rv' wv' b->aG p rv wv b\/w.heap.size<=b)
def jS {P:Program} {p:Nat} (L:fj gx P p τ) (w:World) (F:Nat->Prop) (rv wv:Value) (b0 b1 b2:Nat) (t:τ) (ai wait:List (Int × Int)) (N:Nat) (wr:World) (more:Bool) (items:List It):Prop:=
 ∃ n t' q' F' wv',iB L w F rv wv b0 b1 b2 items q' t' F' wv' wr/\items.map (·.1)=ai/\q'.length+cN items<=N/\(more=true->cN items<n) /\
  dw L.alive L.ab t ai wait=if more then roundsM L.alive L.ab n t' q' items else (t',q',items)
theorem jS.start {P:Program} {p:Nat} {L:fj gx P p τ} {w:World} {F:Nat->Prop} {rv wv:Value} {t:τ} {ai wait:List (Int × Int)} {wr wm:World}
  (hJ:L.J w t F) (h:bX gx w p rv wv ai wait) (hap:eG F p rv wv) (hD1:∀ e ∈ ai,(L.D t e.1/\L.DK t e.2)/\L.Q e) (hD:∀ e ∈ wait,(L.D t e.1/\L.D t e.2)/\L.Q e)
  (hk:aa (λb=>w.heap.size<=b) w wr) (h0:ak wr w.heap.size L.cells 135) (h1:ak wr (w.heap.size+1) (gH L.alive t ai ai.length) 4)
  (hkm:aa (λ_=>False) wr wm) (h2:ak wm wr.heap.size (List.replicate ai.length (.bool false)) 4):jS L w F rv wv w.heap.size (w.heap.size+1) wr.heap.size t ai wait (wait.length+ai.length) wm true (c6 L.alive t ai):=by
 have k2:aa (λb=>w.heap.size<=b) w wm:=hk.trans (hkm.mono λ_ _ h=>h.elim);have l1:=h1.lt;have hF:∀ b,w.heap.size<=b->¬ F b:=λb hb hf=>by have:=L.J_lt hJ hf;omega
 refine ⟨ai.length+1,t,wait,F,wv,⟨L.J_keep hJ k2 (λb hb hw=>hF b hw hb),?_,hap,?_,λb hb=>.inl hb,λb hb=>.inl hb,hkm.au h0 (λh=>h),?_,?_,hF _ (Zb _),hF _ (by omega),hF _ (by omega),Zb _,by omega,by omega,by omega,hD,?_⟩,kW _ _ _,?_,?_,?_⟩
 ·rw [kW];exact h.ab k2 (λb hb hw=>by have:=h.jX hb;omega)
 ·exact ⟨k2.os,k2.tape,k2.output,k2.size,λb hb hn=>k2.block b hb (by omega)⟩
 ·rw [<-rz];exact hkm.au h1 (λh=>h)
 ·rw [<-oS];exact h2
 ·intro i hi;unfold c6 at hi;simp only [List.mem_map] at hi;obtain ⟨e,he,rfl⟩:=hi;exact hD1 e he
 ·rw [ma];exact Zb _
 ·intro _;rw [ma];omega
 ·rfl
theorem jS.next {P:Program} {p:Nat} {L:fj gx P p τ} {w:World} {F:Nat->Prop} {rv wv:Value} {b0 b1 b2:Nat} {t:τ} {ai wait:List (Int × Int)} {N n:Nat} {t':τ} {q':List (Int × Int)} {items:List It} {w2:World} {more:Bool}
  (hf:items.map (·.1)=ai) (hn:cN items<n) (he:dw L.alive L.ab t ai wait=roundsM L.alive L.ab n t' q' items) (hs:gW L w F rv wv b0 b1 b2 t' q' items N w2 ai.length more) :
  ∃ done,jS L w F rv wv b0 b1 b2 t ai wait N w2 more done/\cN done<=cN items/\(more=true->cN done<cN items)/\ak w2 b2 (done.map λi=>.bool i.2.2) 4:=by
 obtain ⟨t2,q2,F2,v2,done,hd,hm,hN,hE⟩:=hs;have hl:items.length=ai.length:=by rw [<-hf];simp
 rw [<-hl,List.drop_length,List.append_nil] at hm hN;rw [<-hl,List.drop_length] at hE;simp only [scanM,List.append_nil,Bool.or_false] at hE;obtain ⟨m,rfl⟩:∃ m,n=m+1:=⟨n-1,by omega⟩;have hu:=nh L.alive L.ab items t' q';have hfs:=jj L.alive L.ab items t' q';rw [hE] at hu hfs;simp only at hu hfs;refine ⟨done,⟨m,t2,q2,F2,v2,hm,?_,hN,λh=>by have:=hu.2 h;omega,?_⟩,hu.1,hu.2,hm.h2⟩
 ·have:=congrArg (List.map (λx:(Int × Int) × Bool=>x.1)) hfs;simp only [List.map_map] at this;rw [<-hf];exact this
 ·rw [he];simp only [roundsM,hE]
theorem ky.done {P:Program} {p:Nat} {L:fj gx P p τ} {w:World} {F:Nat->Prop} {rv wv:Value} {b0 b1 b2:Nat} {t:τ} {ai wait:List (Int × Int)} {t':τ} {q':List (Int × Int)} {items:List It} {F':Nat->Prop} {wv':Value} {wr w1 w2:World} {v1 v2:Value}
  (he:dw L.alive L.ab t ai wait=(t',q',items)) (h:iB L w F rv wv b0 b1 b2 items q' t' F' wv' wr) (n1:fm wr w1 v1 (bq L.alive L.now t' items)) (n2:fm w1 w2 v2 (bt L.alive L.now t' q')) :
  ky L t F rv wv ai wait w (.returned (.tuple #[])) ((w2.setCell ⟨p,2,none⟩ v1).setCell ⟨p,3,none⟩ v2):=by
 have hm2:=(h.ab n1.2.1).ab n2.2.1;have kset:=((aa.refl (·=p) w2).setCell (p:=⟨p,2,none⟩) (.inl rfl) v1).setCell (p:=⟨p,3,none⟩) (.inl rfl) v2;have hpl:=h.hS.hp.lt;have s1:=n1.2.1.size;have s0:=h.hK.size;have o1:¬ aq v1 p:=λhb=>by have:=n1.2.2 p hb;omega
 have o2:¬ aq v2 p:=λhb=>by have:=n2.2.2 p hb;omega
 unfold ky;rw [he];refine ⟨rfl,F',v1,v2,L.J_keep hm2.hJ kset (by rintro b hb rfl;exact h.hA b ⟨hb, .inl rfl⟩),⟨by simpa using (hm2.hS.hp.aE 2 v1).aE 3 v2,(n1.1.ab n2.2.1 (λ_ _ h=>h)).ab kset (by rintro b hb rfl;exact o1 hb),n2.1.ab kset (by rintro b hb rfl;exact o2 hb),?_⟩,?_,
  (hm2.hK.setCell (p:=⟨p,2,none⟩) (.inl (.inr (.inl rfl))) v1).setCell (p:=⟨p,3,none⟩) (.inl (.inr (.inl rfl))) v2,h.hF,?_⟩
 ·rintro b ⟨h1,h2⟩;have:=(n1.1.own h1).1;have:=n2.2.2 b h2;omega
 ·rintro b ⟨h1,h2 | h2 | h2⟩
  ·exact h.hA b ⟨h1, .inl h2⟩
  ·have:=L.J_lt h.hJ h1;have:=n1.2.2 b h2;omega
  ·have:=L.J_lt h.hJ h1;have:=n2.2.2 b h2;omega
 ·rintro b (h1 | h1 | h1)
  ·exact .inl (.inl h1)
  ·have:=n1.2.2 b h1;exact .inr (by omega)
  ·have:=n2.2.2 b h1;exact .inr (by omega)
theorem yK (p:Nat) (L:fj gx Tryz.prog p τ) (t:τ) (F:Nat->Prop) (rv wv:Value) (ai wait:List (Int × Int)) (w:World)
  (hJ:L.J w t F) (h:bX gx w p rv wv ai wait) (hap:eG F p rv wv) (hl1:ai.length<=100000) (hl2:wait.length<=100000) (hD1:∀ e ∈ ai,(L.D t e.1/\L.DK t e.2)/\L.Q e) (hD:∀ e ∈ wait,(L.D t e.1/\L.D t e.2)/\L.Q e) :
  Calls Tryz.prog 78 #[.pointer (some ⟨p,2,none⟩),L.val] w λe w'=>ky L t F rv wv ai wait w e w':=by
 obtain ⟨ie,hie,hez0,hez1,hez2⟩:=info_parts iF;have Hi:=Hz hie;have Hz0:=Hz hez0;have Hz1:=Hz hez1;have Hz2:=Hz hez2;clear hie hez0 hez1 hez2;obtain ⟨ib,hi,hz0,hz1,hz2⟩:=info_parts kl;have hmk:=λ(wx:World) (n:Nat) (h1:n<=9223372036854775807) (h2:n<=281474976710656)=>dV (P:=Tryz.prog) wx 23 4 ib (.bool false) Tryz.underlying23 hi hz0 rfl hz1 n (by rw [hz2];omega) h1;have HM:=Hz hmk;clear hmk hi hz0 hz1 hz2;have hk:=λ(wx:World)=>HM.o wx ai.length (by omega) (by omega);obtain ⟨ro,rc,rfl,hrd,_,_⟩:=h.hr.rd;have c0:=h.hp.cell 2;simp only [Lz,aB] at c0;have hpl:=h.hp.lt;have H:=Hz h;have HR:=Hz hrd;have HJ:=Hz hJ;have HA:=Hz hap;have HD:=Hz hD;have HD1:=Hz hD1;clear h hrd hJ hap hD hD1;have ea:=L.ea;have ek:=L.ek;have en:=L.en;generalize hbox:w.alloc (.cells #[.func (.func L.fa) L.a1 L.a2, .func (.func L.fk) L.k1 L.k2, .func (.func L.fn) L.n1 L.n2] 135)=wb;have hkb:aa (λ_=>False) w wb:=by rw [<-hbox];exact (aa.refl _ _).alloc _
 have hbb:ak wb w.heap.size L.cells 135:=by rw [<-hbox];exact ak.newAt _ rfl rfl
 have hszb:wb.heap.size=w.heap.size+1:=by rw [<-hbox];simp
 have HKB:=Hz hkb;have HBB:=Hz hbb;have HSZ:=Hz hszb;have HBX:=Hz hbox;clear hkb hbb hszb hbox;generalize hwd:wb.alloc (.cells (Array.replicate ai.length (.bool false)) 4)=wd;have hkd:aa (λ_=>False) wb wd:=by rw [<-hwd];exact (aa.refl _ _).alloc _
 have hbd:ak wd (w.heap.size+1) (gH L.alive t ai 0) 4:=by rw [<-hwd];exact ak.newAt _ HSZ.o.symm (by simp [gH])
 have HKD:=Hz hkd;have HBD:=Hz hbd;have HWD:=Hz hwd;clear hkd hbd hwd;unfold fj.val;go_enter Tryz.func78,Tryz.ntmps78;go_wp2_with fail;rw [HBX.o,HWD.o];go_loopw [29] (λi wr=>∃ k:Nat,k<=ai.length/\i=.int .i64 k/\ak wr (w.heap.size+1) (gH L.alive t ai k) 4/\aa (·=w.heap.size+1) wd wr) (λi _=>ai.length-(intOf i).toNat)
 case atStart=>exact ⟨0,Zc _,rfl,HBD.o,aa.refl _ _⟩
 case round=>
  obtain ⟨k,hkl,rfl,hbl,hkr⟩:=hrel;have HBL:=Hz hbl;have HKR:=Hz hkr;have hkw:aa (λb=>w.heap.size<=b) w wr:=((HKB.o.trans HKD.o).mono λ_ _ h=>h.elim).trans (hkr.mono (by rintro b _ rfl;omega));have hkn:∀ b,b<w.heap.size->¬ (w.heap.size<=b):=λb h=>by omega
  have HKW:=Hz hkw;have HKN:=Hz hkn;clear hbl hkr hkw hkn;by_cases hlt:k<ai.length
  ·have hrd:=HR.o.ab HKW.o (λa _ h=>HKN.o _ h);obtain ⟨g,o,rfl,hgl,d0,d1⟩:=hrd.fZ k hlt;have hvd0:=(HD1.o (ai.getD k (0,0)) (by simp [List.getD,hlt])).1;have hvd:=And.intro hvd0.1 (L.DK_D hvd0.2);clear hvd0;have HDS:=Hz (td (alive:=L.alive) (t:=t) hlt);generalize ai.getD k (0,0)=v at *;have hbx:ak wr w.heap.size L.cells 135:=HKR.o.au (HKD.o.au HBB.o (λh=>h)) (by omega);have HX:=Hz hbx;have HV:=Hz hvd;have b0:=hbx.cell 0;have bl:=hbx.lt;simp only [fj.cells,Lz] at b0;clear hrd hvd hbx;go_wp2_with fail;have hk0:=(Kz wr).alloc (.cells #[Value.int IntKind.i64 v.fst,Value.int IntKind.i64 v.snd] 119);refine (L.cX _ t F v.2 (L.J_keep HJ.o (HKW.o.trans (hk0.mono λ_ _ h=>h.elim)) (λb h=>HKN.o b (L.J_lt HJ.o h))) HV.o.2).mono ?_;rintro e w1 ⟨rfl,hk1⟩;have HB1:=Hz (hk1.au (hk0.au HBL.o (λh=>h)) (λh=>h));have HK1:=Hz (HKR.o.trans ((hk0.trans hk1).mono λ_ _ h=>h.elim));clear hk0 hk1;obtain ⟨aK,q0⟩:∃ aK,w1.cell? ⟨w.heap.size+1,k,none⟩=some aK:=⟨_,by rw [HB1.o.cell,Le (by rw [oR (Nat.le_of_lt hlt)];exact hlt)]⟩;have qf:=HB1.o.free k;have ql:=HB1.o.lt;go_wp2_with fail;go_roundw
   case rel=>exact ⟨k+1,by omega,by go_num,by rw [HDS.o];exact HB1.o.aE k _,HK1.o.setCell (p:=⟨w.heap.size+1,k,none⟩) (.inl rfl) _⟩
   case measure=>simp [intOf];omega
  ·obtain rfl:k=ai.length:=by omega
   have p0:=(HKW.o.au H.o.hp (HKN.o _ hpl)).cell 2;have pl:=(HKW.o.au H.o.hp (HKN.o _ hpl)).lt;simp only [Lz,aB] at p0;have hbx:ak wr w.heap.size L.cells 135:=HKR.o.au (HKD.o.au HBB.o (λh=>h)) (by omega);generalize hwm:wr.alloc (.cells (Array.replicate ai.length (.bool false)) 4)=wm;have hst:=jS.start (wm:=wm) HJ.o H.o HA.o HD1.o HD.o HKW.o hbx HBL.o (by rw [<-hwm];exact (aa.refl _ _).alloc _) (by rw [<-hwm];exact ak.newAt _ rfl (by simp));have hr0:w.heap.size+2<=wr.heap.size:=HBL.o.lt;have HST:=Hz hst;have HWM:=Hz hwm;have HR0:=Hz hr0;clear hst hwm hbx hr0;go_wp2_with fail;rw [HWM.o];generalize wr.heap.size=b2 at *;go_loopw [8] (λv wx=>∃ more items,v=.bool more/\jS L w F (.slice ro ai.length rc) wv w.heap.size (w.heap.size+1) b2 t ai wait (wait.length+ai.length) wx more items) (λv wx=>2*cntF wx b2+bit v)
   case atStart=>exact ⟨true,_,rfl,HST.o⟩
   case round=>
    obtain ⟨more,items,rfl,n,t',q',F',wv',hm,hf,hN,hun,he⟩:=hrel;have GM:=Hz hm;have GF:=Hz hf;have GN:=Hz hN;have GU:=Hz hun;have GE:=Hz he;have hsr:=hm.hS;rw [hf] at hsr;have GS:=Hz hsr;have x0:=hm.hS.hp.cell 2;have xl:=hm.hS.hp.lt;simp only [Lz,aB] at x0;have hbl:=Za (Zb _) hm.h2.lt;have hcn:=nG hm.h2;have HCN:=Hz hcn;clear hm hf hN hun he hsr hcn p0 pl c0 HST;have p0:=x0;clear x0;cases more
    ·have he:=GE.o;simp only [Bool.false_eq_true,if_false] at he;have GE2:=Hz he;clear he GE;go_wp2_with fail;go_loopw [12,106] (λv i wx=>∃ (k:Nat),k<=ai.length/\i=.int .i64 k/\fm wr wx v (bq L.alive L.now t' (items.take k))) (λ_ i _=>ai.length-(intOf i).toNat)
     case atStart=>exact ⟨0,Zc _,rfl,fm.nil wr⟩
     case round=>
      obtain ⟨k,hk,rfl,hnl⟩:=hrel;have KNL:=Hz hnl;have hmk:=GM.o.ab hnl.2.1;have hil:items.length=ai.length:=by rw [<-GF.o];simp
      clear hnl;by_cases hlt:k<ai.length
      ·have hki:k<items.length:=by omega
       have hst:=oT (alive:=L.alive) (now:=L.now) (t:=t') hki;have hvd0:=(hmk.hr items[k] (Ze hki)).1;have hvd:=And.intro hvd0.1 (L.DK_D hvd0.2);clear hvd0;have hgk:items[k]? = some items[k]:=Le hki;have hfs:ai.getD k (0,0)=items[k].1:=by rw [<-GF.o];simp [List.getD,hki]
       have hsr:=hmk.hS;rw [GF.o] at hsr;obtain ⟨_,_,e',hrd,_,_⟩:=hsr.hr.rd;cases e';obtain ⟨g,o,rfl,hgl,d0,d1⟩:=hrd.fZ k hlt;rw [hfs] at d0 d1;have f0:=hmk.h0.cell 0;have fl:=hmk.h0.lt;have r1:=hmk.h1.cell k;have r1l:=hmk.h1.lt;rw [Zw,hgk] at r1;simp only [Option.map_some] at r1;simp only [fj.cells,Lz,aB] at f0;have hle:(bq L.alive L.now t' (items.take k)).length<=100000:=Za rA (Za (List.length_take_le _ _) (by omega));generalize items[k]=i at *;obtain ⟨v,dd,mv⟩:=i;have KM:=Hz hmk;have KST:=Hz hst;have KV:=Hz hvd;have KLE:=Hz hle;clear hmk hst hvd hgk hfs hsr hrd hle;cases dd
       ·go_wp2_with fail;have hk0:=(Kz wr).alloc (.cells #[Value.int IntKind.i64 v.fst,Value.int IntKind.i64 v.snd] 119);refine (L.cX _ t' F' v.1 (L.J_keep KM.o.hJ hk0 (λ_ _ h=>h)) KV.o.1).mono ?_;rintro e w1 ⟨rfl,hk1⟩;have KK1:=Hz (hk0.trans hk1);have KE1:=Hz (hk1.au (ak.newAt (w:=wr) _ rfl rfl) (λh=>h));clear hk0 hk1;cases ha:L.alive t' v.1
        ·go_wp2_with fail;go_roundw
         case rel=>exact ⟨k+1,by omega,by go_num,by rw [KST.o,ha];simpa using KNL.o.ab KK1.o⟩
         case measure=>simp [intOf];omega
        ·have hm1:=KM.o.ab KK1.o;clear f0 fl r1 r1l d0 d1;have f2:=hm1.h0.cell 2;have e0:=KE1.o.cell 0;have e1:=KE1.o.cell 1;simp only [fj.cells,Lz,aB] at f2 e0 e1;clear hm1;go_wp2_with fail;refine cy [(0,0),(1,0),(3,0),(6,0),(8,0),(2,0),(4,0),(7,0),(9,0),(5,1),(10,1),(11,0),(12,1),(13,1),(14,0)] (λw'=>w'.cell? ⟨w.heap.size,2,none⟩=some (.func (.func L.fn) L.n1 L.n2)/\w'.cell? ⟨wr.heap.size,0,none⟩=some (.int .i64 v.1)/\w'.cell? ⟨wr.heap.size,1,none⟩=some (.int .i64 v.2)) (by kernel_rfl) (by kernel_rfl) ⟨f2,e0,e1⟩ ?_
         iterate 9 (refine bp rfl rfl _ (λw' hG=>by obtain ⟨g0,g1,g2⟩:=hG;go_simp;exact bA.mk _ _) (λK hK=>?_);go_simp;refine hK _ ?_;clear hK K)
         refine bB rfl rfl (λK hK=>?_);unfold ax;go_simp;have kd1:aa (λ_=>False) wr w1.drew:=KK1.o.trans ((aa.refl _ w1).drew);refine (L.now_c _ t' F' v.1 (KM.o.ab kd1).hJ KV.o.1).mono ?_;rintro e w2 ⟨rfl,hk2⟩;have kd2:=kd1.trans hk2;have be2:=hk2.au (KE1.o.drew) (λh=>h);refine hK _ _ ⟨(KM.o.ab kd2).h0.cell 2,be2.cell 0,be2.cell 1⟩ ?_;clear hK K;refine bB rfl rfl (λK hK=>?_);unfold ax;go_simp;refine (L.now_c _ t' F' v.2 (KM.o.ab kd2).hJ KV.o.2).mono ?_;rintro e w3 ⟨rfl,hk3⟩;have kd3:=kd2.trans hk3;have be3:=hk3.au be2 (λh=>h);refine hK _ _ ⟨(KM.o.ab kd3).h0.cell 2,be3.cell 0,be3.cell 1⟩ ?_;clear hK K;have KD3:=Hz kd3;have KB3:=Hz be3;clear kd1 kd2 kd3 be2 be3 hk2 hk3 f2 e0 e1
         iterate 1 (refine bp rfl rfl _ (λw' hG=>by obtain ⟨g0,g1,g2⟩:=hG;go_simp;exact bA.mk _ _) (λK hK=>?_);go_simp;refine hK _ ?_;clear hK K)
         refine bB rfl rfl (λK hK=>?_);unfold ax;go_simp;refine hK _ _ ?_ ?_
         ·have k:=(Kz w3).alloc (.cells #[.int .i64 (L.now t' v.1), .int .i64 (L.now t' v.2)] 119);exact ⟨(KM.o.ab (KD3.o.trans k)).h0.cell 2,(k.au KB3.o (λh=>h)).cell 0,(k.au KB3.o (λh=>h)).cell 1⟩
         clear hK K;refine bB rfl rfl (λK hK=>?_);have hle:=KLE.o;refine dN (.tmp 123) (.tmp 135) 82 rfl 119 ie (.agg #[.int .i64 0, .int .i64 0]) 2 16 Tryz.underlying82 Hi.o Hz0.o Hz1.o Hz2.o rfl (by decide) _ (bq L.alive L.now t' (items.take k)).length (aH (bq L.alive L.now t' (items.take k))) rfl ?ja ⟨w3.heap.size,0,none⟩ 1 1 [.int .i64 (L.now t' v.1), .int .i64 (L.now t' v.2)] rfl rfl ?jb ?jc ?jd ?je ?jf
         case ja=>exact (KNL.o.ab (KD3.o.trans ((Kz w3).alloc _))).1
         case jb=>exact bV w3 119 #[.int .i64 (L.now t' v.1), .int .i64 (L.now t' v.2)]
         case jc=>intro u hu;simp at hu;rcases hu with rfl | rfl <;> rfl
         case jd=>unfold maxLen;omega
         case je=>omega
         case jf=>
          intro v5 w5 hs5 hk5 ho5;have hka:aa (λ_=>False) w3 (w3.alloc (.cells #[.int .i64 (L.now t' v.1), .int .i64 (L.now t' v.2)] 119)):=(Kz w3).alloc _;have hnw:=fm.app (e:=(L.now t' v.1,L.now t' v.2)) KNL.o (KD3.o.trans hka) hs5 hk5 ho5;have kd5:=KD3.o.trans hka;have KNW:=Hz hnw;have hm5:=KM.o.ab (w2:=w3.alloc (.cells #[.int .i64 (L.now t' v.1), .int .i64 (L.now t' v.2)] 119)) kd5;have be5:=hka.au KB3.o (λh=>h);have nb0:¬ aq u12 w.heap.size:=λh=>by
           obtain ⟨_,cur,hc⟩:=KNL.o.1.own h;exact KM.o.h0.ne hc (by decide) rfl
          have nb1:¬ aq u12 wr.heap.size:=λh=>by
           have:=(KNL.o.1.own h).1;omega
          refine hK _ _ ⟨(hk5.au hm5.h0 nb0).cell 2,(hk5.au be5 nb1).cell 0,(hk5.au be5 nb1).cell 1⟩ ?_;clear hK K hs5 hk5 ho5 hka hnw kd5 hm5 be5 nb0 nb1
          iterate 1 (refine bp rfl rfl _ (λw' hG=>by obtain ⟨g0,g1,g2⟩:=hG;go_simp;exact bA.mk _ _) (λK hK=>?_);go_simp;refine hK _ ?_;clear hK K)
          refine dE ?_;go_wp2_with fail;go_roundw
          case rel=>exact ⟨k+1,by omega,by go_num,by rw [KST.o,ha];exact KNW.o⟩
          case measure=>simp [intOf];omega
       ·go_wp2_with fail;go_roundw
        case rel=>exact ⟨k+1,by omega,by go_num,by rw [KST.o];simpa using KNL.o.ab ((aa.refl _ _).alloc _)⟩
        case measure=>simp [intOf];omega
      ·obtain rfl:k=ai.length:=by omega
       have htk:items.take ai.length=items:=by rw [<-hil];exact List.take_length
       have hnl:=KNL.o;rw [htk] at hnl;obtain ⟨n1,c1,rfl,_,_,_⟩:=hnl.1.rd;obtain ⟨wo,wc,rfl,_,_,_⟩:=hmk.hS.hw.rd;have p1:=hmk.hS.hp.cell 3;have pl1:=hmk.hS.hp.lt;simp only [Lz,aB] at p1;have hql:q'.length<=200000:=by have:=GN.o;omega
       have KN1:=Hz hnl;have KM0:=Hz hmk;clear hnl hmk htk KNL;go_wp2_with fail;go_loopw [13,143] (λv i wx=>∃ (k:Nat),k<=q'.length/\i=.int .i64 k/\fm wr wx v (bt L.alive L.now t' (q'.take k))) (λ_ i _=>q'.length-(intOf i).toNat)
       case atStart=>exact ⟨0,Zc _,rfl,fm.nil wr⟩
       case round=>
        obtain ⟨k,hk,rfl,hnl⟩:=hrel;have KNL:=Hz hnl;have hmk:=KM0.o.ab hnl.2.1;clear hnl;by_cases hlt:k<q'.length
        ·have hst:=oU (alive:=L.alive) (now:=L.now) (t:=t') hlt;have hvd:=(hmk.hq (q'.getD k (0,0)) (by simp [List.getD,hlt])).1;obtain ⟨_,_,e',hrd,_,_⟩:=hmk.hS.hw.rd;cases e';obtain ⟨g,o,rfl,hgl,d0,d1⟩:=hrd.fZ k hlt;have f0:=hmk.h0.cell 0;have fl:=hmk.h0.lt;simp only [fj.cells,Lz,aB] at f0;have hle:(bt L.alive L.now t' (q'.take k)).length<=200000:=Za rB (Za (List.length_take_le _ _) (by omega));generalize q'.getD k (0,0)=v at *;have KM:=Hz hmk;have KST:=Hz hst;have KV:=Hz hvd;have KLE:=Hz hle;clear hmk hst hvd hrd hle;go_wp2_with fail;have hk0:=(Kz wr).alloc (.cells #[Value.int IntKind.i64 v.fst,Value.int IntKind.i64 v.snd] 119);refine (L.cX _ t' F' v.1 (L.J_keep KM.o.hJ hk0 (λ_ _ h=>h)) KV.o.1).mono ?_;rintro e w1 ⟨rfl,hk1⟩;have KK1:=Hz (hk0.trans hk1);have KE1:=Hz (hk1.au (ak.newAt (w:=wr) _ rfl rfl) (λh=>h));clear hk0 hk1;cases ha:L.alive t' v.1
         ·go_wp2_with fail;go_roundw
          case rel=>exact ⟨k+1,by omega,by go_num,by rw [KST.o,ha];simpa using KNL.o.ab KK1.o⟩
          case measure=>simp [intOf];omega
         ·have hm1:=KM.o.ab KK1.o;clear f0 fl d0 d1;have f2:=hm1.h0.cell 2;have e0:=KE1.o.cell 0;have e1:=KE1.o.cell 1;simp only [fj.cells,Lz,aB] at f2 e0 e1;clear hm1;go_wp2_with fail;refine cy [(0,0),(1,0),(3,0),(6,0),(8,0),(2,0),(4,0),(7,0),(9,0),(5,1),(10,1),(11,0),(12,1),(13,1),(14,0)] (λw'=>w'.cell? ⟨w.heap.size,2,none⟩=some (.func (.func L.fn) L.n1 L.n2)/\w'.cell? ⟨wr.heap.size,0,none⟩=some (.int .i64 v.1)/\w'.cell? ⟨wr.heap.size,1,none⟩=some (.int .i64 v.2)) (by kernel_rfl) (by kernel_rfl) ⟨f2,e0,e1⟩ ?_
          iterate 9 (refine bp rfl rfl _ (λw' hG=>by obtain ⟨g0,g1,g2⟩:=hG;go_simp;exact bA.mk _ _) (λK hK=>?_);go_simp;refine hK _ ?_;clear hK K)
          refine bB rfl rfl (λK hK=>?_);unfold ax;go_simp;have kd1:aa (λ_=>False) wr w1.drew:=KK1.o.trans ((aa.refl _ w1).drew);refine (L.now_c _ t' F' v.1 (KM.o.ab kd1).hJ KV.o.1).mono ?_;rintro e w2 ⟨rfl,hk2⟩;have kd2:=kd1.trans hk2;have be2:=hk2.au (KE1.o.drew) (λh=>h);refine hK _ _ ⟨(KM.o.ab kd2).h0.cell 2,be2.cell 0,be2.cell 1⟩ ?_;clear hK K;refine bB rfl rfl (λK hK=>?_);unfold ax;go_simp;refine (L.now_c _ t' F' v.2 (KM.o.ab kd2).hJ KV.o.2).mono ?_;rintro e w3 ⟨rfl,hk3⟩;have kd3:=kd2.trans hk3;have be3:=hk3.au be2 (λh=>h);refine hK _ _ ⟨(KM.o.ab kd3).h0.cell 2,be3.cell 0,be3.cell 1⟩ ?_;clear hK K;have KD3:=Hz kd3;have KB3:=Hz be3;clear kd1 kd2 kd3 be2 be3 hk2 hk3 f2 e0 e1
          iterate 1 (refine bp rfl rfl _ (λw' hG=>by obtain ⟨g0,g1,g2⟩:=hG;go_simp;exact bA.mk _ _) (λK hK=>?_);go_simp;refine hK _ ?_;clear hK K)
          refine bB rfl rfl (λK hK=>?_);unfold ax;go_simp;refine hK _ _ ?_ ?_
          ·have k:=(Kz w3).alloc (.cells #[.int .i64 (L.now t' v.1), .int .i64 (L.now t' v.2)] 119);exact ⟨(KM.o.ab (KD3.o.trans k)).h0.cell 2,(k.au KB3.o (λh=>h)).cell 0,(k.au KB3.o (λh=>h)).cell 1⟩
          clear hK K;refine bB rfl rfl (λK hK=>?_);have hle:=KLE.o;refine dN (.tmp 152) (.tmp 164) 82 rfl 119 ie (.agg #[.int .i64 0, .int .i64 0]) 2 16 Tryz.underlying82 Hi.o Hz0.o Hz1.o Hz2.o rfl (by decide) _ (bt L.alive L.now t' (q'.take k)).length (aH (bt L.alive L.now t' (q'.take k))) rfl ?la ⟨w3.heap.size,0,none⟩ 1 1 [.int .i64 (L.now t' v.1), .int .i64 (L.now t' v.2)] rfl rfl ?lb ?lc ?ld ?le ?lf
          case la=>exact (KNL.o.ab (KD3.o.trans ((Kz w3).alloc _))).1
          case lb=>exact bV w3 119 #[.int .i64 (L.now t' v.1), .int .i64 (L.now t' v.2)]
          case lc=>intro u hu;simp at hu;rcases hu with rfl | rfl <;> rfl
          case ld=>unfold maxLen;omega
          case le=>omega
          case lf=>
           intro v5 w5 hs5 hk5 ho5;have hka:aa (λ_=>False) w3 (w3.alloc (.cells #[.int .i64 (L.now t' v.1), .int .i64 (L.now t' v.2)] 119)):=(Kz w3).alloc _;have hnw:=fm.app (e:=(L.now t' v.1,L.now t' v.2)) KNL.o (KD3.o.trans hka) hs5 hk5 ho5;have kd5:=KD3.o.trans hka;have KNW:=Hz hnw;have hm5:=KM.o.ab (w2:=w3.alloc (.cells #[.int .i64 (L.now t' v.1), .int .i64 (L.now t' v.2)] 119)) kd5;have be5:=hka.au KB3.o (λh=>h);have nb0:¬ aq u13 w.heap.size:=λh=>by
            obtain ⟨_,cur,hc⟩:=KNL.o.1.own h;exact KM.o.h0.ne hc (by decide) rfl
           have nb1:¬ aq u13 wr.heap.size:=λh=>by
            have:=(KNL.o.1.own h).1;omega
           refine hK _ _ ⟨(hk5.au hm5.h0 nb0).cell 2,(hk5.au be5 nb1).cell 0,(hk5.au be5 nb1).cell 1⟩ ?_;clear hK K hs5 hk5 ho5 hka hnw kd5 hm5 be5 nb0 nb1
           iterate 1 (refine bp rfl rfl _ (λw' hG=>by obtain ⟨g0,g1,g2⟩:=hG;go_simp;exact bA.mk _ _) (λK hK=>?_);go_simp;refine hK _ ?_;clear hK K)
           refine dE ?_;go_wp2_with fail;go_roundw
           case rel=>exact ⟨k+1,by omega,by go_num,by rw [KST.o,ha];exact KNW.o⟩
           case measure=>simp [intOf];omega
        ·obtain rfl:k=q'.length:=by omega
         have hnl:=KNL.o;rw [List.take_length] at hnl;obtain ⟨n2,c2,rfl,_,_,_⟩:=hnl.1.rd;have hmk:=KM0.o.ab KNL.o.2.1;have p0:=hmk.hS.hp.cell 2;have p1:=hmk.hS.hp.cell 3;have fz0:=hmk.hS.hp.free 2;have fz1:=hmk.hS.hp.free 3;have pl:=hmk.hS.hp.lt;simp only [Lz,aB] at p0 p1;have KN2:=Hz hnl;clear hnl hmk KNL;go_wp2_with fail;go_end0;exact ky.done GE2.o GM.o KN1.o KN2.o
    ·have he:=GE.o;simp only [if_true] at he;have GE2:=Hz he;have hun:=GU.o rfl;clear he GE;have hl0:items.length=ai.length:=by rw [<-GF.o];simp
     have HI:gW L w F (.slice ro ai.length rc) wv w.heap.size (w.heap.size+1) b2 t' q' items (wait.length+ai.length) wr 0 false:=
      ⟨t',q',F',wv',[],rfl,by simpa using GM.o,by simpa using GN.o,by simp⟩
     have HL0:=Hz hl0;clear hl0;go_wp2_with fail;go_loopw [8,56] (λv i wx=>∃ (k:Nat) (more:Bool),k<=ai.length/\i=.int .i64 k/\v=.bool more/\gW L w F (.slice ro ai.length rc) wv w.heap.size (w.heap.size+1) b2 t' q' items (wait.length+ai.length) wx k more) (λ_ i _=>ai.length-(intOf i).toNat)
     case atStart=>exact ⟨0,false,Zc _,rfl,rfl,HI⟩
     case round=>
      clear HI;obtain ⟨k,more,hk,rfl,rfl,hsc⟩:=hrel;by_cases hlt:k<ai.length
      ·obtain ⟨t2,q2,F2,v2,done,hd,hm,hN,hE⟩:=hsc;have hki:k<items.length:=by rw [HL0.o];exact hlt
       have hdr:items.drop k=items[k] :: items.drop (k+1):=List.drop_eq_getElem_cons hki;rw [hdr] at hm hN hE;generalize items[k]=i at *;obtain ⟨v,dd,mv⟩:=i;have hln:((done ++ (v,dd,mv) :: items.drop (k+1)).map (·.1)).length=ai.length:=by
        have:=HL0.o;simp [hd];omega
       have hgt:((done ++ (v,dd,mv) :: items.drop (k+1)).map (·.1)).getD k (0,0)=v:=by simp [List.getD,hd]
       obtain ⟨_,_,e',hrd,_,_⟩:=hm.hS.hr.rd;rw [hln] at e';cases e';obtain ⟨g,o,rfl,hgl,d0,d1⟩:=hrd.fZ k (by omega);rw [hgt] at d0 d1;have f0:=hm.h0.cell 0;have f1:=hm.h0.cell 1;have fl:=hm.h0.lt;have r1:=hm.h1.cell k;have r1l:=hm.h1.lt;have r2:=hm.h2.cell k;have r2l:=hm.h2.lt;simp only [fj.cells,Lz,aB] at f0 f1;have hgk:(done ++ (v,dd,mv) :: items.drop (k+1))[k]? = some (v,dd,mv):=by simp [hd]
       rw [Zw,hgk] at r1 r2;simp only [Option.map_some] at r1 r2;have fz:=hm.h2.free k;have hvd:=(hm.hr (v,dd,mv) (by simp)).1;have hvq:=(hm.hr (v,dd,mv) (by simp)).2;have KM:=Hz hm;have KD:=Hz hd;have KDR:=Hz hdr;have KN:=Hz hN;have KE:=Hz hE;have KV:=Hz hvd;have KQ:=Hz hvq;have KL:=Hz hln;clear hm hd hdr hN hE hgt hrd hgk hvd hvq hln;have SKIP:Hd (∀ w2,aa (λ_=>False) wr w2->((dd && !mv) && L.alive t2 v.1)=false->gW L w F (.slice (some ⟨g,o,none⟩) ai.length rc) wv w.heap.size (w.heap.size+1) b2 t' q' items (wait.length+ai.length) w2 (k+1) more):=λw2 h1 h2=>gW.skip KD.o KDR.o KM.o KN.o KE.o h1 h2;cases dd
       ·go_wp2_with fail;go_roundw
        case rel=>exact ⟨k+1,more,by omega,by go_num,rfl,SKIP.o _ ((aa.refl _ _).alloc _) rfl⟩
        case measure=>simp [intOf];omega
       ·cases mv
        ·go_wp2_with fail;have hk0:=(Kz wr).alloc (.cells #[Value.int IntKind.i64 v.fst,Value.int IntKind.i64 v.snd] 119);refine (L.cX _ t2 F2 v.1 (L.J_keep KM.o.hJ hk0 (λ_ _ h=>h)) KV.o.1).mono ?_;rintro e w1 ⟨rfl,hk1⟩;have KK1:=Hz (hk0.trans hk1);have KE1:=Hz (hk1.au (ak.newAt (w:=wr) _ rfl rfl) (λh=>h));cases ha:L.alive t2 v.1
         ·clear hk0 hk1;go_wp2_with fail;go_roundw
          case rel=>exact ⟨k+1,more,by omega,by go_num,rfl,SKIP.o _ KK1.o (by rw [ha];rfl)⟩
          case measure=>simp [intOf];omega
         ·have hm1:=KM.o.ab KK1.o;have hm2:=hm1.move;rw [KD.o] at hm2;clear f0 f1 fl r1 r1l r2 r2l fz d0 d1 hk0 hk1;have r2:=hm1.h2.cell k;have r2l:=hm1.h2.lt;have hgk:(done ++ (v,true,false) :: items.drop (k+1))[k]? = some (v,true,false):=by simp [KD.o]
          rw [Zw,hgk] at r2;simp only [Option.map_some] at r2;have fz:=hm1.h2.free k;have f1:=hm1.h0.cell 1;have fl:=hm1.h0.lt;simp only [fj.cells,Lz,aB] at f1;have e1:=KE1.o.cell 1;have el:=KE1.o.lt;simp only [Lz,aB] at e1;have hbe:b2<wr.heap.size:=KM.o.h2.lt;have hbl0:w.heap.size<wr.heap.size:=KM.o.h0.lt;have hr0:=HR0.o;have hr1:w.heap.size≠b2:=by omega
          have KM2:=Hz hm2;clear hm1 hm2 hgk;go_wp2_with fail;refine (L.keep_c _ t2 F2 _ v2 _ q2 v.2 KM2.o.hJ KM2.o.hS KM2.o.hA KV.o.2 KM2.o.hq (by have:=KN.o;omega)).mono ?_;rintro e w4 ⟨rfl,F4,hJ4,hS4,hA4,hk4,hF4⟩;have hm4:=KM2.o.kept KV.o.2 hJ4 hS4 hA4 hk4 hF4;have hlen:(L.ab t2 q2 v.2).2.1.length=q2.length:=L.keep_len;have hql:(L.ab t2 q2 v.2).2.1.length<=200000:=by have:=KN.o;omega
          have hdn:=L.D_new (wait:=q2) KV.o.2;have hdg:=L.D_keep (wait:=q2) KV.o.2 KV.o.1;have hdq:=L.Q_new (wait:=q2) KV.o.2 KQ.o;have hb4:=hk4.au ((KE1.o).cj (a:=⟨b2,k,none⟩) (by show wr.heap.size≠b2;omega) (.bool true)) (by
           rintro (h | h)
           ·have:=L.J_lt KM.o.hJ h;omega
           ·have:=KM.o.hS.jX h;omega)
          obtain ⟨wo,wc,rfl,_,_,_⟩:=hm4.hS.hw.rd;clear hJ4 hS4 hA4 hk4 hF4 hlen f1 fl r2 r2l fz e1 el;generalize hr:L.ab t2 q2 v.2=r at *;have KR:=Hz hr;have KM4:=Hz hm4;have KDN:Hd ((L.D r.1 v.1/\L.D r.1 r.2.2)/\L.Q (v.1,r.2.2)):=⟨⟨hdg,hdn⟩,hdq⟩;have KB4:=Hz hb4;have p1:=hm4.hS.hp.cell 3;have pl1:=hm4.hS.hp.lt;have e0:=hb4.cell 0;have el:=hb4.lt;have fz:=hm4.hS.hp.free 3;simp only [Lz,aB] at p1 e0;clear hr hm4 hdn hdg hdq hb4;go_wp2_with fail;refine cy [(0,0),(1,0),(2,0),(3,0),(5,0),(7,0),(4,0),(6,0),(8,0),(9,1),(10,1),(11,0),(12,0),(13,2)] (λw'=>w'.cell? ⟨p,3,none⟩=some (.slice wo r.2.1.length wc)/\w'.cell? ⟨wr.heap.size,0,none⟩=some (.int .i64 v.1)) (by kernel_rfl) (by kernel_rfl) ⟨p1,e0⟩ ?_
          iterate 9 (refine bp rfl rfl _ (λw' hG=>by obtain ⟨g0,g1⟩:=hG;go_simp;exact bA.mk _ _) (λK hK=>?_);go_simp;refine hK _ ?_;clear hK K)
          refine bB rfl rfl (λK hK=>?_);unfold ax;go_simp;refine hK _ _ ?_ ?_
          ·have k:=(Kz w4).alloc (.cells #[.int .i64 v.1, .int .i64 r.2.2] 119);exact ⟨(k.au KM4.o.hS.hp (λh=>h)).cell 3,(k.au KB4.o (λh=>h)).cell 0⟩
          clear hK K;refine bB rfl rfl (λK hK=>?_);refine dN (.tmp 91) (.tmp 96) 82 rfl 119 ie (.agg #[.int .i64 0, .int .i64 0]) 2 16 Tryz.underlying82 Hi.o Hz0.o Hz1.o Hz2.o rfl (by decide) _ r.2.1.length (aH r.2.1) rfl ?ha ⟨w4.heap.size,0,none⟩ 1 1 [.int .i64 v.1, .int .i64 r.2.2] rfl rfl ?hb ?hc ?hd ?he ?hf
          case ha=>exact KM4.o.hS.hw.ab (((Kz w4).alloc _).drew) (λ_ _ h=>h)
          case hb=>exact bV w4 119 #[.int .i64 v.1, .int .i64 r.2.2]
          case hc=>intro u hu;simp at hu;rcases hu with rfl | rfl <;> rfl
          case hd=>unfold maxLen;omega
          case he=>omega
          case hf=>
           intro v5 w5 hs5 hk5 ho5;have hka:aa (λ_=>False) w4 ((w4.alloc (.cells #[.int .i64 v.1, .int .i64 r.2.2] 119)).drew):=((Kz w4).alloc _).drew;have hm5:=KM4.o.ab hka;have hp5:=hk5.au hm5.hS.hp hm5.hS.pw;have hb5:=hk5.au (hka.au KB4.o (λh=>h)) (λh=>by
            have:=(KM.o.hS.hw.own h).1
            omega)
           refine hK _ _ ⟨hp5.cell 3,hb5.cell 0⟩ ?_;clear hK K;have hs6:Sl w5 119 2 v5 (r.2.1 ++ [(v.1,r.2.2)]).length (aH (r.2.1 ++ [(v.1,r.2.2)])):=by simpa [aH] using hs5
           obtain ⟨vo,vc,rfl,_,_,_⟩:=hs6.rd;have KM6:=Hz (hm5.app (e:=(v.1,r.2.2)) KDN.o hs6 hk5 ho5);have d0:=hp5.cell 3;have dl:=hp5.lt;have f0:=hp5.free 3;simp only [Lz,aB] at d0;rw [Zq] at KM6;clear hs5 hk5 ho5 hka hm5 hp5 hb5 hs6 p1 pl1 e0 el fz
           iterate 2 (refine bp rfl rfl _ (λw' hG=>by obtain ⟨g0,g1⟩:=hG;go_simp;exact bA.mk _ _) (λK hK=>?_);go_simp;refine hK _ ?_;clear hK K)
           refine kH rfl rfl (λK hK=>?_);unfold ax;go_simp;refine hK _ _ ?_;clear hK K;refine dE ?_;go_wp2_with fail;go_roundw
           case rel=>exact ⟨k+1,true,by omega,by go_num,rfl,gW.zJ KD.o KN.o KE.o (by rw [KR.o];exact KM6.o) (by rw [ha];rfl)⟩
           case measure=>simp [intOf];omega
        ·go_wp2_with fail;go_roundw
         case rel=>exact ⟨k+1,more,by omega,by go_num,rfl,SKIP.o _ ((aa.refl _ _).alloc _) rfl⟩
         case measure=>simp [intOf];omega
      ·obtain rfl:k=ai.length:=by omega
       obtain ⟨done,hmi,h1,h2,h3⟩:=jS.next GF.o hun GE2.o hsc
       have HMI:=Hz hmi;have hc2:=nG h3;have HC2:=Hz hc2;clear hmi h3 hsc hc2;go_wp2_with fail;go_roundw
       case rel=>exact ⟨more,done,rfl,HMI.o⟩
       case measure=>
        rw [HCN.o,HC2.o];cases more
        ·show 2*cN done+0<2*cN items+1
         omega
        ·have:=h2 rfl
         show 2*cN done+1<2*cN items+1
         omega
end
end Go.Proofs.YtjifdalflepcoadGreat
