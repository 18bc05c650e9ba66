/-
  Parts of the proof, merged: what the functions do, and plain laws.
-/
import Derived.Test.YtjifdalflepcoadGreatTRPP14
set_option maxHeartbeats 16000000
set_option maxRecDepth 100000
set_option linter.unusedVariables false
set_option linter.unusedSimpArgs false
namespace Go.Proofs.YtjifdalflepcoadGreat
section
open Go.RowKit
section
variable {w w':World} {h:dj} {W:Wd}
theorem vg (major:Bool) (H:aR w h W) (hT:W.T.length<=100000) :
  Calls Tryz.prog 44 #[.pointer (some ⟨h.p,0,none⟩), .bool major] w λe w'=>e=.returned (.int .i64 (W.cut major).1)/\aT w h w' (W.cut major).2:=by
 obtain ⟨ib0,hi,hz0,hz1,hz2⟩:=info_parts kl;have hk:=λ(wx:World)=>dV (P:=Tryz.prog) wx 23 4 ib0 (.bool false) Tryz.underlying23 hi hz0 rfl hz1 W.T.length (by rw [hz2];omega) (by omega);clear hi hz0 hz1 hz2 ib0;have HK:=Hz hk;clear hk;have HH:=Hz H;have HT:=Hz hT;have hok:=H.ok;have HOK:=Hz hok;have g1:=hok.g1;have g2:=hok.g2;have uo:=hok.uo;have uy:=hok.uy;have m1:=hok.m1;have m2:=hok.m2;have y0:0<=W.aA:=iM _ _;have z0:0<=W.cD:=iM _ _;obtain ⟨p0,p1,-,-,p4,p5,p6,p7⟩:=H.cells;have pl:=H.hp.lt;have HY:=Hz (And.intro y0 z0);clear H hok;go_enter Tryz.func44,Tryz.ntmps44;go_upto_region 1 with fail
 obtain ⟨b,hb⟩:∃ b,decide (major=false/\W.aA > W.grow-W.cD)=b:=⟨_,rfl⟩;have HBB:=Hz hb;have hwr:IntKind.i64.wrap (W.grow-W.cD)=W.grow-W.cD:=IntWalk.i64_in _ (by omega);refine gT (λi=>Nat.blt 12 i && Nat.blt i 31) (λs wx=>s 30=.bool b/\aa (λ_=>False) w wx) ?_ ?_
 ·intro K0 hK0;cases major
  ·have bG:decide (W.grow-W.cD<W.aA)=b:=by rw [<-hb];simp
   clear hb;refine a6 (ftq [0,1,2,3,4,5,7,8,9,11,12,13] (ptq [6,10,14] (ftq [15,16,17] (.fin)))) [] (Fz p4 (Fz p5 (Fa p7))) ?_
   iterate 18 refine Wz ?_
   refine av ?_;refine hK0 _ _ ?_;refine ⟨by kernel_rfl,?_⟩;exact ⟨rfl,(aa.refl _ _).drew⟩
  ·have bG:b=false:=by rw [<-hb];simp
   subst bG;clear hb;refine a6 (ftq [0,1,2,3,4,5,7,8,9,11,12,13] (ptq [6,10,14] (ftq [15,16,17] (.fin)))) [] (Fz p4 (Fz p5 (Fa p7))) ?_
   iterate 18 refine Wz ?_
   refine av ?_;refine hK0 _ _ ?_;refine ⟨by kernel_rfl,?_⟩;exact ⟨rfl,(aa.refl _ _).drew⟩
 intro u wx hR;obtain ⟨e30,hkx⟩:=hR;have e30:u 30=.bool b:=e30;simp (maxSteps:=2000000) only [fI,overL,List.toList_toArray,Nat.blt,Nat.beq,Nat.ble,Nat.reduceAdd,Bool.or_false,Bool.false_or,Bool.or_true,Bool.true_or,Bool.and_true,Bool.true_and,Bool.and_false,Bool.false_and,cond_true,cond_false];rw [e30];clear e30 p0 p1 p4 p5 p6 p7 pl;rename_i K3 hK3;have H1:=Hz (HH.o.same hkx);have KX:=Hz hkx;clear hkx;cases b
 case true=>
  have HE:=Hz (show W.cut major=(3,W) by unfold Wd.cut;rw [if_pos (by simpa using hb)]);clear hb;go_wp2_with fail;go_ret;rw [HE.o];exact ⟨rfl,aT.aL KX.o (aT.same H1.o (aa.refl _ _))⟩
 have HNC:=Hz (show ¬ (major=false/\W.aA > W.grow-W.cD) by simpa using hb);clear hb;obtain ⟨p0,-⟩:=H1.o.cells;have pl:=H1.o.hp.lt;obtain ⟨no,nc,etv⟩:=H1.o.tv;rw [etv] at p0;have HTV:=Hz etv;have hk:=HK.o;clear etv;go_upto_region 4 with fail
 have C4:=Hz (kz.begin (w:=w) (w1:=wx) (gp:=h.p) W.T.length KX.o);clear hk p0 pl H1 KX hwr;generalize ((wx.alloc (.cells (Array.replicate W.T.length (.bool false)) 4)).alloc (.cells #[.pointer (some ⟨h.p,0,none⟩), .slice (some ⟨wx.heap.size,0,none⟩) W.T.length W.T.length, .slice none 0 0] 158)).alloc (.cells #[.pointer (some ⟨wx.heap.size+1,0,none⟩)] 156)=w4 at *;generalize wx.heap.size=ib at *;have H4:=Hz (C4.o.mg HH.o);obtain ⟨p0,-⟩:=H4.o.cells;have pl:=H4.o.hp.lt;rw [HTV.o] at p0;go_wp2_with fail;clear p0 pl H4;go_loopw [45] (λu wr=>∃ (i:Nat) (t:List Bool × List Nat) (nv:Value),i<=W.T.length/\u=.int .i64 i/\kz w h.p (ib+1) ib (ib+1+1) nv wr t/\MI W (X1 W major i) t) (λu _=>W.T.length-(intOf u).toNat)
 case atStart=>exact ⟨0,_,_,Zc _,rfl,C4.o,MI.zero⟩
 case round=>
  clear C4;obtain ⟨i,t,nv,hi,rfl,hC,hM⟩:=hrel;have CR:=Hz hC;have MR:=Hz hM;clear hC hM;have HR:=Hz (CR.o.mg HH.o);by_cases hlt:i<W.T.length
  ·obtain ⟨gt,ot,ntc,etl,-,hgt,-,hrow⟩:=HR.o.nth hlt;rw [HTV.o] at etl;cases etl;obtain ⟨p0,-⟩:=HR.o.cells;have pl:=HR.o.hp.lt;rw [HTV.o] at p0;rw [<-Wd.gQ] at hrow;obtain ⟨_,_,c,-,-,t2⟩:=hrow.c;have t3:=hrow.d;have hco:(W.th (i:Int)).dead=false->c=(W.th (i:Int)).aK:=λhd=>by
    have:=hrow.o hd;rw [t2] at this;cases this;rfl
   have b0:=CR.o.B.cell 0;have bl:=CR.o.B.lt;simp only [Lz] at b0;have HCO:=Hz hco;clear hrow hco;obtain ⟨dd,hdd⟩:∃ d,(W.th (i:Int)).dead=d:=⟨_,rfl⟩;rw [hdd] at t3;have HDD:=Hz hdd;clear hdd;have hii:(i:Int)<W.T.length:=by omega
   go_upto_region 7 with fail;refine gT (λi=>Nat.blt 46 i && Nat.blt i 71) (λs wy=>s 70=.bool (c && !dd && !major)/\wy=wr) ?_ ?_
   ·intro K0 hK0;cases c <;> cases dd <;> cases major <;>
    ·go_wp2_with fail;refine ⟨by kernel_rfl,?_⟩;exact ⟨rfl,rfl⟩
   intro u1 wy hR;obtain ⟨e70,rfl⟩:=hR;have e70:u1 70=.bool (c && !dd && !major):=e70;simp (maxSteps:=2000000) only [fI,overL,List.toList_toArray,Nat.blt,Nat.beq,Nat.ble,Nat.reduceAdd,Bool.or_false,Bool.false_or,Bool.or_true,Bool.true_or,Bool.and_true,Bool.true_and,Bool.and_false,Bool.false_and,cond_true,cond_false];rw [e70];clear e70 t2 t3 p0 pl hgt;rename_i K4 hK4;obtain ⟨cnd,hcnd⟩:∃ x,(c && !dd && !major)=x:=⟨_,rfl⟩;rw [hcnd];cases cnd
   ·have NX:=Hz (MR.o.aA (n:=i) (λhx=>by
     rw [HDD.o] at hx;have h1:=HCO.o (by rw [HDD.o];exact hx.2.1);rw [h1,hx.1,hx.2.1,hx.2.2] at hcnd
     cases hcnd))
    clear hcnd b0 bl;go_wp2_with fail;go_roundw
    case rel=>exact ⟨i+1,t,nv,hlt,by go_num,CR.o,NX.o⟩
    case measure=>simp [intOf];omega
   ·simp only [Zr,Bool.not_eq_true'] at hcnd;have HOD:=Hz (show (W.th (i:Int)).aK=true/\(W.th (i:Int)).dead=false/\major=false from ⟨by rw [<-HCO.o (by rw [HDD.o];exact hcnd.1.2)];exact hcnd.1.1,by rw [HDD.o];exact hcnd.1.2,hcnd.2⟩);have NX:=Hz (MR.o.aK hlt HOD.o);have HM:=Hz (pC (3,(i:Int)) CR.o.L (λ_=>⟨by simp,by have:=MR.o.len;dsimp only;omega⟩) (by rw [MR.o.len];exact HT.o) (Za MR.o.mJ HT.o));clear hcnd;go_wp2_with fail;refine HM.o.mono ?_;rintro e w5 ⟨rfl,hU⟩;obtain ⟨nv5,c5⟩:=CR.o.to hU;have C5:=Hz c5;clear hU c5 b0 bl;go_wp2_with fail;go_roundw
    case rel=>exact ⟨i+1,_,nv5,hlt,by go_num,C5.o,NX.o⟩
    case measure=>simp [intOf];omega
  ·obtain rfl:i=W.T.length:=by omega
   have M5:=Hz MR.o.Da;obtain ⟨-,p1,-⟩:=HR.o.cells;have pl:=HR.o.hp.lt;obtain ⟨ro,rc,erv,-,-,-⟩:=HR.o.hr.rd;rw [erv] at p1;have HRV:=Hz erv;clear erv;go_wp2_with fail;clear p1 pl HR hlt;go_loopw [81] (λu wr=>∃ (k:Nat) (t:List Bool × List Nat) (nv:Value),k<=W.roots.length/\u=.int .i64 k/\kz w h.p (ib+1) ib (ib+1+1) nv wr t/\MI W (X2 W major k) t) (λu _=>W.roots.length-(intOf u).toNat)
   case atStart=>exact ⟨0,_,_,Zc _,rfl,CR.o,M5.o⟩
   case round=>
    clear CR MR M5 hi t nv;obtain ⟨k,t,nv,hk,rfl,hC,hM⟩:=hrel;have CR:=Hz hC;have MR:=Hz hM;clear hC hM;have HR:=Hz (CR.o.mg HH.o);have b0:=CR.o.B.cell 0;have bl:=CR.o.B.lt;simp only [Lz] at b0;have r12:W.roots.length<=12:=by have:=HOK.o.hr;omega
    by_cases hlt:k<W.roots.length
    ·have rd3:Rd wr ro (aH W.roots):=by
      have:=HR.o.hr;rw [HRV.o] at this;obtain ⟨_,_,e',rd,-,-⟩:=this.rd;cases e';exact rd
     obtain ⟨gr,orr,rfl,hgr,v0,v1⟩:=rd3.fZ k hlt;have NX:=Hz (MR.o.root HOK.o hlt);have hin:W.roots.getD k (0,0) ∈ W.roots:=by rw [Ld,Le hlt];exact Ze hlt
     have HV:=Hz (HOK.o.rv _ hin);clear rd3 hin;generalize W.roots.getD k (0,0)=v at *;have hki:(k:Int)<W.roots.length:=by omega
     go_upto_region 13 with (refine ct rfl 77 (.tmp 83) rfl (by kernel_rfl) gr (orr+k*2) rfl _ _ v0 v1 ?_);have ka:=(Kz wr).alloc (.cells #[.int .i64 v.1, .int .i64 v.2] 77);have BV:=Hz (show ak (wr.alloc (.cells #[.int .i64 v.1, .int .i64 v.2] 77)) wr.heap.size _ 77 from ak.newAt _ rfl rfl);have C5:=Hz (CR.o.same ka);clear ka v0 v1 hgr b0 bl CR HR;generalize wr.alloc (.cells #[.int .i64 v.1, .int .i64 v.2] 77)=wv at *;generalize wr.heap.size=vb at *;have c0:=BV.o.cell 0;have c1:=BV.o.cell 1;have cl:=BV.o.lt;have b0:=C5.o.B.cell 0;have bl:=C5.o.B.lt;simp only [Lz,aB] at c0 c1 b0;have HM:=Hz (pC v C5.o.L (λh3=>by have:=Wd.aY HV.o h3;rw [MR.o.len];exact ⟨this.1,this.2.1⟩) (by rw [MR.o.len];exact HT.o) (Za MR.o.mJ HT.o));go_wp2_with (refine ct rfl 77 (.tmp 8) rfl (by kernel_rfl) vb 0 rfl _ _ c0 c1 ?_);refine HM.o.mono ?_;rintro e w5 ⟨rfl,hU⟩;obtain ⟨nv5,c5⟩:=C5.o.to hU;have C6:=Hz c5;have NZ:=Hz (show ∃ (k2:Nat) (t:List Bool × List Nat) (nv:Value),k2<=W.roots.length/\Value.int .i64 ((k:Int)+1)=.int .i64 k2/\kz w h.p (ib+1) ib (ib+1+1) nv w5 t/\MI W (X2 W major k2) t from ⟨k+1,_,nv5,hlt,rfl,C6.o,NX.o⟩);clear hU c5 b0 bl c0 c1 cl;go_wp2_with fail;go_roundw
     case rel=>
      first
      | exact NZ.o
      | ((repeat apply Exists.intro);exact ⟨NZ.o,rfl⟩)
     case measure=>simp [intOf];omega
    ·obtain rfl:k=W.roots.length:=by omega
     have hf:=MR.o.first (Zb _)
     have HF:=Hz hf;have HG:=Hz (MR.o.gi (q:=W.wait));have HLN:=Hz MR.o.len;clear hf hlt;go_wp2_with fail;refine (BA h.p h.gv h.wv W.ai W.wait _ HR.o.side (by have:=HOK.o.hq;omega) (by have:=HOK.o.hq;omega)).mono ?_;rintro e w6 ⟨cp,cr,cw,rfl,hcs,hck,hcn⟩;have C6:=Hz (CR.o.same hck);have SC6:=Hz hcs;have CN6:=Hz (show ∀ b,aG cp cr cw b->w.heap.size<=b from λb hb=>Za CR.o.K.size (hcn b hb));have NL6:=Hz (show ∀ b,aG cp cr cw b->∀ c T,ak wr b c T->False from λb hb c T hc=>by have:=hcn b hb;have:=hc.lt;omega);clear hcs hck hcn b0 bl;have b0:=C6.o.B.cell 0;have bl:=C6.o.B.lt;simp only [Lz] at b0;have H6:=Hz (C6.o.mg HH.o);go_wp2_with fail;refine (GSpread_c H6.o.sp C6.o.L HOK.o HG.o HOK.o.wv HT.o (by have:=HOK.o.hq;omega)).mono ?_;rintro e w7 ⟨rfl,hU⟩;have SC7:=Hz (show a7 w7 cp cr cw W.ai W.wait from by
      obtain ⟨nv',L',k',-⟩:=hU
      exact SC6.o.ab k' (λb hb hk=>C6.o.copy SC6.o b hb (.inl hk)))
     obtain ⟨nv7,c7⟩:=C6.o.to hU;have C7:=Hz c7;have CL7:=Hz (c7.copy SC7.o);have H7:=Hz (c7.mg HH.o);clear hU c7 b0 bl SC6 NL6 H6;have b0:=C7.o.B.cell 0;have bl:=C7.o.B.lt;simp only [Lz] at b0;have pl:=H7.o.hp.lt;go_wp2_with fail;refine a6 (ftq [0,1,2,5] (.pure 3 (.free 4 (.free 6 (.run 7 (.swi [] (.fin))))))) [7] (Fa b0) ?_
     iterate 7 refine Wz ?_
     refine aD rfl rfl rfl (λK hK=>?_);unfold ax;go_simp;have kd:=(Kz w7).drew;have C8:=Hz (C7.o.same kd);have SC8:=Hz (SC7.o.ab kd (λ_ _ h=>h));have H8:=Hz (H7.o.same kd);have J8:=Hz (show GJ (h.gx W) h.p (ib+1) ib (ib+1+1) h.fv W w7.drew (W.cY W.wait t.1) _ from ⟨nv7,C8.o.L,C8.o.B,H8.o.ht,λi b hb=>(H8.o.af i b hb).2.1,l8.cY HOK.o HOK.o.wv HLN.o MR.o.lv,rfl⟩);refine (yK h.p (qB (h.gx W) h.p (ib+1) ib (ib+1+1) h.fv W HOK.o HT.o) (W.cY W.wait t.1) _ h.gv h.wv W.ai W.wait _ J8.o H8.o.side (J8.o.apart H8.o.side) (by have:=HOK.o.hq;omega) (by have:=HOK.o.hq;omega)
      (λe he=>⟨⟨(HOK.o.gv e he).1,(HOK.o.gv e he).2.2⟩,HOK.o.gv e he⟩) (λe he=>⟨⟨(HOK.o.wv e he).1,(HOK.o.wv e he).2.2⟩,HOK.o.wv e he⟩)).mono ?_
     rintro e w8 ⟨rfl,F',rgv,wv,hJ',hS',-,hk',hF',hs'⟩;have PE:dw (qB (h.gx W) h.p (ib+1) ib (ib+1+1) h.fv W HOK.o HT.o).alive (qB (h.gx W) h.p (ib+1) ib (ib+1+1) h.fv W HOK.o HT.o).ab (W.cY W.wait t.1) W.ai W.wait=W.pass major:=by rw [HF.o];rfl
     rw [PE] at hJ' hS';obtain ⟨nv9,c9⟩:=mO.begin HH.o C8.o SC8.o CN6.o CL7.o hJ' hS' hk' hF' hs';have C9:=Hz (show mO w h W (ib+1) ib (ib+1+1) cp (W.pass major).1 (bq aw iX (W.pass major).1 (W.pass major).2.2) (bt aw iX (W.pass major).1 (W.pass major).2.1) nv9 rgv wv cr cw h.fv W.T w8 from c9);clear PE hJ' hS' hk' hF' hs' c9 kd b0 bl pl C7 SC7 H7 C8 SC8 H8 J8 CL7 CN6 C6 CR MR HR HF HG HLN HRV;refine hK _ _ ?_;clear hK K;refine aC (λ_=>True) trivial (av ?_);have PM:=Hz (Wd.eR HOK.o major);have HLV:=Hz (show ∀ i,aw (W.pass major).1 i=true->W.live i from PM.o.1.live);have HPL:=Hz PM.o.1.len;have SK:=Hz (wD HOK.o HLV.o);have CUT:=Hz (show W.cut major=if e9 (W.pass major).1 W.T > W.grow then (3,W) else (0,W.after major) by unfold Wd.cut;rw [if_neg HNC.o]);have AFT:=Hz (show W.after major={ W with T:=kQ (W.pass major).1 W.T,ai:=bq aw iX (W.pass major).1 (W.pass major).2.2,wait:=bt aw iX (W.pass major).1 (W.pass major).2.1 } from rfl);have SHUT:=Hz (show cv W.nd (W.pass major).2.1 λi=>aw (W.pass major).1 i=true from PM.o.1.shut);have AOK:=Hz (show ¬ e9 (W.pass major).1 W.T > W.grow->(W.after major).ok/\(W.after major).aA=0/\(W.after major).cD=e9 (W.pass major).1 W.T/\(∀ i,(W.after major).live i↔aw (W.pass major).1 i=true) from λhr=>⟨HOK.o.after (by omega),(Wd.kR HOK.o major).1,(Wd.kR HOK.o major).2,λi=>Wd.fg HOK.o⟩);clear t nv PM;generalize bq aw iX (W.pass major).1 (W.pass major).2.2=rg2 at *;generalize bt aw iX (W.pass major).1 (W.pass major).2.1=wt2 at *;generalize (W.pass major).2.1=q2 at *;generalize (W.pass major).1=is at *;obtain ⟨p0,-⟩:=(show w8.cell? ⟨h.p,0,none⟩=some h.tv/\True from ⟨C9.o.S.hp.cell 0,trivial⟩);have pl:=C9.o.S.hp.lt;rw [HTV.o] at p0;have HPI:=Hz (show is.length=W.T.length from HPL.o);go_wp2_with fail;go_loopw [10,108] (λs u wr=>∃ i:Nat,i<=W.T.length/\u=.int .i64 i/\s=.int .i64 (i4 is W.T i)/\wr=w8) (λ_ u _=>W.T.length-(intOf u).toNat)
     case atStart=>exact ⟨0,Zc _,rfl,by rw [sW],rfl⟩
     case round=>
      obtain ⟨i,hi,rfl,rfl,rfl⟩:=hrel;by_cases hlt:i<W.T.length
      ·have hT9:=C9.o.T;rw [HTV.o] at hT9;obtain ⟨gt,ot,rfl⟩:∃ g o,no=some ⟨g,o,none⟩:=by
        obtain ⟨cs,hs,_⟩:=hT9;obtain ⟨g',o',_,_,e',-⟩:=hs.laid (by omega);cases e';exact ⟨_,_,rfl⟩
       obtain ⟨hg,-,hrow⟩:=hT9.row hlt;have b0:=C9.o.B.cell 0;have bl:=C9.o.B.lt;have l1:=C9.o.L.hp.cell 1;have ll:=C9.o.L.hp.lt;simp only [Lz,aB] at b0 l1;have hb:=C9.o.L.bool (i:=i) (by have:=HPI.o;dsimp only;omega);have hbl:=C9.o.L.hi.lt;rw [HPI.o] at l1;have STP:=Hz (sV (is:=is) hlt);have SB:=SK.o i (by omega);have hii:(i:Int)<W.T.length:=by omega
       cases eh:is.getD i false
       ·have SE:=Hz (show i4 is W.T (i+1)=i4 is W.T i by rw [STP.o,eh];simp);dsimp only at hb;rw [eh] at hb;clear eh hrow hT9 STP;go_wp2_with fail;go_roundw
        case rel=>exact ⟨i+1,hlt,by go_num,by rw [SE.o],trivial⟩
        case measure=>simp [intOf];omega
       ·have hlv:=HLV.o (i:Int) (by rw [dQ];exact eh);have hded:(W.T.getD i Th.none).dead=false:=by rw [<-Wd.gQ];exact hlv.2.2
        have SE:=Hz (show i4 is W.T (i+1)=i4 is W.T i+(1+((W.T.getD i Th.none).fs.length:Int)) by rw [STP.o,eh];rfl);have hfl:=(bL (HOK.o.tk _ hlv)).2.2.2;rw [Wd.gQ] at hfl;have t1:=hrow.f hded;obtain ⟨fo,fc,efv,-,-,-⟩:=(hrow.s hded).rd;rw [efv] at t1;dsimp only at hb;rw [eh] at hb;have HWD:=Hz (uY hg t1 (by omega));clear eh hrow hT9 STP hlv hded t1 efv;generalize (W.T.getD i Th.none).fs.length=fl at *;go_wp2_with fail;refine HWD.o.mono ?_;rintro e w9 ⟨rfl,rfl⟩;go_wp2_with fail;go_roundw
        case rel=>exact ⟨i+1,hlt,by go_num,by rw [SE.o],trivial⟩
        case measure=>simp [intOf];omega
      ·obtain rfl:i=W.T.length:=by omega
       have SB:=SK.o W.T.length (Zb _);have SA:=Hz (zB is W.T);obtain ⟨sm,hsm⟩:∃ x,i4 is W.T W.T.length=x:=⟨_,rfl⟩;rw [hsm] at SB SA;rw [hsm];clear hsm;have p7:wr.cell? ⟨h.p,7,none⟩=some (.int .i64 W.grow):=C9.o.S.hp.cell 7;by_cases hbig:sm > W.grow
       ·have HE:=Hz (show W.cut major=(3,W) by rw [CUT.o,if_pos (by rw [<-SA.o];exact hbig)]);have p2:=C9.o.S.hp.cell 2;have p3:=C9.o.S.hp.cell 3;have f2:=C9.o.S.hp.free 2;have f3:=C9.o.S.hp.free 3;have c0:=C9.o.C.hp.cell 0;have c1:=C9.o.C.hp.cell 1;have cl:=C9.o.C.hp.lt;simp only [Lz,aB] at p2 p3 c0 c1;obtain ⟨cro,crc,ecr,-,-,-⟩:=C9.o.C.hr.rd;obtain ⟨cwo,cwc,ecw,-,-,-⟩:=C9.o.C.hw.rd;rw [ecr] at c0;rw [ecw] at c1;have G9:=Hz (C9.o.back HH.o);rw [ecr,ecw] at G9;clear ecr ecw;go_upto_region 27 with (refine ct rfl 84 (.tmp 136) rfl (by kernel_rfl) cp 0 rfl _ _ c0 c1 ?_)
        go_wp2_with fail;go_ret;rw [HE.o];exact ⟨rfl,G9.o⟩
       ·have hbig:sm<=W.grow:=by omega
        have AO:=Hz (AOK.o (by rw [<-SA.o];omega));have HE:=Hz (show W.cut major=(0,W.after major) by rw [CUT.o,if_neg (by rw [<-SA.o];omega)]);have HGS:=Hz (show ∀ i:Nat,i<W.T.length->mf is i (W.T.getD i Th.none)=dB is i (W.T.getD i Th.none) from λi hi=>by
         unfold mf;cases hb:is.getD i false
         ·rw [Bk hb];rfl
         ·have hlv:=HLV.o (i:Int) (by rw [dQ];exact hb);have hm:=zQ HOK.o SHUT.o hlv (by rw [dQ];exact hb);rw [Zt,Wd.gQ] at hm
          rw [hm,if_pos rfl,<-Wd.gQ,hlv.2.2])
        have C10:=Hz (show mO w h W (ib+1) ib (ib+1+1) cp is rg2 wt2 nv9 rgv wv cr cw h.fv (gZ is W.T 0) wr by rw [yi];exact C9.o);go_wp2_with fail;clear p7 p0 pl C9;go_loopw [145] (λu wy=>∃ (i:Nat) (tx:Nat->Value),i<=W.T.length/\u=.int .i64 i/\mO w h W (ib+1) ib (ib+1+1) cp is rg2 wt2 nv9 rgv wv cr cw tx (gZ is W.T i) wy/\∀ j k,aq (tx j) k->j<i->is.getD j false=true) (λu _=>W.T.length-(intOf u).toNat)
        case atStart=>exact ⟨0,h.fv,Zc _,rfl,C10.o,λj k _ hj=>by omega⟩
        case round=>
         clear C10;obtain ⟨i,tx,hi,rfl,hC,hown⟩:=hrel;have CI:=Hz hC;have OW:=Hz hown;clear hC hown;by_cases hlt:i<W.T.length
         ·have b0:=CI.o.B.cell 0;have bl:=CI.o.B.lt;have l1:=CI.o.L.hp.cell 1;have ll:=CI.o.L.hp.lt;simp only [Lz,aB] at b0 l1;rw [HPI.o] at l1;have eg:=Hz (show (gZ is W.T i).getD i Th.none=W.T.getD i Th.none by
           rw [Ld,Ld,Le (by rw [iy];exact hlt),Le hlt,uq _ _ hlt])
          have HST:=Hz (yN i CI.o.S.hp (show _=some h.tv from rfl) CI.o.T CI.o.F (λa b k h1 h2=>HH.o.fi a b k (CI.o.fo a k h1) (CI.o.fo b k h2)) CI.o.L.hi (by rw [iy];exact HPI.o) (by rw [iy];exact HT.o) (by rw [iy];exact hlt) (by
           have hlv:is.getD i false=true->W.live (i:Int):=λhb=>HLV.o (i:Int) (by rw [dQ];exact hb);refine ⟨λhb=>?_,λhb=>?_,λhb=>?_,λhb=>?_⟩
           ·rw [eg.o,<-Wd.gQ];exact (hlv hb).2.2
           ·rw [eg.o,<-Wd.gQ,iy];exact λv hv h3=>by have:=Wd.aY (HOK.o.tv _ (hlv hb) v hv) h3;exact ⟨this.1,this.2.1⟩
           ·rw [eg.o,<-Wd.gQ];have:=(bL (HOK.o.tk _ (hlv hb))).2.2.2;omega
           ·rw [eg.o,<-Wd.gQ];intro hk;have:=HOK.o.tk _ (hlv hb);rw [hk] at this;simp [bj] at this
            omega))
          rw [iy] at HST;have hii:(i:Int)<W.T.length:=by omega
          go_wp2_with fail;refine HST.o.mono ?_;rintro e w9 ⟨rfl,hto⟩;obtain ⟨tx',c',o'⟩:=CI.o.settled HH.o hlt hto (HGS.o i hlt);have CN:=Hz c';have ON:=Hz (show ∀ j k,aq (tx' j) k->j<i+1->is.getD j false=true from λj k hk hj=>by
           have h1:=o' j k hk;by_cases e:j=i
           ·subst e;exact h1.2 rfl
           ·exact OW.o j k h1.1 (by omega))
          clear hto c' o' b0 bl l1 ll;go_wp2_with fail;go_roundw
          case rel=>exact ⟨i+1,tx',hlt,by go_num,CN.o,ON.o⟩
          case measure=>simp [intOf];omega
         ·obtain rfl:i=W.T.length:=by omega
          have CE:=CI.o;rw [zC] at CE;have CE:=Hz CE;have p4:=CE.o.S.hp.cell 4;have p5:=CE.o.S.hp.cell 5;have pl:=CE.o.S.hp.lt;have f4:=CE.o.S.hp.free 4;have f5:=CE.o.S.hp.free 5;simp only [Lz,aB] at p4 p5;have GE:=Hz (CE.o.done HH.o AFT.o AO.o.1 AO.o.2.1 (AO.o.2.2.1.trans SA.o.symm) (λi k hk=>by
           have hl:W.live (i:Int):=HH.o.fl i k (CE.o.fo i k hk);rw [AO.o.2.2.2,dQ]
           exact OW.o i k hk (by have:=hl.2.1;omega)))
          go_wp2_with fail;go_ret;rw [HE.o];exact ⟨rfl,GE.o⟩
end
end
end Go.Proofs.YtjifdalflepcoadGreat
