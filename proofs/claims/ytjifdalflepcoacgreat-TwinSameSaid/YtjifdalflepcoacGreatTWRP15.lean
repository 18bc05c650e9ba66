/-
  Parts of the proof, merged: what the functions do, and plain laws.
-/
import Derived.Test.YtjifdalflepcoacGreatTWRP14
set_option maxHeartbeats 16000000
set_option maxRecDepth 100000
set_option linter.unusedVariables false
set_option linter.unusedSimpArgs false
namespace Go.Proofs.YtjifdalflepcoacGreat
section
open Go.RowKit
section
variable {w w':World} {h:dj} {W:Wd}
theorem ub (major:Bool) (H:aQ w h W) (hT:W.T.length≤100000) :
  Calls Tryz.prog 154 #[.pointer (some ⟨h.p,0,none⟩), .bool major] w fun e w'=>e=.returned (.int .i64 (W.cut major).1)∧aS w h w' (W.cut major).2:=by
 obtain ⟨ib0,hi,hz0,hz1,hz2⟩:=info_parts jZ;have hk:=fun (wx:World)=>dP (P:=Tryz.prog) wx 122 4 ib0 (.bool false) Tryz.underlying122 hi hz0 rfl hz1 W.T.length (by rw [hz2];omega) (by omega);clear hi hz0 hz1 hz2 ib0;have HK:=Hz hk;clear hk;have HH:=Hz H;have HT:=Hz hT;have hok:=H.ok;have HOK:=Hz hok;have g1:=hok.g1;have g2:=hok.g2;have uo:=hok.uo;have uy:=hok.uy;have m1:=hok.m1;have m2:=hok.m2;have y0:0≤W.az:=iC _ _;have z0:0≤W.cm:=iC _ _;obtain ⟨p0,p1,-,-,p4,p5,p6,p7⟩:=H.cells;have pl:=H.hp.lt;have HY:=Hz (And.intro y0 z0);clear H hok;go_enter Tryz.func154,Tryz.ntmps154;go_upto_region 1 with fail
 obtain ⟨b,hb⟩:∃ b,decide (major=false∧W.az > W.grow-W.cm)=b:=⟨_,rfl⟩;have HBB:=Hz hb;have hwr:IntKind.i64.wrap (W.grow-W.cm)=W.grow-W.cm:=IntWalk.i64_in _ (by omega);refine gK (fun i=>Nat.blt 12 i && Nat.blt i 31) (fun s wx=>s 30=.bool b∧aa (fun _=>False) w wx) ?_ ?_
 ·intro K0 hK0;cases major
  ·have bH:decide (W.grow-W.cm<W.az)=b:=by rw [←hb];simp
   clear hb;refine a8 (.free 0 (.free 1 (.free 2 (.free 3 (.free 4 (.free 5 (.free 7 (.free 8 (.free 9 (.free 11 (.free 12 (.free 13 (.pure 6 (.pure 10 (.pure 14 (.free 15 (.free 16 (.free 17 (.fin))))))))))))))))))) [] (Fz p4 (Fz p5 (Fa p7))) ?_
   iterate 18 refine Wz ?_
   refine av ?_;refine hK0 _ _ ?_;refine ⟨by kernel_rfl,?_⟩;exact ⟨rfl,(aa.refl _ _).drew⟩
  ·have bH:b=false:=by rw [←hb];simp
   subst bH;clear hb;refine a8 (.free 0 (.free 1 (.free 2 (.free 3 (.free 4 (.free 5 (.free 7 (.free 8 (.free 9 (.free 11 (.free 12 (.free 13 (.pure 6 (.pure 10 (.pure 14 (.free 15 (.free 16 (.free 17 (.fin))))))))))))))))))) [] (Fz p4 (Fz p5 (Fa p7))) ?_
   iterate 18 refine Wz ?_
   refine av ?_;refine hK0 _ _ ?_;refine ⟨by kernel_rfl,?_⟩;exact ⟨rfl,(aa.refl _ _).drew⟩
 intro u wx hR;obtain ⟨e30,hkx⟩:=hR;have e30:u 30=.bool b:=e30;simp (maxSteps:=2000000) only [fN,overL,List.toList_toArray,Nat.blt,Nat.beq,Nat.ble,Nat.reduceAdd,Bool.or_false,Bool.false_or,Bool.or_true,Bool.true_or,Bool.and_true,Bool.true_and,Bool.and_false,Bool.false_and,cond_true,cond_false];rw [e30];clear e30 p0 p1 p4 p5 p6 p7 pl;rename_i K3 hK3;have H1:=Hz (HH.out.same hkx);have KX:=Hz hkx;clear hkx;cases b
 case true=>
  have HE:=Hz (show W.cut major=(3,W) by unfold Wd.cut;rw [if_pos (by simpa using hb)]);clear hb;go_wp2_with fail;go_ret;rw [HE.out];exact ⟨rfl,aS.aK KX.out (aS.same H1.out (aa.refl _ _))⟩
 have HNC:=Hz (show ¬ (major=false∧W.az > W.grow-W.cm) by simpa using hb);clear hb;obtain ⟨p0,-⟩:=H1.out.cells;have pl:=H1.out.hp.lt;obtain ⟨no,nc,etv⟩:=H1.out.tv;rw [etv] at p0;have HTV:=Hz etv;have hk:=HK.out;clear etv;go_upto_region 4 with fail
 have C4:=Hz (j8.begin (w:=w) (w1:=wx) (gp:=h.p) W.T.length KX.out);clear hk p0 pl H1 KX hwr;generalize ((wx.alloc (.cells (Array.replicate W.T.length (.bool false)) 4)).alloc (.cells #[.pointer (some ⟨h.p,0,none⟩), .slice (some ⟨wx.heap.size,0,none⟩) W.T.length W.T.length, .slice none 0 0] 207)).alloc (.cells #[.pointer (some ⟨wx.heap.size+1,0,none⟩)] 205)=w4 at *;generalize wx.heap.size=ib at *;have H4:=Hz (C4.out.lR HH.out);obtain ⟨p0,-⟩:=H4.out.cells;have pl:=H4.out.hp.lt;rw [HTV.out] at p0;go_wp2_with fail;clear p0 pl H4;go_loopw [45] (fun u wr=>∃ (i:Nat) (t:List Bool × List Nat) (nv:Value),i≤W.T.length∧u=.int .i64 i∧j8 w h.p (ib+1) ib (ib+1+1) nv wr t∧MI W (X1 W major i) t) (fun u _=>W.T.length-(intOf u).toNat)
 case atStart=>exact ⟨0,_,_,Nat.zero_le _,rfl,C4.out,MI.zero⟩
 case round=>
  clear C4;obtain ⟨i,t,nv,hi,rfl,hC,hM⟩:=hrel;have CR:=Hz hC;have MR:=Hz hM;clear hC hM;have HR:=Hz (CR.out.lR HH.out);by_cases hlt:i<W.T.length
  ·obtain ⟨gt,ot,ntc,etl,-,hgt,-,hrow⟩:=HR.out.nth hlt;rw [HTV.out] at etl;cases etl;obtain ⟨p0,-⟩:=HR.out.cells;have pl:=HR.out.hp.lt;rw [HTV.out] at p0;rw [←Wd.gH] at hrow;obtain ⟨_,_,c,-,-,t2⟩:=hrow.c;have t3:=hrow.d;have hco:(W.th (i:Int)).dead=false→c=(W.th (i:Int)).aI:=fun hd=>by
    have:=hrow.o hd;rw [t2] at this;cases this;rfl
   have b0:=CR.out.B.cell 0;have bl:=CR.out.B.lt;simp only [Lz] at b0;have HCO:=Hz hco;clear hrow hco;obtain ⟨dd,hdd⟩:∃ d,(W.th (i:Int)).dead=d:=⟨_,rfl⟩;rw [hdd] at t3;have HDD:=Hz hdd;clear hdd;have hii:(i:Int)<W.T.length:=by omega
   go_upto_region 7 with fail;refine gK (fun i=>Nat.blt 46 i && Nat.blt i 71) (fun s wy=>s 70=.bool (c && !dd && !major)∧wy=wr) ?_ ?_
   ·intro K0 hK0;cases c <;> cases dd <;> cases major <;>
    ·go_wp2_with fail;refine ⟨by kernel_rfl,?_⟩;exact ⟨rfl,rfl⟩
   intro u1 wy hR;obtain ⟨e70,rfl⟩:=hR;have e70:u1 70=.bool (c && !dd && !major):=e70;simp (maxSteps:=2000000) only [fN,overL,List.toList_toArray,Nat.blt,Nat.beq,Nat.ble,Nat.reduceAdd,Bool.or_false,Bool.false_or,Bool.or_true,Bool.true_or,Bool.and_true,Bool.true_and,Bool.and_false,Bool.false_and,cond_true,cond_false];rw [e70];clear e70 t2 t3 p0 pl hgt;rename_i K4 hK4;obtain ⟨cnd,hcnd⟩:∃ x,(c && !dd && !major)=x:=⟨_,rfl⟩;rw [hcnd];cases cnd
   ·have NX:=Hz (MR.out.az (n:=i) (fun hx=>by
     rw [HDD.out] at hx;have h1:=HCO.out (by rw [HDD.out];exact hx.2.1);rw [h1,hx.1,hx.2.1,hx.2.2] at hcnd
     cases hcnd))
    clear hcnd b0 bl;go_wp2_with fail;go_roundw
    case rel=>exact ⟨i+1,t,nv,hlt,by go_num,CR.out,NX.out⟩
    case measure=>simp [intOf];omega
   ·simp only [Bool.and_eq_true,Bool.not_eq_true'] at hcnd;have HOD:=Hz (show (W.th (i:Int)).aI=true∧(W.th (i:Int)).dead=false∧major=false from ⟨by rw [←HCO.out (by rw [HDD.out];exact hcnd.1.2)];exact hcnd.1.1,by rw [HDD.out];exact hcnd.1.2,hcnd.2⟩);have NX:=Hz (MR.out.aI hlt HOD.out);have HM:=Hz (oQ (3,(i:Int)) CR.out.L (fun _=>⟨by simp,by have:=MR.out.len;dsimp only;omega⟩) (by rw [MR.out.len];exact HT.out) (Nat.le_trans MR.out.mn HT.out));clear hcnd;go_wp2_with fail;refine HM.out.mono ?_;rintro e w5 ⟨rfl,hU⟩;obtain ⟨nv5,c5⟩:=CR.out.to hU;have C5:=Hz c5;clear hU c5 b0 bl;go_wp2_with fail;go_roundw
    case rel=>exact ⟨i+1,_,nv5,hlt,by go_num,C5.out,NX.out⟩
    case measure=>simp [intOf];omega
  ·obtain rfl:i=W.T.length:=by omega
   have M5:=Hz MR.out.Br;obtain ⟨-,p1,-⟩:=HR.out.cells;have pl:=HR.out.hp.lt;obtain ⟨ro,rc,erv,-,-,-⟩:=HR.out.hr.rd;rw [erv] at p1;have HRV:=Hz erv;clear erv;go_wp2_with fail;clear p1 pl HR hlt;go_loopw [81] (fun u wr=>∃ (k:Nat) (t:List Bool × List Nat) (nv:Value),k≤W.roots.length∧u=.int .i64 k∧j8 w h.p (ib+1) ib (ib+1+1) nv wr t∧MI W (X2 W major k) t) (fun u _=>W.roots.length-(intOf u).toNat)
   case atStart=>exact ⟨0,_,_,Nat.zero_le _,rfl,CR.out,M5.out⟩
   case round=>
    clear CR MR M5 hi t nv;obtain ⟨k,t,nv,hk,rfl,hC,hM⟩:=hrel;have CR:=Hz hC;have MR:=Hz hM;clear hC hM;have HR:=Hz (CR.out.lR HH.out);have b0:=CR.out.B.cell 0;have bl:=CR.out.B.lt;simp only [Lz] at b0;have r12:W.roots.length≤12:=by have:=HOK.out.hr;omega
    by_cases hlt:k<W.roots.length
    ·have rd3:Rd wr ro (aE W.roots):=by
      have:=HR.out.hr;rw [HRV.out] at this;obtain ⟨_,_,e',rd,-,-⟩:=this.rd;cases e';exact rd
     obtain ⟨gr,orr,rfl,hgr,v0,v1⟩:=rd3.fP k hlt;have NX:=Hz (MR.out.root HOK.out hlt);have hin:W.roots.getD k (0,0) ∈ W.roots:=by rw [Ld,Le hlt];exact List.getElem_mem hlt
     have HV:=Hz (HOK.out.rv _ hin);clear rd3 hin;generalize W.roots.getD k (0,0)=v at *;have hki:(k:Int)<W.roots.length:=by omega
     go_upto_region 13 with (refine bZ rfl 96 (.tmp 83) rfl (by kernel_rfl) gr (orr+k*2) rfl _ _ v0 v1 ?_);have ka:=(Kz wr).alloc (.cells #[.int .i64 v.1, .int .i64 v.2] 96);have BV:=Hz (show aj (wr.alloc (.cells #[.int .i64 v.1, .int .i64 v.2] 96)) wr.heap.size _ 96 from aj.newAt _ rfl rfl);have C5:=Hz (CR.out.same ka);clear ka v0 v1 hgr b0 bl CR HR;generalize wr.alloc (.cells #[.int .i64 v.1, .int .i64 v.2] 96)=wv at *;generalize wr.heap.size=vb at *;have c0:=BV.out.cell 0;have c1:=BV.out.cell 1;have cl:=BV.out.lt;have b0:=C5.out.B.cell 0;have bl:=C5.out.B.lt;simp only [Lz,aC] at c0 c1 b0;have HM:=Hz (oQ v C5.out.L (fun h3=>by have:=Wd.aY HV.out h3;rw [MR.out.len];exact ⟨this.1,this.2.1⟩) (by rw [MR.out.len];exact HT.out) (Nat.le_trans MR.out.mn HT.out));go_wp2_with (refine bZ rfl 96 (.tmp 8) rfl (by kernel_rfl) vb 0 rfl _ _ c0 c1 ?_);refine HM.out.mono ?_;rintro e w5 ⟨rfl,hU⟩;obtain ⟨nv5,c5⟩:=C5.out.to hU;have C6:=Hz c5;have NZ:=Hz (show ∃ (k2:Nat) (t:List Bool × List Nat) (nv:Value),k2≤W.roots.length∧Value.int .i64 ((k:Int)+1)=.int .i64 k2∧j8 w h.p (ib+1) ib (ib+1+1) nv w5 t∧MI W (X2 W major k2) t from ⟨k+1,_,nv5,hlt,rfl,C6.out,NX.out⟩);clear hU c5 b0 bl c0 c1 cl;go_wp2_with fail;go_roundw
     case rel=>
      first
      | exact NZ.out
      | ((repeat apply Exists.intro);exact ⟨NZ.out,rfl⟩)
     case measure=>simp [intOf];omega
    ·obtain rfl:k=W.roots.length:=by omega
     have hf:=MR.out.first (Nat.le_refl _)
     have HF:=Hz hf;have HG:=Hz (MR.out.gi (q:=W.wait));have HLN:=Hz MR.out.len;clear hf hlt;go_wp2_with fail;refine (Ah h.p h.gv h.wv W.ah W.wait _ HR.out.side (by have:=HOK.out.hq;omega) (by have:=HOK.out.hq;omega)).mono ?_;rintro e w6 ⟨cp,cr,cw,rfl,hcs,hck,hcn⟩;have C6:=Hz (CR.out.same hck);have SC6:=Hz hcs;have CN6:=Hz (show ∀ b,aF cp cr cw b→w.heap.size≤b from fun b hb=>Nat.le_trans CR.out.K.size (hcn b hb));have NL6:=Hz (show ∀ b,aF cp cr cw b→∀ c T,aj wr b c T→False from fun b hb c T hc=>by have:=hcn b hb;have:=hc.lt;omega);clear hcs hck hcn b0 bl;have b0:=C6.out.B.cell 0;have bl:=C6.out.B.lt;simp only [Lz] at b0;have H6:=Hz (C6.out.lR HH.out);go_wp2_with fail;refine (GSpread_c H6.out.sp C6.out.L HOK.out HG.out HOK.out.wv HT.out (by have:=HOK.out.hq;omega)).mono ?_;rintro e w7 ⟨rfl,hU⟩;have SC7:=Hz (show aZ w7 cp cr cw W.ah W.wait from by
      obtain ⟨nv',L',k',-⟩:=hU
      exact SC6.out.ab k' (fun b hb hk=>C6.out.copy SC6.out b hb (.inl hk)))
     obtain ⟨nv7,c7⟩:=C6.out.to hU;have C7:=Hz c7;have CL7:=Hz (c7.copy SC7.out);have H7:=Hz (c7.lR HH.out);clear hU c7 b0 bl SC6 NL6 H6;have b0:=C7.out.B.cell 0;have bl:=C7.out.B.lt;simp only [Lz] at b0;have pl:=H7.out.hp.lt;go_wp2_with fail;refine a8 (.free 0 (.free 1 (.free 2 (.free 5 (.pure 3 (.free 4 (.free 6 (.run 7 (.swi [] (.fin)))))))))) [7] (Fa b0) ?_
     iterate 7 refine Wz ?_
     refine aA rfl rfl rfl (fun K hK=>?_);unfold aw;go_simp;have kd:=(Kz w7).drew;have C8:=Hz (C7.out.same kd);have SC8:=Hz (SC7.out.ab kd (fun _ _ h=>h));have H8:=Hz (H7.out.same kd);have J8:=Hz (show GJ (h.gx W) h.p (ib+1) ib (ib+1+1) h.fv W w7.drew (W.cT W.wait t.1) _ from ⟨nv7,C8.out.L,C8.out.B,H8.out.ht,fun i b hb=>(H8.out.af i b hb).2.1,lN.cT HOK.out HOK.out.wv HLN.out MR.out.lv,rfl⟩);refine (xO h.p (pX (h.gx W) h.p (ib+1) ib (ib+1+1) h.fv W HOK.out HT.out) (W.cT W.wait t.1) _ h.gv h.wv W.ah W.wait _ J8.out H8.out.side (J8.out.apart H8.out.side) (by have:=HOK.out.hq;omega) (by have:=HOK.out.hq;omega)
      (fun e he=>⟨⟨(HOK.out.gv e he).1,(HOK.out.gv e he).2.2⟩,HOK.out.gv e he⟩) (fun e he=>⟨⟨(HOK.out.wv e he).1,(HOK.out.wv e he).2.2⟩,HOK.out.wv e he⟩)).mono ?_
     rintro e w8 ⟨rfl,F',rgv,wv,hJ',hS',-,hk',hF',hs'⟩;have PE:dC (pX (h.gx W) h.p (ib+1) ib (ib+1+1) h.fv W HOK.out HT.out).alive (pX (h.gx W) h.p (ib+1) ib (ib+1+1) h.fv W HOK.out HT.out).ab (W.cT W.wait t.1) W.ah W.wait=W.pass major:=by rw [HF.out];rfl
     rw [PE] at hJ' hS';obtain ⟨nv9,c9⟩:=mx.begin HH.out C8.out SC8.out CN6.out CL7.out hJ' hS' hk' hF' hs';have C9:=Hz (show mx w h W (ib+1) ib (ib+1+1) cp (W.pass major).1 (bq au iM (W.pass major).1 (W.pass major).2.2) (bs au iM (W.pass major).1 (W.pass major).2.1) nv9 rgv wv cr cw h.fv W.T w8 from c9);clear PE hJ' hS' hk' hF' hs' c9 kd b0 bl pl C7 SC7 H7 C8 SC8 H8 J8 CL7 CN6 C6 CR MR HR HF HG HLN HRV;refine hK _ _ ?_;clear hK K;refine aB (fun _=>True) trivial (av ?_);have PM:=Hz (Wd.g6 HOK.out major);have HLV:=Hz (show ∀ i,au (W.pass major).1 i=true→W.live i from PM.out.1.live);have HPL:=Hz PM.out.1.len;have SK:=Hz (vj HOK.out HLV.out);have CUT:=Hz (show W.cut major=if fp (W.pass major).1 W.T > W.grow then (3,W) else (0,W.after major) by unfold Wd.cut;rw [if_neg HNC.out]);have AFT:=Hz (show W.after major={ W with T:=kF (W.pass major).1 W.T,ah:=bq au iM (W.pass major).1 (W.pass major).2.2,wait:=bs au iM (W.pass major).1 (W.pass major).2.1 } from rfl);have SHUT:=Hz (show cj W.nd (W.pass major).2.1 fun i=>au (W.pass major).1 i=true from PM.out.1.shut);have AOK:=Hz (show ¬ fp (W.pass major).1 W.T > W.grow→(W.after major).ok∧(W.after major).az=0∧(W.after major).cm=fp (W.pass major).1 W.T∧(∀ i,(W.after major).live i↔au (W.pass major).1 i=true) from fun hr=>⟨HOK.out.after (by omega),(Wd.kG HOK.out major).1,(Wd.kG HOK.out major).2,fun i=>Wd.iw HOK.out⟩);clear t nv PM;generalize bq au iM (W.pass major).1 (W.pass major).2.2=rg2 at *;generalize bs au iM (W.pass major).1 (W.pass major).2.1=wt2 at *;generalize (W.pass major).2.1=q2 at *;generalize (W.pass major).1=is at *;obtain ⟨p0,-⟩:=(show w8.cell? ⟨h.p,0,none⟩=some h.tv∧True from ⟨C9.out.S.hp.cell 0,trivial⟩);have pl:=C9.out.S.hp.lt;rw [HTV.out] at p0;have HPI:=Hz (show is.length=W.T.length from HPL.out);go_wp2_with fail;go_loopw [10,108] (fun s u wr=>∃ i:Nat,i≤W.T.length∧u=.int .i64 i∧s=.int .i64 (iR is W.T i)∧wr=w8) (fun _ u _=>W.T.length-(intOf u).toNat)
     case atStart=>exact ⟨0,Nat.zero_le _,rfl,by rw [r8],rfl⟩
     case round=>
      obtain ⟨i,hi,rfl,rfl,rfl⟩:=hrel;by_cases hlt:i<W.T.length
      ·have hT9:=C9.out.T;rw [HTV.out] at hT9;obtain ⟨gt,ot,rfl⟩:∃ g o,no=some ⟨g,o,none⟩:=by
        obtain ⟨cs,hs,_⟩:=hT9;obtain ⟨g',o',_,_,e',-⟩:=hs.laid (by omega);cases e';exact ⟨_,_,rfl⟩
       obtain ⟨hg,-,hrow⟩:=hT9.row hlt;have b0:=C9.out.B.cell 0;have bl:=C9.out.B.lt;have l1:=C9.out.L.hp.cell 1;have ll:=C9.out.L.hp.lt;simp only [Lz,aC] at b0 l1;have hb:=C9.out.L.bool (i:=i) (by have:=HPI.out;dsimp only;omega);have hbl:=C9.out.L.hi.lt;rw [HPI.out] at l1;have STP:=Hz (r7 (is:=is) hlt);have SB:=SK.out i (by omega);have hii:(i:Int)<W.T.length:=by omega
       cases dV:is.getD i false
       ·have SE:=Hz (show iR is W.T (i+1)=iR is W.T i by rw [STP.out,dV];simp);dsimp only at hb;rw [dV] at hb;clear dV hrow hT9 STP;go_wp2_with fail;go_roundw
        case rel=>exact ⟨i+1,hlt,by go_num,by rw [SE.out],trivial⟩
        case measure=>simp [intOf];omega
       ·have hlv:=HLV.out (i:Int) (by rw [dH];exact dV);have hded:(W.T.getD i Th.none).dead=false:=by rw [←Wd.gH];exact hlv.2.2
        have SE:=Hz (show iR is W.T (i+1)=iR is W.T i+(1+((W.T.getD i Th.none).fs.length:Int)) by rw [STP.out,dV];rfl);have hfl:=(bK (HOK.out.tk _ hlv)).2.2.2;rw [Wd.gH] at hfl;have t1:=hrow.f hded;obtain ⟨fo,fc,efv,-,-,-⟩:=(hrow.s hded).rd;rw [efv] at t1;dsimp only at hb;rw [dV] at hb;have HWD:=Hz (ua hg t1 (by omega));clear dV hrow hT9 STP hlv hded t1 efv;generalize (W.T.getD i Th.none).fs.length=fl at *;go_wp2_with fail;refine HWD.out.mono ?_;rintro e w9 ⟨rfl,rfl⟩;go_wp2_with fail;go_roundw
        case rel=>exact ⟨i+1,hlt,by go_num,by rw [SE.out],trivial⟩
        case measure=>simp [intOf];omega
      ·obtain rfl:i=W.T.length:=by omega
       have SB:=SK.out W.T.length (Nat.le_refl _);have SA:=Hz (yA is W.T);obtain ⟨sm,hsm⟩:∃ x,iR is W.T W.T.length=x:=⟨_,rfl⟩;rw [hsm] at SB SA;rw [hsm];clear hsm;have p7:wr.cell? ⟨h.p,7,none⟩=some (.int .i64 W.grow):=C9.out.S.hp.cell 7;by_cases hbig:sm > W.grow
       ·have HE:=Hz (show W.cut major=(3,W) by rw [CUT.out,if_pos (by rw [←SA.out];exact hbig)]);have p2:=C9.out.S.hp.cell 2;have p3:=C9.out.S.hp.cell 3;have f2:=C9.out.S.hp.free 2;have f3:=C9.out.S.hp.free 3;have c0:=C9.out.C.hp.cell 0;have c1:=C9.out.C.hp.cell 1;have cl:=C9.out.C.hp.lt;simp only [Lz,aC] at p2 p3 c0 c1;obtain ⟨cro,crc,ecr,-,-,-⟩:=C9.out.C.hr.rd;obtain ⟨cwo,cwc,ecw,-,-,-⟩:=C9.out.C.hw.rd;rw [ecr] at c0;rw [ecw] at c1;have G9:=Hz (C9.out.back HH.out);rw [ecr,ecw] at G9;clear ecr ecw;go_upto_region 27 with (refine bZ rfl 133 (.tmp 136) rfl (by kernel_rfl) cp 0 rfl _ _ c0 c1 ?_)
        go_wp2_with fail;go_ret;rw [HE.out];exact ⟨rfl,G9.out⟩
       ·have hbig:sm≤W.grow:=by omega
        have AO:=Hz (AOK.out (by rw [←SA.out];omega));have HE:=Hz (show W.cut major=(0,W.after major) by rw [CUT.out,if_neg (by rw [←SA.out];omega)]);have HGS:=Hz (show ∀ i:Nat,i<W.T.length→lQ is i (W.T.getD i Th.none)=dM is i (W.T.getD i Th.none) from fun i hi=>by
         unfold lQ;cases hb:is.getD i false
         ·rw [z5 hb];rfl
         ·have hlv:=HLV.out (i:Int) (by rw [dH];exact hb);have hm:=yO HOK.out SHUT.out hlv (by rw [dH];exact hb);rw [Int.toNat_natCast,Wd.gH] at hm
          rw [hm,if_pos rfl,←Wd.gH,hlv.2.2])
        have C10:=Hz (show mx w h W (ib+1) ib (ib+1+1) cp is rg2 wt2 nv9 rgv wv cr cw h.fv (gP is W.T 0) wr by rw [xo];exact C9.out);go_wp2_with fail;clear p7 p0 pl C9;go_loopw [145] (fun u wy=>∃ (i:Nat) (tx:Nat→Value),i≤W.T.length∧u=.int .i64 i∧mx w h W (ib+1) ib (ib+1+1) cp is rg2 wt2 nv9 rgv wv cr cw tx (gP is W.T i) wy∧∀ j k,ak (tx j) k→j<i→is.getD j false=true) (fun u _=>W.T.length-(intOf u).toNat)
        case atStart=>exact ⟨0,h.fv,Nat.zero_le _,rfl,C10.out,fun j k _ hj=>by omega⟩
        case round=>
         clear C10;obtain ⟨i,tx,hi,rfl,hC,hown⟩:=hrel;have CI:=Hz hC;have OW:=Hz hown;clear hC hown;by_cases hlt:i<W.T.length
         ·have b0:=CI.out.B.cell 0;have bl:=CI.out.B.lt;have l1:=CI.out.L.hp.cell 1;have ll:=CI.out.L.hp.lt;simp only [Lz,aC] at b0 l1;rw [HPI.out] at l1;have eg:=Hz (show (gP is W.T i).getD i Th.none=W.T.getD i Th.none by
           rw [Ld,Ld,Le (by rw [ia];exact hlt),Le hlt,tt _ _ hlt])
          have HST:=Hz (xR i CI.out.S.hp (show _=some h.tv from rfl) CI.out.T CI.out.F (fun a b k h1 h2=>HH.out.fi a b k (CI.out.fo a k h1) (CI.out.fo b k h2)) CI.out.L.hi (by rw [ia];exact HPI.out) (by rw [ia];exact HT.out) (by rw [ia];exact hlt) (by
           have hlv:is.getD i false=true→W.live (i:Int):=fun hb=>HLV.out (i:Int) (by rw [dH];exact hb);refine ⟨fun hb=>?_,fun hb=>?_,fun hb=>?_,fun hb=>?_⟩
           ·rw [eg.out,←Wd.gH];exact (hlv hb).2.2
           ·rw [eg.out,←Wd.gH,ia];exact fun v hv h3=>by have:=Wd.aY (HOK.out.tv _ (hlv hb) v hv) h3;exact ⟨this.1,this.2.1⟩
           ·rw [eg.out,←Wd.gH];have:=(bK (HOK.out.tk _ (hlv hb))).2.2.2;omega
           ·rw [eg.out,←Wd.gH];intro hk;have:=HOK.out.tk _ (hlv hb);rw [hk] at this;simp [bm] at this
            omega))
          rw [ia] at HST;have hii:(i:Int)<W.T.length:=by omega
          go_wp2_with fail;refine HST.out.mono ?_;rintro e w9 ⟨rfl,hto⟩;obtain ⟨tx',c',o'⟩:=CI.out.settled HH.out hlt hto (HGS.out i hlt);have CN:=Hz c';have ON:=Hz (show ∀ j k,ak (tx' j) k→j<i+1→is.getD j false=true from fun j k hk hj=>by
           have h1:=o' j k hk;by_cases e:j=i
           ·subst e;exact h1.2 rfl
           ·exact OW.out j k h1.1 (by omega))
          clear hto c' o' b0 bl l1 ll;go_wp2_with fail;go_roundw
          case rel=>exact ⟨i+1,tx',hlt,by go_num,CN.out,ON.out⟩
          case measure=>simp [intOf];omega
         ·obtain rfl:i=W.T.length:=by omega
          have CE:=CI.out;rw [yB] at CE;have CE:=Hz CE;have p4:=CE.out.S.hp.cell 4;have p5:=CE.out.S.hp.cell 5;have pl:=CE.out.S.hp.lt;have f4:=CE.out.S.hp.free 4;have f5:=CE.out.S.hp.free 5;simp only [Lz,aC] at p4 p5;have GE:=Hz (CE.out.done HH.out AFT.out AO.out.1 AO.out.2.1 (AO.out.2.2.1.trans SA.out.symm) (fun i k hk=>by
           have hl:W.live (i:Int):=HH.out.fl i k (CE.out.fo i k hk);rw [AO.out.2.2.2,dH]
           exact OW.out i k hk (by have:=hl.2.1;omega)))
          go_wp2_with fail;go_ret;rw [HE.out];exact ⟨rfl,GE.out⟩
end
end
end Go.Proofs.YtjifdalflepcoacGreat
