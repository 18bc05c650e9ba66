/-
  Parts of the proof, merged: what the functions do, and plain laws.
-/
import Derived.Test.YtjifdalflepcoabGGBP3
import Derived.Test.YtjifdalflepcoabGGBP2
import Derived.Test.YtjifdalflepcoabGGBP1
import Derived.Test.YtjifdalflepcoabGGBP0
set_option maxHeartbeats 16000000
set_option maxRecDepth 100000
set_option linter.unusedVariables false
set_option linter.unusedSimpArgs false
namespace Go.Proofs.Ytjifdalflepcoab
section
open Go.RowKit
section
variable {w w':World} {h:bT} {W:Wd}
theorem mH (major:Bool) (H:aG w h W) (hT:W.T.length≤100000) :
  Calls Try.prog 101 #[.pointer (some ⟨h.p,0,none⟩), .bool major] w fun e w'=>e=.returned (.int .i64 (W.cut major).1)∧aI w h w' (W.cut major).2:=by
 obtain ⟨ib0,hi,hz0,hz1,hz2⟩:=info_parts gX;have hk:=fun (wx:World)=>cR (P:=Try.prog) wx 76 4 ib0 (.bool false) Try.underlying76 hi hz0 rfl hz1 W.T.length (by rw [hz2];omega) (by omega);clear hi hz0 hz1 hz2 ib0;have HK:=Hz hk;clear hk;have HH:=Hz H;have HT:=Hz hT;have hok:=H.ok;have HOK:=Hz hok;have g1:=hok.g1;have g2:=hok.g2;have uo:=hok.uo;have uy:=hok.uy;have m1:=hok.m1;have m2:=hok.m2;have y0:0≤W.aL:=eP _ _;have z0:0≤W.bq:=eP _ _;obtain ⟨p0,p1,-,-,p4,p5,p6,p7⟩:=H.cells;have pl:=H.hp.lt;have HY:=Hz (And.intro y0 z0);clear H hok;go_enter Try.func101,Try.ntmps101;go_upto_region 1 with fail
 obtain ⟨b,hb⟩:∃ b,decide (major=false∧W.aL > W.grow-W.bq)=b:=⟨_,rfl⟩;have HBB:=Hz hb;have hwr:IntKind.i64.wrap (W.grow-W.bq)=W.grow-W.bq:=IntWalk.i64_in _ (by omega);refine dS (fun i=>Nat.blt 12 i && Nat.blt i 31) (fun s wx=>s 30=.bool b∧aa (fun _=>False) w wx) ?_ ?_
 ·intro K0 hK0;cases major
  ·have hb2:decide (W.grow-W.bq<W.aL)=b:=by rw [←hb];simp
   clear hb;refine aq (.free 0 (.free 1 (.free 2 (.free 3 (.free 4 (.free 5 (.free 7 (.free 8 (.free 9 (.free 11 (.free 12 (.free 13 (.pure 6 (.pure 10 (.pure 14 (.free 15 (.free 16 (.free 17 (.fin))))))))))))))))))) [] (fun w'=>w'.cell? ⟨h.p,4,none⟩=some (.int .i64 W.aL)∧w'.cell? ⟨h.p,5,none⟩=some (.int .i64 W.bq)∧w'.cell? ⟨h.p,7,none⟩=some (.int .i64 W.grow)) (by kernel_rfl) (by kernel_rfl) ⟨p4,p5,p7⟩ ?_
   iterate 18 ((first | refine ak rfl rfl fun K hK=>?_ | refine aj rfl rfl fun K hK=>?_ | refine aB rfl rfl fun K hK=>?_ | refine aw rfl rfl fun K hK=>?_ | refine aA rfl rfl fun K hK=>?_);go_simp;refine hK _ ?_;clear hK K)
   refine aD ?_;refine hK0 _ _ ?_;refine ⟨by kernel_rfl,?_⟩;exact ⟨rfl,(aa.refl _ _).drew⟩
  ·have hb2:b=false:=by rw [←hb];simp
   subst hb2;clear hb;refine aq (.free 0 (.free 1 (.free 2 (.free 3 (.free 4 (.free 5 (.free 7 (.free 8 (.free 9 (.free 11 (.free 12 (.free 13 (.pure 6 (.pure 10 (.pure 14 (.free 15 (.free 16 (.free 17 (.fin))))))))))))))))))) [] (fun w'=>w'.cell? ⟨h.p,4,none⟩=some (.int .i64 W.aL)∧w'.cell? ⟨h.p,5,none⟩=some (.int .i64 W.bq)∧w'.cell? ⟨h.p,7,none⟩=some (.int .i64 W.grow)) (by kernel_rfl) (by kernel_rfl) ⟨p4,p5,p7⟩ ?_
   iterate 18 ((first | refine ak rfl rfl fun K hK=>?_ | refine aj rfl rfl fun K hK=>?_ | refine aB rfl rfl fun K hK=>?_ | refine aw rfl rfl fun K hK=>?_ | refine aA rfl rfl fun K hK=>?_);go_simp;refine hK _ ?_;clear hK K)
   refine aD ?_;refine hK0 _ _ ?_;refine ⟨by kernel_rfl,?_⟩;exact ⟨rfl,(aa.refl _ _).drew⟩
 intro u wx hR;obtain ⟨e30,hkx⟩:=hR;have e30:u 30=.bool b:=e30;simp (maxSteps:=2000000) only [cV,overL,List.toList_toArray,Nat.blt,Nat.beq,Nat.ble,Nat.reduceAdd,Bool.or_false,Bool.false_or,Bool.or_true,Bool.true_or,Bool.and_true,Bool.true_and,Bool.and_false,Bool.false_and,cond_true,cond_false];rw [e30];clear e30 p0 p1 p4 p5 p6 p7 pl;rename_i K3 hK3;have H1:=Hz (HH.out.same hkx);have KX:=Hz hkx;clear hkx;cases b
 case true=>
  have HE:=Hz (show W.cut major=(3,W) by unfold Wd.cut;rw [if_pos (by simpa using hb)]);clear hb;go_wp2_with fail;go_ret;rw [HE.out];exact ⟨rfl,aI.aY KX.out (aI.same H1.out (aa.refl _ _))⟩
 have HNC:=Hz (show ¬ (major=false∧W.aL > W.grow-W.bq) by simpa using hb);clear hb;obtain ⟨p0,-⟩:=H1.out.cells;have pl:=H1.out.hp.lt;obtain ⟨no,nc,etv⟩:=H1.out.tv;rw [etv] at p0;have HTV:=Hz etv;have hk:=HK.out;clear etv;go_upto_region 4 with fail
 have C4:=Hz (gj.begin (w:=w) (w1:=wx) (gp:=h.p) W.T.length KX.out);clear hk p0 pl H1 KX hwr;generalize ((wx.alloc (.cells (Array.replicate W.T.length (.bool false)) 4)).alloc (.cells #[.pointer (some ⟨h.p,0,none⟩), .slice (some ⟨wx.heap.size,0,none⟩) W.T.length W.T.length, .slice none 0 0] 197)).alloc (.cells #[.pointer (some ⟨wx.heap.size+1,0,none⟩)] 195)=w4 at *;generalize wx.heap.size=ib at *;have H4:=Hz (C4.out.fC HH.out);obtain ⟨p0,-⟩:=H4.out.cells;have pl:=H4.out.hp.lt;rw [HTV.out] at p0;go_wp2_with fail;clear p0 pl H4;go_loopw [45] (fun u wr=>∃ (i:Nat) (t:List Bool × List Nat) (nv:Value),i≤W.T.length∧u=.int .i64 i∧gj w h.p (ib+1) ib (ib+1+1) nv wr t∧MI W (X1 W major i) t) (fun u _=>W.T.length-(intOf u).toNat)
 case atStart=>exact ⟨0,_,_,Nat.zero_le _,rfl,C4.out,MI.zero⟩
 case round=>
  clear C4;obtain ⟨i,t,nv,hi,rfl,hC,hM⟩:=hrel;have CR:=Hz hC;have MR:=Hz hM;clear hC hM;have HR:=Hz (CR.out.fC HH.out);by_cases hlt:i<W.T.length
  ·obtain ⟨gt,ot,ntc,etl,-,hgt,-,hrow⟩:=HR.out.nth hlt;rw [HTV.out] at etl;cases etl;obtain ⟨p0,-⟩:=HR.out.cells;have pl:=HR.out.hp.lt;rw [HTV.out] at p0;rw [←Wd.dR] at hrow;obtain ⟨_,_,c,-,-,t2⟩:=hrow.c;have t3:=hrow.d;have hco:(W.th (i:Int)).dead=false→c=(W.th (i:Int)).aV:=fun hd=>by
    have:=hrow.o hd;rw [t2] at this;cases this;rfl
   have b0:=CR.out.B.cell 0;have bl:=CR.out.B.lt;simp only [Lz] at b0;have HCO:=Hz hco;clear hrow hco;obtain ⟨dd,hdd⟩:∃ d,(W.th (i:Int)).dead=d:=⟨_,rfl⟩;rw [hdd] at t3;have HDD:=Hz hdd;clear hdd;have hii:(i:Int)<W.T.length:=by omega
   go_upto_region 7 with fail;refine dS (fun i=>Nat.blt 46 i && Nat.blt i 71) (fun s wy=>s 70=.bool (c && !dd && !major)∧wy=wr) ?_ ?_
   ·intro K0 hK0;cases c <;> cases dd <;> cases major <;>
    ·go_wp2_with fail;refine ⟨by kernel_rfl,?_⟩;exact ⟨rfl,rfl⟩
   intro u1 wy hR;obtain ⟨e70,rfl⟩:=hR;have e70:u1 70=.bool (c && !dd && !major):=e70;simp (maxSteps:=2000000) only [cV,overL,List.toList_toArray,Nat.blt,Nat.beq,Nat.ble,Nat.reduceAdd,Bool.or_false,Bool.false_or,Bool.or_true,Bool.true_or,Bool.and_true,Bool.true_and,Bool.and_false,Bool.false_and,cond_true,cond_false];rw [e70];clear e70 t2 t3 p0 pl hgt;rename_i K4 hK4;obtain ⟨cnd,hcnd⟩:∃ x,(c && !dd && !major)=x:=⟨_,rfl⟩;rw [hcnd];cases cnd
   ·have NX:=Hz (MR.out.aL (n:=i) (fun hx=>by
     rw [HDD.out] at hx;have h1:=HCO.out (by rw [HDD.out];exact hx.2.1);rw [h1,hx.1,hx.2.1,hx.2.2] at hcnd
     cases hcnd))
    clear hcnd b0 bl;go_wp2_with fail;go_roundw
    case rel=>exact ⟨i+1,t,nv,hlt,by go_num,CR.out,NX.out⟩
    case measure=>simp [intOf];omega
   ·simp only [Bool.and_eq_true,Bool.not_eq_true'] at hcnd;have HOD:=Hz (show (W.th (i:Int)).aV=true∧(W.th (i:Int)).dead=false∧major=false from ⟨by rw [←HCO.out (by rw [HDD.out];exact hcnd.1.2)];exact hcnd.1.1,by rw [HDD.out];exact hcnd.1.2,hcnd.2⟩);have NX:=Hz (MR.out.aV hlt HOD.out);have HM:=Hz (jD (3,(i:Int)) CR.out.L (fun _=>⟨by simp,by have:=MR.out.len;dsimp only;omega⟩) (by rw [MR.out.len];exact HT.out) (Nat.le_trans MR.out.iw HT.out));clear hcnd;go_wp2_with fail;refine HM.out.mono ?_;rintro e w5 ⟨rfl,hU⟩;obtain ⟨nv5,c5⟩:=CR.out.to hU;have C5:=Hz c5;clear hU c5 b0 bl;go_wp2_with fail;go_roundw
    case rel=>exact ⟨i+1,_,nv5,hlt,by go_num,C5.out,NX.out⟩
    case measure=>simp [intOf];omega
  ·obtain rfl:i=W.T.length:=by omega
   have M5:=Hz MR.out.sd;obtain ⟨-,p1,-⟩:=HR.out.cells;have pl:=HR.out.hp.lt;obtain ⟨ro,rc,erv,-,-,-⟩:=HR.out.hr.rd;rw [erv] at p1;have HRV:=Hz erv;clear erv;go_wp2_with fail;clear p1 pl HR hlt;go_loopw [81] (fun u wr=>∃ (k:Nat) (t:List Bool × List Nat) (nv:Value),k≤W.roots.length∧u=.int .i64 k∧gj w h.p (ib+1) ib (ib+1+1) nv wr t∧MI W (X2 W major k) t) (fun u _=>W.roots.length-(intOf u).toNat)
   case atStart=>exact ⟨0,_,_,Nat.zero_le _,rfl,CR.out,M5.out⟩
   case round=>
    clear CR MR M5 hi t nv;obtain ⟨k,t,nv,hk,rfl,hC,hM⟩:=hrel;have CR:=Hz hC;have MR:=Hz hM;clear hC hM;have HR:=Hz (CR.out.fC HH.out);have b0:=CR.out.B.cell 0;have bl:=CR.out.B.lt;simp only [Lz] at b0;have r12:W.roots.length≤12:=by have:=HOK.out.hr;omega
    by_cases hlt:k<W.roots.length
    ·have rd3:Rd wr ro (aC W.roots):=by
      have:=HR.out.hr;rw [HRV.out] at this;obtain ⟨_,_,e',rd,-,-⟩:=this.rd;cases e';exact rd
     obtain ⟨gr,orr,rfl,hgr,v0,v1⟩:=rd3.dA k hlt;have NX:=Hz (MR.out.root HOK.out hlt);have hin:W.roots.getD k (0,0) ∈ W.roots:=by rw [Ld,Le hlt];exact List.getElem_mem hlt
     have HV:=Hz (HOK.out.rv _ hin);clear rd3 hin;generalize W.roots.getD k (0,0)=v at *;have hki:(k:Int)<W.roots.length:=by omega
     go_upto_region 13 with (refine bd rfl 78 (.tmp 83) rfl (by kernel_rfl) gr (orr+k*2) rfl _ _ v0 v1 ?_);have ka:=(Kz wr).alloc (.cells #[.int .i64 v.1, .int .i64 v.2] 78);have BV:=Hz (show ah (wr.alloc (.cells #[.int .i64 v.1, .int .i64 v.2] 78)) wr.heap.size _ 78 from ah.newAt _ rfl rfl);have C5:=Hz (CR.out.same ka);clear ka v0 v1 hgr b0 bl CR HR;generalize wr.alloc (.cells #[.int .i64 v.1, .int .i64 v.2] 78)=wv at *;generalize wr.heap.size=vb at *;have c0:=BV.out.cell 0;have c1:=BV.out.cell 1;have cl:=BV.out.lt;have b0:=C5.out.B.cell 0;have bl:=C5.out.B.lt;simp only [Lz,Ls] at c0 c1 b0;have HM:=Hz (jD v C5.out.L (fun h3=>by have:=Wd.bp HV.out h3;rw [MR.out.len];exact ⟨this.1,this.2.1⟩) (by rw [MR.out.len];exact HT.out) (Nat.le_trans MR.out.iw HT.out));go_wp2_with (refine bd rfl 78 (.tmp 8) rfl (by kernel_rfl) vb 0 rfl _ _ c0 c1 ?_);refine HM.out.mono ?_;rintro e w5 ⟨rfl,hU⟩;obtain ⟨nv5,c5⟩:=C5.out.to hU;have C6:=Hz c5;have NZ:=Hz (show ∃ (k2:Nat) (t:List Bool × List Nat) (nv:Value),k2≤W.roots.length∧Value.int .i64 ((k:Int)+1)=.int .i64 k2∧gj w h.p (ib+1) ib (ib+1+1) nv w5 t∧MI W (X2 W major k2) t from ⟨k+1,_,nv5,hlt,rfl,C6.out,NX.out⟩);clear hU c5 b0 bl c0 c1 cl;go_wp2_with fail;go_roundw
     case rel=>
      first
      | exact NZ.out
      | ((repeat apply Exists.intro);exact ⟨NZ.out,rfl⟩)
     case measure=>simp [intOf];omega
    ·obtain rfl:k=W.roots.length:=by omega
     have hf:=MR.out.first (Nat.le_refl _)
     have HF:=Hz hf;have HG:=Hz (MR.out.gi (q:=W.wait));have HLN:=Hz MR.out.len;clear hf hlt;go_wp2_with fail;refine (rn h.p h.gv h.wv W.regs W.wait _ HR.out.side (by have:=HOK.out.hq;omega) (by have:=HOK.out.hq;omega)).mono ?_;rintro e w6 ⟨cp,cr,cw,rfl,hcs,hck,hcn⟩;have C6:=Hz (CR.out.same hck);have SC6:=Hz hcs;have CN6:=Hz (show ∀ b,aR cp cr cw b→w.heap.size≤b from fun b hb=>Nat.le_trans CR.out.K.size (hcn b hb));have NL6:=Hz (show ∀ b,aR cp cr cw b→∀ c T,ah wr b c T→False from fun b hb c T hc=>by have:=hcn b hb;have:=hc.lt;omega);clear hcs hck hcn b0 bl;have b0:=C6.out.B.cell 0;have bl:=C6.out.B.lt;simp only [Lz] at b0;have H6:=Hz (C6.out.fC HH.out);go_wp2_with fail;refine (GSpread_c H6.out.sp C6.out.L HOK.out HG.out HOK.out.wv HT.out (by have:=HOK.out.hq;omega)).mono ?_;rintro e w7 ⟨rfl,hU⟩;have SC7:=Hz (show cC w7 cp cr cw W.regs W.wait from by
      obtain ⟨nv',L',k',-⟩:=hU
      exact SC6.out.ae k' (fun b hb hk=>C6.out.copy SC6.out b hb (.inl hk)))
     obtain ⟨nv7,c7⟩:=C6.out.to hU;have C7:=Hz c7;have CL7:=Hz (c7.copy SC7.out);have H7:=Hz (c7.fC HH.out);clear hU c7 b0 bl SC6 NL6 H6;have b0:=C7.out.B.cell 0;have bl:=C7.out.B.lt;simp only [Lz] at b0;have pl:=H7.out.hp.lt;go_wp2_with fail;refine aq (.free 0 (.free 1 (.free 2 (.free 5 (.pure 3 (.free 4 (.free 6 (.run 7 (.swi [] (.fin)))))))))) [7] (fun w'=>w'.cell? ⟨ib+1+1,0,none⟩=some (.pointer (some ⟨ib+1,0,none⟩))) (by kernel_rfl) (by kernel_rfl) b0 ?_
     iterate 7 ((first | refine ak rfl rfl fun K hK=>?_ | refine aj rfl rfl fun K hK=>?_ | refine aB rfl rfl fun K hK=>?_ | refine aw rfl rfl fun K hK=>?_ | refine aA rfl rfl fun K hK=>?_);go_simp;refine hK _ ?_;clear hK K)
     refine aK rfl rfl rfl (fun K hK=>?_);unfold aM;go_simp;have kd:=(Kz w7).drew;have C8:=Hz (C7.out.same kd);have SC8:=Hz (SC7.out.ae kd (fun _ _ h=>h));have H8:=Hz (H7.out.same kd);have J8:=Hz (show GJ (h.gx W) h.p (ib+1) ib (ib+1+1) h.fv W w7.drew (W.b8 W.wait t.1) _ from ⟨nv7,C8.out.L,C8.out.B,H8.out.ht,fun i b hb=>(H8.out.af i b hb).2.1,g6.b8 HOK.out HOK.out.wv HLN.out MR.out.lv,rfl⟩);refine (pn h.p (j2 (h.gx W) h.p (ib+1) ib (ib+1+1) h.fv W HOK.out HT.out) (W.b8 W.wait t.1) _ h.gv h.wv W.regs W.wait _ J8.out H8.out.side (J8.out.apart H8.out.side) (by have:=HOK.out.hq;omega) (by have:=HOK.out.hq;omega)
      (fun e he=>⟨⟨(HOK.out.gv e he).1,(HOK.out.gv e he).2.2⟩,HOK.out.gv e he⟩) (fun e he=>⟨⟨(HOK.out.wv e he).1,(HOK.out.wv e he).2.2⟩,HOK.out.wv e he⟩)).mono ?_
     rintro e w8 ⟨rfl,F',rgv,wv,hJ',hS',-,hk',hF',hs'⟩;have PE:ec (j2 (h.gx W) h.p (ib+1) ib (ib+1+1) h.fv W HOK.out HT.out).alive (j2 (h.gx W) h.p (ib+1) ib (ib+1+1) h.fv W HOK.out HT.out).ae (W.b8 W.wait t.1) W.regs W.wait=W.pass major:=by rw [HF.out];rfl
     rw [PE] at hJ' hS';obtain ⟨nv9,c9⟩:=iz.begin HH.out C8.out SC8.out CN6.out CL7.out hJ' hS' hk' hF' hs';have C9:=Hz (show iz w h W (ib+1) ib (ib+1+1) cp (W.pass major).1 (bR av fq (W.pass major).1 (W.pass major).2.2) (bG av fq (W.pass major).1 (W.pass major).2.1) nv9 rgv wv cr cw h.fv W.T w8 from c9);clear PE hJ' hS' hk' hF' hs' c9 kd b0 bl pl C7 SC7 H7 C8 SC8 H8 J8 CL7 CN6 C6 CR MR HR HF HG HLN HRV;refine hK _ _ ?_;clear hK K;refine aH (fun _=>True) trivial (aD ?_);have PM:=Hz (Wd.dh HOK.out major);have HLV:=Hz (show ∀ i,av (W.pass major).1 i=true→W.live i from PM.out.1.live);have HPL:=Hz PM.out.1.len;have SK:=Hz (nA HOK.out HLV.out);have CUT:=Hz (show W.cut major=if fI (W.pass major).1 W.T > W.grow then (3,W) else (0,W.after major) by unfold Wd.cut;rw [if_neg HNC.out]);have AFT:=Hz (show W.after major={ W with T:=gA (W.pass major).1 W.T,regs:=bR av fq (W.pass major).1 (W.pass major).2.2,wait:=bG av fq (W.pass major).1 (W.pass major).2.1 } from rfl);have SHUT:=Hz (show eN W.nd (W.pass major).2.1 fun i=>av (W.pass major).1 i=true from PM.out.1.shut);have AOK:=Hz (show ¬ fI (W.pass major).1 W.T > W.grow→(W.after major).ok∧(W.after major).aL=0∧(W.after major).bq=fI (W.pass major).1 W.T∧(∀ i,(W.after major).live i↔av (W.pass major).1 i=true) from fun hr=>⟨HOK.out.after (by omega),(Wd.fr HOK.out major).1,(Wd.fr HOK.out major).2,fun i=>Wd.bB HOK.out⟩);clear t nv PM;generalize bR av fq (W.pass major).1 (W.pass major).2.2=rg2 at *;generalize bG av fq (W.pass major).1 (W.pass major).2.1=wt2 at *;generalize (W.pass major).2.1=q2 at *;generalize (W.pass major).1=is at *;obtain ⟨p0,-⟩:=(show w8.cell? ⟨h.p,0,none⟩=some h.tv∧True from ⟨C9.out.S.hp.cell 0,trivial⟩);have pl:=C9.out.S.hp.lt;rw [HTV.out] at p0;have HPI:=Hz (show is.length=W.T.length from HPL.out);go_wp2_with fail;go_loopw [10,108] (fun s u wr=>∃ i:Nat,i≤W.T.length∧u=.int .i64 i∧s=.int .i64 (eU is W.T i)∧wr=w8) (fun _ u _=>W.T.length-(intOf u).toNat)
     case atStart=>exact ⟨0,Nat.zero_le _,rfl,by rw [lu],rfl⟩
     case round=>
      obtain ⟨i,hi,rfl,rfl,rfl⟩:=hrel;by_cases hlt:i<W.T.length
      ·have hT9:=C9.out.T;rw [HTV.out] at hT9;obtain ⟨gt,ot,rfl⟩:∃ g o,no=some ⟨g,o,none⟩:=by
        obtain ⟨cs,hs,_⟩:=hT9;obtain ⟨g',o',_,_,e',-⟩:=hs.laid (by omega);cases e';exact ⟨_,_,rfl⟩
       obtain ⟨hg,-,hrow⟩:=hT9.row hlt;have b0:=C9.out.B.cell 0;have bl:=C9.out.B.lt;have l1:=C9.out.L.hp.cell 1;have ll:=C9.out.L.hp.lt;simp only [Lz,Ls] at b0 l1;have hb:=C9.out.L.bool (i:=i) (by have:=HPI.out;dsimp only;omega);have hbl:=C9.out.L.hi.lt;rw [HPI.out] at l1;have STP:=Hz (lr (is:=is) hlt);have SB:=SK.out i (by omega);have hii:(i:Int)<W.T.length:=by omega
       cases hbv:is.getD i false
       ·have SE:=Hz (show eU is W.T (i+1)=eU is W.T i by rw [STP.out,hbv];simp);dsimp only at hb;rw [hbv] at hb;clear hbv hrow hT9 STP;go_wp2_with fail;go_roundw
        case rel=>exact ⟨i+1,hlt,by go_num,by rw [SE.out],trivial⟩
        case measure=>simp [intOf];omega
       ·have hlv:=HLV.out (i:Int) (by rw [cG];exact hbv);have hded:(W.T.getD i Th.none).dead=false:=by rw [←Wd.dR];exact hlv.2.2
        have SE:=Hz (show eU is W.T (i+1)=eU is W.T i+(1+((W.T.getD i Th.none).fs.length:Int)) by rw [STP.out,hbv];rfl);have hfl:=(aX (HOK.out.tk _ hlv)).2.2.2;rw [Wd.dR] at hfl;have t1:=hrow.f hded;obtain ⟨fo,fc,efv,-,-,-⟩:=(hrow.s hded).rd;rw [efv] at t1;dsimp only at hb;rw [hbv] at hb;have HWD:=Hz (mG hg t1 (by omega));clear hbv hrow hT9 STP hlv hded t1 efv;generalize (W.T.getD i Th.none).fs.length=fl at *;go_wp2_with fail;refine HWD.out.mono ?_;rintro e w9 ⟨rfl,rfl⟩;go_wp2_with fail;go_roundw
        case rel=>exact ⟨i+1,hlt,by go_num,by rw [SE.out],trivial⟩
        case measure=>simp [intOf];omega
      ·obtain rfl:i=W.T.length:=by omega
       have SB:=SK.out W.T.length (Nat.le_refl _);have SA:=Hz (pZ is W.T);obtain ⟨sm,hsm⟩:∃ x,eU is W.T W.T.length=x:=⟨_,rfl⟩;rw [hsm] at SB SA;rw [hsm];clear hsm;have p7:wr.cell? ⟨h.p,7,none⟩=some (.int .i64 W.grow):=C9.out.S.hp.cell 7;by_cases hbig:sm > W.grow
       ·have HE:=Hz (show W.cut major=(3,W) by rw [CUT.out,if_pos (by rw [←SA.out];exact hbig)]);have p2:=C9.out.S.hp.cell 2;have p3:=C9.out.S.hp.cell 3;have f2:=C9.out.S.hp.free 2;have f3:=C9.out.S.hp.free 3;have c0:=C9.out.C.hp.cell 0;have c1:=C9.out.C.hp.cell 1;have cl:=C9.out.C.hp.lt;simp only [Lz,Ls] at p2 p3 c0 c1;obtain ⟨cro,crc,ecr,-,-,-⟩:=C9.out.C.hr.rd;obtain ⟨cwo,cwc,ecw,-,-,-⟩:=C9.out.C.hw.rd;rw [ecr] at c0;rw [ecw] at c1;have G9:=Hz (C9.out.back HH.out);rw [ecr,ecw] at G9;clear ecr ecw;go_upto_region 27 with (refine bd rfl 129 (.tmp 136) rfl (by kernel_rfl) cp 0 rfl _ _ c0 c1 ?_)
        go_wp2_with fail;go_ret;rw [HE.out];exact ⟨rfl,G9.out⟩
       ·have hbig:sm≤W.grow:=by omega
        have AO:=Hz (AOK.out (by rw [←SA.out];omega));have HE:=Hz (show W.cut major=(0,W.after major) by rw [CUT.out,if_neg (by rw [←SA.out];omega)]);have HGS:=Hz (show ∀ i:Nat,i<W.T.length→g7 is i (W.T.getD i Th.none)=bV is i (W.T.getD i Th.none) from fun i hi=>by
         unfold g7;cases hb:is.getD i false
         ·rw [rj hb];rfl
         ·have hlv:=HLV.out (i:Int) (by rw [cG];exact hb);have hm:=qe HOK.out SHUT.out hlv (by rw [cG];exact hb);rw [Int.toNat_natCast,Wd.dR] at hm
          rw [hm,if_pos rfl,←Wd.dR,hlv.2.2])
        have C10:=Hz (show iz w h W (ib+1) ib (ib+1+1) cp is rg2 wt2 nv9 rgv wv cr cw h.fv (dU is W.T 0) wr by rw [oW];exact C9.out);go_wp2_with fail;clear p7 p0 pl C9;go_loopw [145] (fun u wy=>∃ (i:Nat) (tx:Nat→Value),i≤W.T.length∧u=.int .i64 i∧iz w h W (ib+1) ib (ib+1+1) cp is rg2 wt2 nv9 rgv wv cr cw tx (dU is W.T i) wy∧∀ j k,ag (tx j) k→j<i→is.getD j false=true) (fun u _=>W.T.length-(intOf u).toNat)
        case atStart=>exact ⟨0,h.fv,Nat.zero_le _,rfl,C10.out,fun j k _ hj=>by omega⟩
        case round=>
         clear C10;obtain ⟨i,tx,hi,rfl,hC,hown⟩:=hrel;have CI:=Hz hC;have OW:=Hz hown;clear hC hown;by_cases hlt:i<W.T.length
         ·have b0:=CI.out.B.cell 0;have bl:=CI.out.B.lt;have l1:=CI.out.L.hp.cell 1;have ll:=CI.out.L.hp.lt;simp only [Lz,Ls] at b0 l1;rw [HPI.out] at l1;have eg:=Hz (show (dU is W.T i).getD i Th.none=W.T.getD i Th.none by
           rw [Ld,Ld,Le (by rw [ew];exact hlt),Le hlt,mr _ _ hlt])
          have HST:=Hz (pq i CI.out.S.hp (show _=some h.tv from rfl) CI.out.T CI.out.F (fun a b k h1 h2=>HH.out.fi a b k (CI.out.fo a k h1) (CI.out.fo b k h2)) CI.out.L.hi (by rw [ew];exact HPI.out) (by rw [ew];exact HT.out) (by rw [ew];exact hlt) (by
           have hlv:is.getD i false=true→W.live (i:Int):=fun hb=>HLV.out (i:Int) (by rw [cG];exact hb);refine ⟨fun hb=>?_,fun hb=>?_,fun hb=>?_,fun hb=>?_⟩
           ·rw [eg.out,←Wd.dR];exact (hlv hb).2.2
           ·rw [eg.out,←Wd.dR,ew];exact fun v hv h3=>by have:=Wd.bp (HOK.out.tv _ (hlv hb) v hv) h3;exact ⟨this.1,this.2.1⟩
           ·rw [eg.out,←Wd.dR];have:=(aX (HOK.out.tk _ (hlv hb))).2.2.2;omega
           ·rw [eg.out,←Wd.dR];intro hk;have:=HOK.out.tk _ (hlv hb);rw [hk] at this;simp [aQ] at this
            omega))
          rw [ew] at HST;have hii:(i:Int)<W.T.length:=by omega
          go_wp2_with fail;refine HST.out.mono ?_;rintro e w9 ⟨rfl,hto⟩;obtain ⟨tx',c',o'⟩:=CI.out.settled HH.out hlt hto (HGS.out i hlt);have CN:=Hz c';have ON:=Hz (show ∀ j k,ag (tx' j) k→j<i+1→is.getD j false=true from fun j k hk hj=>by
           have h1:=o' j k hk;by_cases e:j=i
           ·subst e;exact h1.2 rfl
           ·exact OW.out j k h1.1 (by omega))
          clear hto c' o' b0 bl l1 ll;go_wp2_with fail;go_roundw
          case rel=>exact ⟨i+1,tx',hlt,by go_num,CN.out,ON.out⟩
          case measure=>simp [intOf];omega
         ·obtain rfl:i=W.T.length:=by omega
          have CE:=CI.out;rw [p8] at CE;have CE:=Hz CE;have p4:=CE.out.S.hp.cell 4;have p5:=CE.out.S.hp.cell 5;have pl:=CE.out.S.hp.lt;have f4:=CE.out.S.hp.free 4;have f5:=CE.out.S.hp.free 5;simp only [Lz,Ls] at p4 p5;have GE:=Hz (CE.out.done HH.out AFT.out AO.out.1 AO.out.2.1 (AO.out.2.2.1.trans SA.out.symm) (fun i k hk=>by
           have hl:W.live (i:Int):=HH.out.fl i k (CE.out.fo i k hk);rw [AO.out.2.2.2,cG]
           exact OW.out i k hk (by have:=hl.2.1;omega)))
          go_wp2_with fail;go_ret;rw [HE.out];exact ⟨rfl,GE.out⟩
end
end
section
open Go.RowKit
section
variable {w w':World} {h:bT} {W W':Wd}
theorem aG.rr (H:aG w h W) {g o rc:Nat} (hrv:h.rv=.slice (some ⟨g,o,none⟩) W.roots.length rc) {k:Nat} (hk:k<12) {v:Vl} (hv:W.dp v)
  (hs:Sl w' 78 2 (.slice (some ⟨g,o,none⟩) W.roots.length rc) W.roots.length (((aC W.roots).set (k*2) (.int .i64 v.1)).set (k*2+1) (.int .i64 v.2))) (K:aa (·=g) w w'):aI w h w' (W.aP k v):=by
 have ho:ag h.rv g:=by rw [hrv];exact rfl
 obtain ⟨_,c,hc⟩:=H.hr.own ho;have ne:∀ {b:Nat} {c':List Value} {T:TypeId},ah w b c' T→T≠78→¬ b=g:=fun hb hT e=>(hb.ne hc hT) e;have hl:(W.aP k v).roots.length=W.roots.length:=by simp [Wd.aP]
 have hset:(W.aP k v).roots=W.roots.set k v:=by simp [Wd.aP]
 refine ⟨h,⟨K.ai H.hp (ne H.hp (by decide)),H.ht.ae K (fun b hb=>?_) (fun i b hb e=>(H.af i b hb).2.2 (e ▸ ho)),?_,H.hg.ae K (fun b hb=>?_),H.hw.ae K (fun b hb=>?_),H.ap,fun i b hb=>?_,H.fi,H.fl,H.ok.aP hv k⟩,rfl,K.mono (fun b _ e=>e ▸ .inr (.inr (.inl ho))),fun b hb=>.inl hb⟩
 ·obtain ⟨cs,hs',_⟩:=H.ht;obtain ⟨_,c',hc'⟩:=hs'.own hb;exact ne hc' (by decide)
 ·rw [hl,hset,gh,hrv];exact hs
 ·obtain ⟨_,c',hc'⟩:=H.hg.own hb;exact ne hc' (by decide)
 ·obtain ⟨_,c',hc'⟩:=H.hw.own hb;exact ne hc' (by decide)
 ·obtain ⟨h1,⟨c',h2⟩,h3⟩:=H.af i b hb;exact ⟨Nat.lt_of_lt_of_le h1 K.size,⟨c',K.ai h2 (fun e=>h3 (e ▸ ho))⟩,h3⟩
theorem aG.sV (H:aG w h W) {i g:Nat} {fs:List Vl} (hl:W.live (i:Int)) (hlen:fs.length=(W.th (i:Int)).fs.length) (hv:∀ v ∈ fs,W.dp v) (hg:ag (h.fv i) g)
  (hs:Sl w' 78 2 (h.fv i) fs.length (aC fs)) (K:aa (·=g) w w'):aI w h w' (W.cm (i:Int) fs):=by
 obtain ⟨hlt,⟨c,hc⟩,hnr⟩:=H.af i g hg;have ne:∀ {b:Nat} {c':List Value} {T:TypeId},ah w b c' T→T≠78→¬ b=g:=fun hb hT e=>(hb.ne hc hT) e;have hsum:=Wd.me (W:=W) hl hlen;have hT:(W.cm (i:Int) fs).T.length=W.T.length:=by simp [Wd.cm]
 obtain ⟨cs,hcs,hrow⟩:=H.ht;refine ⟨h,⟨?_,⟨cs,?_,fun j hj=>?_⟩,H.hr.ae K (fun b hb e=>hnr (e ▸ hb)),H.hg.ae K (fun b hb=>?_),H.hw.ae K (fun b hb=>?_),H.ap,fun j b hb=>?_,H.fi,fun j b hb=>?_,H.ok.cm hl hlen hv⟩,rfl,K.mono (fun b _ e=>e ▸ .inr (.inr (.inr (.inr (.inr ⟨i,hg⟩))))),fun b hb=>.inl hb⟩
 ·rw [hsum.1,hsum.2];exact K.ai H.hp (ne H.hp (by decide))
 ·rw [hT];exact hcs.ae K (fun b hb=>by obtain ⟨_,c',hc'⟩:=hcs.own hb;exact ne hc' (by decide))
 ·rw [hT] at hj;have hr:=hrow j hj;have e0:(W.cm (i:Int) fs).T.getD j Th.none=(W.cm (i:Int) fs).th (j:Int):=(Wd.dR _ j).symm;have e1:W.T.getD j Th.none=W.th (j:Int):=(Wd.dR _ j).symm;rw [e0,Wd.eF (by omega) hl];rw [e1] at hr;by_cases e:(j:Int)=(i:Int)
  ·obtain rfl:j=i:=by omega
   rw [if_pos rfl];exact ⟨hr.d,hr.k,hr.f,hr.o,fun hd=>hs,hr.c⟩
  ·rw [if_neg e];refine ⟨hr.d,hr.k,hr.f,hr.o,fun hd=>(hr.s hd).ae K (fun b hb e2=>e ?_),hr.c⟩;subst e2;have:=H.fi j i _ hb hg;omega
 ·obtain ⟨_,c',hc'⟩:=H.hg.own hb;exact ne hc' (by decide)
 ·obtain ⟨_,c',hc'⟩:=H.hw.own hb;exact ne hc' (by decide)
 ·obtain ⟨h1,⟨c',h2⟩,h3⟩:=H.af j b hb;by_cases e:b=g
  ·subst e;have e3:=H.fi j i _ hb hg;subst e3;obtain ⟨h4,c4,h5⟩:=hs.own hb;exact ⟨h4,⟨c4,h5⟩,h3⟩
  ·exact ⟨Nat.lt_of_lt_of_le h1 K.size,⟨c',K.ai h2 e⟩,h3⟩
 ·rw [Wd.dK hl];exact H.fl j b hb
end
end
section
open Go.RowKit
section
variable {w w':World} {h:bT} {W:Wd}
theorem aG.sW (H:aG w h W) {r:Nat} {kd:Int} {l:List Vl} {tv fu:Value} {cs:List Value}
  (hp:ah w' h.p [tv,h.rv,h.gv,h.wv, .int .i64 (W.aL+(1+(l.length:Int))), .int .i64 W.bq, .int .i64 W.most, .int .i64 W.grow] 146)
  (hR:∀ i,i<W.T.length→iS w (h.fv i) (W.T.getD i Th.none) cs[i*4]? cs[i*4+1]? cs[i*4+2]? cs[i*4+3]?) (hcl:cs.length=W.T.length*4)
  (hT:Sl w' 188 4 tv (W.T.length+1) (cs ++ [.int .i64 kd,fu, .bool false, .bool false]))
  (hr:Sl w' 78 2 h.rv W.roots.length (((aC W.roots).set (r*2) (.int .i64 3)).set (r*2+1) (.int .i64 W.T.length)))
  (hf:Sl w' 78 2 fu l.length (aC l)) (hfn:∀ b,ag fu b→w.heap.size≤b)
  (K:aa (fun b=>ag h.rv b∨ag h.tv b∨b=h.p) w w') (hto:∀ b,ag tv b→ag h.tv b∨w.heap.size≤b) (hok:(W.put r kd l).ok):aI w h w' (W.put r kd l):=by
 have nF:∀ i b,ag (h.fv i) b→¬ (ag h.rv b∨ag h.tv b∨b=h.p):=fun i b hb e=>by
  obtain ⟨_,⟨c,hc⟩,h3⟩:=H.af i b hb;rcases e with e | e | e
  ·exact h3 e
  ·obtain ⟨cs',hs',_⟩:=H.ht;obtain ⟨_,c',hc'⟩:=hs'.own e;exact hc.ne hc' (by decide) rfl
  ·exact hc.ne H.hp (by decide) e
 have nE:∀ {v:Value} {n:Nat} {xs:List Value},Sl w 170 2 v n xs→∀ b,ag v b→¬ (ag h.rv b∨ag h.tv b∨b=h.p):=fun hs b hb e=>by
  obtain ⟨_,c,hc⟩:=hs.own hb;rcases e with e | e | e
  ·obtain ⟨_,c',hc'⟩:=H.hr.own e;exact hc.ne hc' (by decide) rfl
  ·obtain ⟨cs',hs',_⟩:=H.ht;obtain ⟨_,c',hc'⟩:=hs'.own e;exact hc.ne hc' (by decide) rfl
  ·exact hc.ne H.hp (by decide) e
 have el:(W.put r kd l).T.length=W.T.length+1:=by simp [Wd.put]
 have er:(W.put r kd l).roots=W.roots.set r (3,(W.T.length:Int)):=by simp [Wd.put,eu]
 have erl:(W.put r kd l).roots.length=W.roots.length:=by rw [er];simp
 have aV:∀ i k,ag (h.fv i) k→i≠W.T.length∧k<w.heap.size:=fun i k hk=>⟨fun e=>by have:=(H.fl i k hk).2.1;omega,(H.af i k hk).1⟩;refine ⟨⟨h.p,tv,h.rv,h.gv,h.wv,fun j=>if j=W.T.length then fu else h.fv j⟩,⟨by rw [Wd.jl,Wd.l9];exact hp,⟨_,by rw [el];exact hT,fun i hi=>?_⟩,by rw [erl,er,gh];exact hr,H.hg.ae K (nE H.hg),H.hw.ae K (nE H.hw),H.ap,fun i b hb=>?_,fun i j k h1 h2=>?_,fun i k hk=>?_,hok⟩,rfl,K.mono (fun b _ e=>?_),fun b hb=>?_⟩
 ·show iS w' (if i=W.T.length then fu else h.fv i) _ _ _ _ _
  have e2:(W.put r kd l).T=W.T ++ [⟨kd,l,false,false⟩]:=rfl;rw [el] at hi;rw [e2];by_cases e:i=W.T.length
  ·subst e;rw [if_pos rfl];have g:∀ j,j<4→(cs ++ [.int .i64 kd,fu, .bool false, .bool false])[W.T.length*4+j]? = [Value.int .i64 kd,fu, .bool false, .bool false][j]? := fun j hj=>by
    rw [List.getElem?_append_right (by omega),hcl];congr 1;omega
   have g0:=g 0 (by decide);rw [Nat.add_zero] at g0;rw [g0,g 1 (by decide),g 2 (by decide),g 3 (by decide)];have et:(W.T ++ [(⟨kd,l,false,false⟩:Th)]).getD W.T.length Th.none=⟨kd,l,false,false⟩:=by
    rw [Ld,List.getElem?_append_right (Nat.le_refl _),Nat.sub_self];rfl
   rw [et];exact ⟨rfl,fun _=>rfl,fun _=>rfl,fun _=>rfl,fun _=>hf,kd,fu,false,rfl,rfl,rfl⟩
  ·rw [if_neg e];have hi':i<W.T.length:=by omega
   have et:(W.T ++ [(⟨kd,l,false,false⟩:Th)]).getD i Th.none=W.T.getD i Th.none:=by
    rw [Ld,List.getElem?_append_left hi',Ld]
   rw [et,List.getElem?_append_left (by omega),List.getElem?_append_left (by omega),List.getElem?_append_left (by omega),List.getElem?_append_left (by omega)];have hr':=hR i hi';exact ⟨hr'.d,hr'.k,hr'.f,hr'.o,fun hd=>(hr'.s hd).ae K (nF i),hr'.c⟩
 ·dsimp only at hb;split at hb
  ·obtain ⟨h1,c,h2⟩:=hf.own hb;exact ⟨h1,⟨c,h2⟩,fun e=>by have:=(H.hr.own e).1;have:=hfn b hb;omega⟩
  ·obtain ⟨h1,⟨c,h2⟩,h3⟩:=H.af i b hb;exact ⟨Nat.lt_of_lt_of_le h1 K.size,⟨c,K.ai h2 (nF i b hb)⟩,h3⟩
 ·dsimp only at h1 h2;split at h1
  ·rename_i e1;split at h2
   ·rename_i e2;omega
   ·have:=(aV j k h2).2;have:=hfn k h1;omega
  ·split at h2
   ·have:=(aV i k h1).2;have:=hfn k h2;omega
   ·exact H.fi i j k h1 h2
 ·dsimp only at hk;split at hk
  ·rename_i e;subst e;exact ⟨by omega,by rw [el];omega,by rw [Wd.c6]⟩
  ·exact Wd.gQ (H.fl i k hk)
 ·rcases e with e | e | e
  ·exact .inr (.inr (.inl e))
  ·exact .inr (.inl e)
  ·exact .inl e
 ·rcases hb with hb | hb | hb | hb | hb | ⟨i,hb⟩
  ·exact .inl (.inl hb)
  ·exact (hto b hb).imp (fun h=>.inr (.inl h)) id
  ·exact .inl (.inr (.inr (.inl hb)))
  ·exact .inl (.inr (.inr (.inr (.inl hb))))
  ·exact .inl (.inr (.inr (.inr (.inr (.inl hb)))))
  ·dsimp only at hb;split at hb
   ·exact .inr (hfn b hb)
   ·exact .inl (.inr (.inr (.inr (.inr (.inr ⟨i,hb⟩)))))
theorem ru (n:Int) (H:aG w h W) (hT:W.T.length≤100000) (h0:0≤n) (h1:n≤100) :
  Calls Try.prog 132 #[.pointer (some ⟨h.p,0,none⟩), .int .i64 n] w fun e w'=>e=.returned (.int .i64 (W.room n).1)∧aI w h w' (W.room n).2:=by
 have hok:=H.ok;have g1:=hok.g1;have g2:=hok.g2;have uo:=hok.uo;have uy:=hok.uy;have m1:=hok.m1;have m2:=hok.m2;have y0:0≤W.aL:=eP _ _;have z0:0≤W.bq:=eP _ _;obtain ⟨-,-,-,-,p4,p5,p6,p7⟩:=H.cells;have pl:=H.hp.lt;have HH:=Hz H;have hw1:IntKind.i64.wrap (W.grow-W.bq)=W.grow-W.bq:=IntWalk.i64_in _ (by omega);have hw2:IntKind.i64.wrap (W.most-W.aL)=W.most-W.aL:=IntWalk.i64_in _ (by omega);clear H hok;go_enter Try.func132,Try.ntmps132;go_wp2_with fail;by_cases hn:n≤W.most-W.aL
 ·have HE:=Hz (show W.room n=(0,W) by unfold Wd.room;rw [if_neg (by omega)]);refine aq (.free 0 (.free 1 (.free 2 (.free 3 (.free 5 (.free 6 (.free 7 (.pure 4 (.pure 8 (.free 9 (.free 10 (.fin)))))))))))) [] (fun w'=>w'.cell? ⟨h.p,4,none⟩=some (.int .i64 W.aL)∧w'.cell? ⟨h.p,6,none⟩=some (.int .i64 W.most)) (by kernel_rfl) (by kernel_rfl) ⟨p4,p6⟩ ?_
  iterate 11 ((first | refine ak rfl rfl fun K hK=>?_ | refine aj rfl rfl fun K hK=>?_ | refine aB rfl rfl fun K hK=>?_ | refine aw rfl rfl fun K hK=>?_ | refine aA rfl rfl fun K hK=>?_);go_simp;refine hK _ ?_;clear hK K)
  refine aD ?_;go_wp2_with fail;go_ret;rw [HE.out];exact ⟨rfl,aI.same HH.out (aa.refl _ _).drew⟩
 ·have HE:=Hz (show W.room n=W.cut (decide (W.aL > W.grow-W.bq)) by unfold Wd.room;rw [if_pos (by omega)]);obtain ⟨mj,hmj⟩:∃ b,decide (W.aL > W.grow-W.bq)=b:=⟨_,rfl⟩;rw [hmj] at HE;have hdm:decide (W.grow-W.bq<W.aL)=mj:=by simpa using hmj
  clear hmj;have hn2:W.most-W.aL<n:=by omega
  refine aq (.free 0 (.free 1 (.free 2 (.free 3 (.free 5 (.free 6 (.free 7 (.pure 4 (.pure 8 (.free 9 (.free 10 (.fin)))))))))))) [] (fun w'=>w'.cell? ⟨h.p,4,none⟩=some (.int .i64 W.aL)∧w'.cell? ⟨h.p,6,none⟩=some (.int .i64 W.most)) (by kernel_rfl) (by kernel_rfl) ⟨p4,p6⟩ ?_
  iterate 11 ((first | refine ak rfl rfl fun K hK=>?_ | refine aj rfl rfl fun K hK=>?_ | refine aB rfl rfl fun K hK=>?_ | refine aw rfl rfl fun K hK=>?_ | refine aA rfl rfl fun K hK=>?_);go_simp;refine hK _ ?_;clear hK K)
  refine aD ?_;go_wp2_with fail;refine aq (.free 0 (.free 1 (.free 2 (.free 3 (.free 5 (.free 6 (.free 7 (.free 9 (.free 10 (.free 11 (.pure 4 (.pure 8 (.pure 12 (.free 13 (.free 14 (.run 15 (.swi [] (.free 16 (.fin))))))))))))))))))) [15,16] (fun w'=>w'.cell? ⟨h.p,4,none⟩=some (.int .i64 W.aL)∧w'.cell? ⟨h.p,5,none⟩=some (.int .i64 W.bq)∧w'.cell? ⟨h.p,7,none⟩=some (.int .i64 W.grow)) (by kernel_rfl) (by kernel_rfl) ⟨p4,p5,p7⟩ ?_
  iterate 15 ((first | refine ak rfl rfl fun K hK=>?_ | refine aj rfl rfl fun K hK=>?_ | refine aB rfl rfl fun K hK=>?_ | refine aw rfl rfl fun K hK=>?_ | refine aA rfl rfl fun K hK=>?_);go_simp;refine hK _ ?_;clear hK K)
  refine aK rfl rfl rfl (fun K hK=>?_);unfold aM;go_simp;refine (mH mj (HH.out.same (((Kz w).drew).drew)) hT).mono ?_;rintro e w2 ⟨rfl,hto⟩;have TO:=Hz (aI.aY (((Kz w).drew).drew) hto);clear hto;refine hK _ _ ?_;clear hK K;refine aH (fun _=>True) trivial ?_
  iterate 1 ((first | refine ak rfl rfl fun K hK=>?_ | refine aj rfl rfl fun K hK=>?_);go_simp;refine hK _ ?_;clear hK K)
  refine aD ?_;go_wp2_with fail;go_ret;rw [HE.out];exact ⟨rfl,TO.out⟩
end
end
section
open Go.RowKit
section
variable {w:World} {h:RW} {W:Wd}
end
theorem aT (k:Int):cD k=true↔0≤k∧k<12:=by simp [cD]
end
section
open Go.RowKit
theorem si:madeCells (Value.agg #[Value.int .i64 0,Value.int .i64 0]).cells 24=(aC (List.replicate 12 (0,0))).toArray:=by kernel_rfl
end
end Go.Proofs.Ytjifdalflepcoab
