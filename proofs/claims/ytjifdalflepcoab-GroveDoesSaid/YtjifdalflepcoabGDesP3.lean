/-
  Parts of the proof, merged: what the functions do, and plain laws.
-/
import Derived.Test.YtjifdalflepcoabGDesP2
set_option maxHeartbeats 16000000
set_option maxRecDepth 100000
set_option linter.unusedVariables false
set_option linter.unusedSimpArgs false
namespace Go.Proofs.Ytjifdalflepcoab
section
open Go.RowKit
def rF (w:World) (h:RW) (W:Wd) (major:Bool) (e:Ending) (w':World):Prop:=e=.returned (.int .i64 (W.cut major).1)∧aC w h w' (W.cut major).2
theorem mV {W:Wd} (h:W.aI > W.grow-W.aY):W.cut false=(3,W):=by unfold Wd.cut;rw [if_pos ⟨rfl,h⟩]
theorem qh {W:Wd} {major:Bool} (h:¬ (major=false∧W.aI > W.grow-W.aY)) (h2:eR (W.pass major).1 W.T > W.grow):W.cut major=(3,W):=by unfold Wd.cut;rw [if_neg h,if_pos h2]
theorem rG {W:Wd} {major:Bool} (h:¬ (major=false∧W.aI > W.grow-W.aY)) (h2:¬ eR (W.pass major).1 W.T > W.grow):W.cut major=(0,W.after major):=by unfold Wd.cut;rw [if_neg h,if_neg h2]
section
variable {w:World} {h:RW} {W:Wd}
theorem mz (major:Bool) (H:aK w h W) (hT:W.T.length≤100000) :
  Calls Try.prog 77 #[.pointer (some ⟨h.p,0,none⟩), .bool major] w (rF w h W major):=by
 have HH:=Hz H;have hok:=H.ok;have HOK:=Hz hok;obtain ⟨ib,hi,hz0,hz1,hz2⟩:=info_parts eD;have hmk:=fun wx=>cB (P:=Try.prog) wx 76 4 ib (.bool false) Try.underlying76 hi hz0 rfl hz1 W.regs.length (by rw [hz2];have:=hok.hq;omega) (by have:=hok.hq;omega);have HM:=Hz hmk;clear hi hz0 hz1 hz2 hmk;obtain ⟨ie,hi,hz0,hz1,hz2⟩:=info_parts i4;have Hi:=Hz hi;have Hz0:=Hz hz0;have Hz1:=Hz hz1;have Hz2:=Hz hz2;clear hi hz0 hz1 hz2;obtain ⟨no,nc,hno,-⟩:=H.ht.nth;obtain ⟨go_,gc,hgo,-,-,-⟩:=H.hg.rd;obtain ⟨qo,qc,hqo,-,-,-⟩:=H.hw.rd;obtain ⟨ro,rc,hro,-,-,-⟩:=H.hr.rd;have HNO:=Hz hno;have HGO:=Hz hgo;have HQO:=Hz hqo;have HRO:=Hz hro;have g1:=hok.g1;have g2:=hok.g2;have uo:=hok.uo;have uy:=hok.uy;have m2:=hok.m2;have hq24:=hok.hq;have y0:0≤W.aI:=bV _ _;have z0:0≤W.aY:=bV _ _;clear H hok hno hgo hqo hro;go_enter Try.func77,Try.ntmps77;go_wp2_with fail;refine (kI HH.out (by omega)).mono ?_;rintro e w1 ⟨rfl,hk⟩;have H1:=Hz (HH.out.same hk);have K1:=Hz hk;clear hk;obtain ⟨-,-,c2,c3,-,c5⟩:=H1.out.cells;rw [HGO.out] at c2;rw [HQO.out] at c3;have pl:=H1.out.hp.lt;have hwr:IntKind.i64.wrap (W.grow-W.aY)=W.grow-W.aY:=IntWalk.i64_in _ (by omega);have HWR:=Hz hwr;by_cases hfull:major=false∧W.aI > W.grow-W.aY
 ·obtain ⟨rfl,hf⟩:=hfull;have HE:=Hz (mV hf);have hd:decide (W.grow-W.aY<W.aI)=true:=by simpa using hf
  clear hf;go_wp2_with fail;go_ret;exact ⟨by rw [HE.out];rfl,by rw [HE.out];exact aC.same HH.out K1.out⟩
 ·have HF:=Hz hfull;have hd:major=true∨decide (W.grow-W.aY<W.aI)=false:=by
   cases major
   ·right;simp;simp at hfull;omega
   ·left;rfl
  have hrest:Calls Try.prog 126 #[.pointer (some ⟨h.p,0,none⟩), .bool major] w1 (jW w1 (W.first major)):=rD major H1.out hT;have HFI:=Hz hrest;clear hrest hfull hwr;go_upto_region 2 with (fail)
  refine cY (fun i=>Nat.blt 27 i && Nat.blt i 40) (fun s wx=>s 39=.bool false∧wx=w1) ?_ ?_
  ·intro K hK;rcases hd with rfl | hd
   ·go_wp2_with fail;refine ⟨by kernel_rfl,?_⟩;exact ⟨rfl,rfl⟩
   ·cases major
    ·go_wp2_with fail;refine ⟨by kernel_rfl,?_⟩;exact ⟨rfl,rfl⟩
    ·go_wp2_with fail;refine ⟨by kernel_rfl,?_⟩;exact ⟨rfl,rfl⟩
  ·intro u wx hR;obtain ⟨e39,rfl⟩:=hR;have e39:u 39=.bool false:=e39;simp (maxSteps:=2000000) only [da,overL,List.toList_toArray,Nat.blt,Nat.beq,Nat.ble,Nat.reduceAdd,Bool.or_false,Bool.false_or,Bool.or_true,Bool.true_or,Bool.and_true,Bool.true_and,Bool.and_false,Bool.false_and,cond_true,cond_false];rw [e39];clear e39 hd c5;go_wp2_with fail;refine HFI.out.mono ?_;rintro e w2 ⟨fo,fcap,rfl,hfs,hk,hfo⟩;have H2:=Hz (H1.out.same hk);have K2:=Hz (K1.out.trans hk);have hgr:=nn (w:=w2) (p:=h.p) (q:=W.wait) (is:=W.first major) fo fcap H2.out.gr HOK.out (fun e he=>HOK.out.wv e he) (by
    obtain ⟨_,_,e',r,-,-⟩:=hfs.rd
    cases e';exact r) (W.de major) hT (fun i hi=>Wd.ki HOK.out hi) (by omega)
   have HGR:=Hz hgr;clear hk hfs hfo HFI c2 c3 pl hgr H1;go_wp2_with fail;refine HGR.out.mono ?_;rintro e w3 ⟨io,icap,rfl,his,hk,hio⟩;have H3:=Hz (H2.out.same hk);have K3:=Hz (K2.out.trans hk);have HIS:=Hz his;have HIO:=Hz (fun k hk'=>Nat.le_trans K2.out.size (hio k hk'));clear hk his hio HGR H2;have PA:=Hz (eV.start HOK.out major);generalize W.bQ W.wait (W.first major)=is0 at *;obtain ⟨-,-,c2,c3,-,c5⟩:=H3.out.cells;rw [HGO.out] at c2;rw [HQO.out] at c3;have pl:=H3.out.hp.lt;have M1:=Hz (HM.out w3);have m1:=M1.out;have m2':=HM.out (w3.alloc (.cells (Array.replicate W.regs.length (.bool false)) 4));go_wp2_with fail;generalize hwb:(w3.alloc (.cells (Array.replicate W.regs.length (.bool false)) 4)).alloc (.cells (Array.replicate W.regs.length (.bool false)) 4)=wb;have KB:=Hz (show aa (fun _=>False) w3 wb by rw [←hwb];exact ((aa.refl _ _).alloc _).alloc _);have B8:=Hz (show ah wb w3.heap.size ((ey is0 W.regs 0).map Value.bool) 4 by rw [←hwb,nZ];exact (ah.newAt _ rfl (by simp)).alloc _);have B9:=Hz (show ah wb (w3.heap.size+1) (List.replicate W.regs.length (.bool false)) 4 by rw [←hwb];exact ah.newAt _ (by simp) (by simp));clear hwb m1 m2' M1;have H4:=Hz (H3.out.same KB.out);have K4:=Hz (K3.out.trans KB.out);have I4:=Hz (HIS.out.ae KB.out (fun _ _ h=>h));have IL:=Hz (fun k hk=>(HIS.out.own (k:=k) hk).1);clear c2 c3 c5 pl H3 HIS KB;have HG8:=Hz (show w.heap.size≤w3.heap.size from K3.out.size);generalize w3.heap.size=g8 at *;have HL0:=Hz PA.out.ok.len;go_loopw [10] (fun u wr=>∃ k:Nat,k≤W.regs.length∧u=.int .i64 k∧aa (·=g8) wb wr∧ah wr g8 ((ey is0 W.regs k).map Value.bool) 4) (fun u _=>W.regs.length-(intOf u).toNat)
   case atStart=>exact ⟨0,Nat.zero_le _,rfl,aa.refl _ _,B8.out⟩
   case round=>
    obtain ⟨k,hk,rfl,hKr,hB⟩:=hrel;have KR:=Hz hKr;have BR:=Hz hB;have hne8:∀ b,h.Own b→b≠g8:=fun b hb e=>by
     obtain ⟨_,c,T,hc,hT⟩:=H4.out.aX hb;subst e;refine hc.ne B8.out ?_ rfl;rcases hT with rfl | rfl | rfl | rfl <;> decide
    have HR:=Hz (H4.out.ae hKr hne8);obtain ⟨-,-,c2,c3,-,c5⟩:=HR.out.cells;rw [HGO.out] at c2;rw [HQO.out] at c3;have pl:=HR.out.hp.lt;have hni:∀ b,ag (.slice io is0.length icap) b→b≠g8:=fun b hb e=>by have:=IL.out b hb;omega
    have IR:=Hz (I4.out.ae hKr hni);clear hKr hB hne8 hni;by_cases hlt:k<W.regs.length
    ·obtain ⟨_,_,e',rd,-,-⟩:=HR.out.hg.rd;rw [HGO.out] at e';cases e';obtain ⟨gg,og,rfl,hgl,v0,v1⟩:=rd.dM k hlt;have hokE:=HOK.out.gv (W.regs.getD k (0,0)) (by rw [Ld,Le hlt];exact List.getElem_mem _);have HST:=Hz (n3 is0 W.regs hlt);have hlv:=hokE.2.2;generalize W.regs.getD k (0,0)=e at *;obtain ⟨e1,e2⟩:=e;dsimp only at v0 v1 hlv;have h0:=hlv.1;have h1:=hlv.2.1;obtain ⟨m,rfl⟩:∃ m:Nat,e2=m:=⟨e2.toNat,by omega⟩;obtain ⟨_,_,e',rdi,-,-⟩:=IR.out.rd;cases e';have hm:m<is0.length:=by have:=HL0.out;omega
     obtain ⟨gi,oi,rfl,hgi,d0⟩:=rdi.eh m hm;have HAT:=Hz (show az is0 (m:Int)=is0.getD m false from bS is0 m);generalize is0.getD m false=z at *;have x0:=BR.out.cell k;have xl:=BR.out.lt;have xf:=BR.out.free k;rw [List.getElem?_map,Le (by rw [i3];exact hlt)] at x0;simp only [Option.map_some] at x0;generalize (ey is0 W.regs k)[k]'(by rw [i3];exact hlt)=b0 at x0;clear rd rdi hokE hlv;go_wp2_with fail;go_roundw
     case rel=>
      refine ⟨k+1,hlt,by go_num,KR.out.setCell (p:=⟨g8,k,none⟩) (.inl rfl) _,?_⟩;rw [←HST.out,List.map_set];have:=BR.out.aF k (.bool (!z));rw [HAT.out];exact this
     case measure=>simp [intOf];omega
    ·obtain rfl:k=W.regs.length:=by omega
     have KW:=Hz (show aa (fun _=>False) w wr from K4.out.then KR.out (fun k hk=>.inr (by have:=HG8.out;omega)));obtain ⟨c0,c1,-,-,c4,-⟩:=HR.out.cells;rw [HNO.out] at c0;rw [HRO.out] at c1;rw [pj] at BR;have B9R:=Hz (KR.out.ai B9.out (by omega));have HCL:=Hz (show Rd wr qo (au W.wait) by
      obtain ⟨_,_,e',r,-,-⟩:=HR.out.hw.rd;rw [HQO.out] at e'
      cases e';exact r)
     go_wp2_with (first | (refine aT rfl 150 (.tmp 82) rfl [.slice no W.T.length nc, .slice ro W.roots.length rc, .slice go_ W.regs.length gc, .slice qo W.wait.length qc, .int .i64 W.most, .int .i64 W.grow] (by kernel_rfl) h.p 0 rfl (ab c0 (ab c1 (ab c2 (ab c3 (ab c4 (ab c5 aO)))))) ?_) | (at_builtin;refine jv rfl (.tmp 84) (.tmp 88) 148 rfl 159 ie (.agg #[.int .i64 0, .int .i64 0]) 2 16 Try.underlying148 Hi.out Hz0.out Hz1.out Hz2.out rfl (by decide) _ 0 [] rfl ?ha qo W.wait.length qc (au W.wait) rfl ?hb ?hc ?hd ?he ?hf ?hg))
     case ha=>exact ⟨by simp, .inr ⟨wr.heap.size+1,0,0,[],rfl,ah.newAt _ (by simp) rfl,Nat.le_refl _,Nat.zero_le _,by simp,by simp⟩⟩
     case hb=>exact a7 _
     case hc=>exact HCL.out.ae (((Kz wr).alloc _).alloc _) (fun _ _ _ h=>h)
     case hd=>intro u hu;simp [au] at hu;rcases hu with ⟨_,_,_,rfl | rfl⟩ <;> rfl
     case he=>unfold maxLen;omega
     case hf=>omega
     case hg=>
      intro v2 w5 hs2 hk2 ho2;obtain ⟨vo,vc,hv2,-,-,-⟩:=hs2.rd;have hka:aa (fun _=>False) wr ((wr.alloc (.cells #[.slice no W.T.length nc, .slice ro W.roots.length rc, .slice go_ W.regs.length gc, .slice qo W.wait.length qc, .int .i64 W.most, .int .i64 W.grow] 150)).alloc (.cells #[] 159)):=((aa.refl _ _).alloc _).alloc _;have hX:ah ((wr.alloc (.cells #[.slice no W.T.length nc, .slice ro W.roots.length rc, .slice go_ W.regs.length gc, .slice qo W.wait.length qc, .int .i64 W.most, .int .i64 W.grow] 150)).alloc (.cells #[] 159)) wr.heap.size [.slice no W.T.length nc, .slice ro W.roots.length rc, .slice go_ W.regs.length gc, .slice qo W.wait.length qc, .int .i64 W.most, .int .i64 W.grow] 150:=(ah.newAt _ rfl rfl).alloc _;have hX2:=hk2.ai hX (by simp [ag,Value.ownBlock]);have hK5:aa (fun _=>False) wr w5:=hka.then hk2 (fun k hk=>.inr (by simp [ag,Value.ownBlock] at hk;omega));have ho5:∀ k,ag v2 k→wr.heap.size≤k:=fun k hk=>by
       rcases ho2 k hk with h | h
       ·simp [ag,Value.ownBlock] at h;omega
       ·omega
      try rw [Nat.zero_add] at hs2 hv2
      try rw [List.nil_append] at hs2
      subst hv2;have hset:=(aa.refl (·=wr.heap.size) w5).setCell (p:=⟨wr.heap.size,3,none⟩) (.inl rfl) (.slice vo W.wait.length vc);have hnx:∀ {b:Nat} {c:List Value} {T:TypeId},ah w5 b c T→T≠150→¬ b=wr.heap.size:=fun hb hT=>hb.ne hX2 hT;have CP:=Hz (show eH w (w5.setCell ⟨wr.heap.size,3,none⟩ (.slice vo W.wait.length vc)) h W (.slice io is0.length icap) is0 g8 (g8+1) (bC az is0 W.regs) wr.heap.size (.slice vo W.wait.length vc) W.wait by
       have e8:(bC az is0 W.regs).map (fun i=>Value.bool i.2.1)=((bC az is0 W.regs).map fun i=>i.2.1).map Value.bool:=by simp
       have e9:(bC az is0 W.regs).map (fun i=>Value.bool i.2.2)=List.replicate W.regs.length (.bool false):=by
        rw [List.eq_replicate_iff];refine ⟨by simp [bC],fun b hb=>?_⟩;simp [bC] at hb;exact hb.2.symm
       have I5:=IR.out.ae hK5 (fun _ _ h=>h);refine ⟨(KW.out.trans hK5).then hset (fun k hk=>.inr (by rw [hk];exact KW.out.size)),I5.ae hset (fun b hb=>by obtain ⟨_,c,hc⟩:=I5.own hb;exact hnx hc (by decide)),?_,?_,?_,hs2.ae hset (fun b hb=>by obtain ⟨_,c,hc⟩:=hs2.own hb;exact hnx hc (by decide)),fun hb=>by have:=IL.out g8 hb;omega,fun hb=>by have:=IL.out _ hb;omega,by omega,fun k hk=>HIO.out k hk,HG8.out,by have:=HG8.out;omega,KW.out.size,fun k hk=>Nat.le_trans KW.out.size (ho5 k hk)⟩
       ·rw [e8];have b:=hK5.ai BR.out (fun h=>h);exact hset.ai b (hnx b (by decide))
       ·rw [e9];have b:=hK5.ai B9R.out (fun h=>h);exact hset.ai b (hnx b (by decide))
       ·rw [HNO.out,HRO.out,HGO.out]
        simpa using hX2.aF 3 (.slice vo W.wait.length vc))
      have x3:=hX2.cell 3;have xl:=hX2.lt;have xf:=hX2.free 3;simp only [Lz,Ls] at x3;clear hs2 hk2 ho2 hka hX hX2 hK5 ho5 hset hnx c0 c1 c2 c3 c4 c5 pl HR IR BR B9R HCL I4 IL KR KW B8 B9 K4 H4;go_wp2_with fail;generalize wr.heap.size=x1 at *;generalize w5.setCell ⟨x1,3,none⟩ (.slice vo W.wait.length vc)=w6 at *;clear x3 xl xf
      go_loopg [7,12] (bM (bC az is0 W.regs)+1) (fun n a m wr=>∃ (x:Bool) (io:Option Addr) (icap:Nat) (is:List Bool) (items:List It) (vo:Option Addr) (vc:Nat) (q:List (Int × Int)),a=.slice io is.length icap∧m=.bool x∧eH w wr h W (.slice io is.length icap) is g8 (g8+1) items x1 (.slice vo q.length vc) q∧eV W major x is q items∧bM items+(if x then 1 else 0)≤n)
      case atStart=>exact ⟨true,io,icap,is0,_,vo,vc,W.wait,rfl,rfl,CP.out,PA.out,Nat.le_refl _⟩
      case round=>
       clear CP PA;obtain ⟨x,io,icap,isP,itemsP,vo,vc,qP,rfl,rfl,hC,hP,hn⟩:=hrel;have CP:=Hz hC;have PA:=Hz hP;have HN:=Hz hn;clear hC hP hn;cases x
       ·--<rest
        obtain ⟨w7,rfl⟩:∃ x:World,x=wr:=⟨wr,rfl⟩;have PD:=Hz PA.out.done;have HLI:=Hz PA.out.ok.sv;have HLQ:=Hz (show qP.length≤24 by have:=PA.out.ok.cnt;omega);have hlp:=PA.out.ok.len;have HLP:=Hz hlp;have H7:=Hz (HH.out.same CP.out.K);obtain ⟨c0,-,-,-,-,-⟩:=H7.out.cells;rw [HNO.out] at c0;have pl:=H7.out.hp.lt;clear hlp;go_wp2_with fail;go_loopw [15,16] (fun s u wr=>∃ k:Nat,k≤W.T.length∧u=.int .i64 k∧s=.int .i64 (dG isP W.T k)∧aa (fun _=>False) w7 wr) (fun _ u _=>W.T.length-(intOf u).toNat)
        case atStart=>exact ⟨0,Nat.zero_le _,rfl,by rw [iZ],aa.refl _ _⟩
        case round=>
         clear c0 pl;obtain ⟨k,hk,rfl,rfl,hK⟩:=hrel;have KR:=Hz hK;have CR:=Hz (CP.out.same hK);have HR:=Hz (H7.out.same hK);obtain ⟨c0,-,-,-,-,c5⟩:=HR.out.cells;rw [HNO.out] at c0;have pl:=HR.out.hp.lt;clear hK;by_cases hlt:k<W.T.length
         ·obtain ⟨_,_,e',N⟩:=HR.out.ht.nth;rw [HNO.out] at e';cases e';obtain ⟨g,o,fo,fc,rfl,-,hgl,t0,t1,t2,t3,-,-,hml⟩:=N k hlt;have hst:=iY (is:=isP) hlt;have hb1:=g6 HOK.out PA.out.ok.live k (by omega);have hb2:=g6 HOK.out PA.out.ok.live (k+1) (by omega);generalize W.T.getD k Th.none=t at *;obtain ⟨tk,tf,tol,tde⟩:=t;dsimp only [Th.words] at t0 t1 t2 t3 hml hst;obtain ⟨_,_,e',rdi,-,-⟩:=CR.out.I.rd;cases e';obtain ⟨gi,oi,rfl,hgi,d0⟩:=rdi.eh k (by rw [HLP.out];exact hlt);have hki:k<isP.length:=by rw [HLP.out];exact hlt
          generalize isP.getD k false=z at *;obtain ⟨a,ha⟩:∃ a,dG isP W.T k=a:=⟨_,rfl⟩;obtain ⟨a2,ha2⟩:∃ a,dG isP W.T (k+1)=a:=⟨_,rfl⟩;rw [ha,ha2] at hst;rw [ha] at hb1;rw [ha2] at hb2;rw [ha];have HA2:=Hz ha2;clear N rdi ha ha2;cases z
          ·simp only [Bool.false_eq_true,if_false,Int.add_zero] at hst;subst hst;go_wp2_with fail;go_roundw
           case rel=>exact ⟨k+1,hlt,by go_num,by rw [HA2.out],KR.out⟩
           case measure=>simp [intOf];omega
          ·simp only [if_true] at hst;have hw1:IntKind.i64.wrap (1+(tf.length:Int))=1+tf.length:=IntWalk.i64_in _ (by omega);have hw2:IntKind.i64.wrap (a+(1+(tf.length:Int)))=a+(1+tf.length):=IntWalk.i64_in _ (by omega);have HST:=Hz hst;clear hst;go_wp2_with fail;go_roundw
           case rel=>exact ⟨k+1,hlt,by go_num,by rw [HA2.out,HST.out],KR.out⟩
           case measure=>simp [intOf];omega
         ·obtain rfl:k=W.T.length:=by omega
          rw [jU];have hb:=g6 HOK.out PA.out.ok.live W.T.length (Nat.le_refl _);rw [jU] at hb;have HFU:=Hz (fun h2=>qh (W:=W) (major:=major) HF.out h2);have HYE:=Hz (fun h2=>rG (W:=W) (major:=major) HF.out h2);have HAF:=Hz (fun h2=>Wd.ok.after (W:=W) HOK.out (major:=major) h2);rw [PD.out] at HFU HYE HAF;dsimp only at HFU HYE HAF;generalize eR isP W.T=a at *;by_cases hgr:a > W.grow
          ·have HE:=Hz (HFU.out hgr);have hd:decide (W.grow<a)=true:=by simpa using hgr
           clear hgr;go_wp2_with fail;go_ret;exact ⟨by rw [HE.out];rfl,by rw [HE.out];exact aC.same HH.out CR.out.K⟩
          ·have HE:=Hz (HYE.out hgr);have HAO:=Hz (HAF.out (by omega));have hd:decide (W.grow<a)=false:=by simpa using hgr
           clear hgr HFU HYE HAF;obtain ⟨w8,rfl⟩:∃ x:World,x=wr:=⟨wr,rfl⟩;go_wp2_with fail;generalize hnr:bz az cH isP=NR at *;have HNR:=Hz hnr;clear hnr;go_loopw [17,19] (fun s u wr=>∃ (k:Nat) (vo2:Option Addr) (vc2:Nat),k≤W.regs.length∧u=.int .i64 k∧s=.slice vo2 (NR (itemsP.take k)).length vc2∧aa (fun _=>False) w8 wr∧Sl wr 159 2 (.slice vo2 (NR (itemsP.take k)).length vc2) (NR (itemsP.take k)).length (au (NR (itemsP.take k)))∧∀ b,ag (.slice vo2 (NR (itemsP.take k)).length vc2) b→w8.heap.size≤b) (fun _ u _=>W.regs.length-(intOf u).toNat)
           case atStart=>
            have e0:NR (itemsP.take 0)=[]:=by rw [←HNR.out];rfl
            exact ⟨0,none,0,Nat.zero_le _,rfl,by rw [e0];rfl,aa.refl _ _,by rw [e0];exact Sl.nil _ _ _,fun b hb=>by rw [e0] at hb;exact (bJ hb).elim⟩
           case round=>
            clear c0 c5 pl;obtain ⟨k,vo2,vc2,hk,rfl,rfl,hK,hS,hO⟩:=hrel;have KQ:=Hz hK;have SQ:=Hz hS;have OQ:=Hz hO;have CQ:=Hz (CR.out.same hK);have HQR:=Hz (HR.out.same hK);obtain ⟨-,-,c2,-,-,-⟩:=HQR.out.cells;rw [HGO.out] at c2;have pl:=HQR.out.hp.lt;clear hK hS hO;by_cases hlt:k<W.regs.length
            ·obtain ⟨_,_,e',rd,-,-⟩:=HQR.out.hg.rd;rw [HGO.out] at e';cases e';obtain ⟨gg,og,rfl,hgl,v0,v1⟩:=rd.dM k hlt;have hokE:=HOK.out.gv (W.regs.getD k (0,0)) (by rw [Ld,Le hlt];exact List.getElem_mem _);have hka:k<itemsP.length:=by rw [HLI.out];exact hlt
             have hal:(itemsP[k]'hka).1=W.regs.getD k (0,0):=by
              have h1:(itemsP.map (·.1))[k]? = W.regs[k]? := by rw [PA.out.ok.rg]
              rw [List.getElem?_map,Le hka,Le hlt] at h1;rw [Ld,Le hlt];simpa using h1
             have D8:=CQ.out.D.cell k;have dl:=CQ.out.D.lt;rw [List.getElem?_map,Le hka] at D8;simp only [Option.map_some] at D8;have htk:=mn (is:=isP) hka;rw [HNR.out] at htk;have hll:(NR (itemsP.take k)).length≤24:=by
              have h1:=mO isP (itemsP.take k);rw [HNR.out] at h1;simp at h1;omega
             generalize W.regs.getD k (0,0)=e at *;obtain ⟨e1,e2⟩:=e;obtain ⟨⟨a1,d,b⟩,hit⟩:∃ t,itemsP[k]'hka=t:=⟨_,rfl⟩;rw [hit] at D8 hal htk;dsimp only at hal D8 htk;subst hal;dsimp only at v0 v1 htk;have h0:=hokE.1.1;have h1:=hokE.1.2.1;dsimp only at h0 h1;obtain ⟨m1,rfl⟩:∃ m:Nat,e1=m:=⟨e1.toNat,by omega⟩;have hm1:m1<isP.length:=by rw [HLP.out];omega
             obtain ⟨_,_,e',rdi,-,-⟩:=CQ.out.I.rd;cases e';obtain ⟨gi,oi,rfl,hgi,d0⟩:=rdi.eh m1 hm1;have hat:=bS isP m1;rw [hat] at htk;have HTK:=Hz htk;generalize isP.getD m1 false=z at *;clear rd rdi hokE hit htk hat
             cases d
             ·cases z
              ·go_wp2_with fail;go_roundw
               case rel=>exact ⟨k+1,vo2,vc2,hlt,by go_num,by rw [HTK.out];simp,KQ.out,by rw [HTK.out];simpa using SQ.out,by rw [HTK.out];simpa using OQ.out⟩
               case measure=>simp [intOf];omega
              ·obtain ⟨lr,hlr⟩:∃ l,NR (itemsP.take k)=l:=⟨_,rfl⟩;rw [hlr] at SQ OQ HTK hll;rw [hlr];have HT2:=Hz (show NR (itemsP.take (k+1))=lr ++ [((m1:Int),e2)] from HTK.out);clear hlr HTK;go_wp2_with (first | (refine aQ rfl 159 (.tmp 205) rfl (by kernel_rfl) gg (og+k*2) rfl _ _ v0 v1 ?_) | (at_builtin;refine bD rfl (.tmp 199) (.tmp 207) 148 rfl 159 ie (.agg #[.int .i64 0, .int .i64 0]) 2 16 Try.underlying148 Hi.out Hz0.out Hz1.out Hz2.out rfl (by decide) _ lr.length (au lr) rfl ?ha ⟨wr.heap.size,0,none⟩ 1 1 [.int .i64 (m1:Int), .int .i64 e2] rfl rfl ?hb ?hc ?hd ?he ?hf))
               case ha=>exact SQ.out.ae ((Kz wr).alloc _) (fun _ _ h=>h)
               case hb=>exact bq wr 159 _
               case hc=>intro u hu;simp at hu;rcases hu with rfl | rfl <;> rfl
               case hd=>unfold maxLen;omega
               case he=>omega
               case hf=>
                intro v2 w2 hs2 hk2 ho2;obtain ⟨ao2,ac2,rfl,-,-,-⟩:=hs2.rd;have ka:=(Kz wr).alloc (.cells #[.int .i64 (m1:Int), .int .i64 e2] 159);have KN:=Hz (show aa (fun _=>False) w8 w2 from (KQ.out.trans ka).then hk2 (fun j hj=>.inr (OQ.out j hj)));have ON:=Hz (show ∀ b,ag (.slice ao2 (lr.length+1) ac2) b→w8.heap.size≤b from fun b hb=>by
                 rcases ho2 b hb with h1 | h1
                 ·exact OQ.out b h1
                 ·have:=KQ.out.size;first | omega | (simp at h1;omega))
                have e1:(lr ++ [((m1:Int),e2)]).length=lr.length+1:=by simp
                have e2':au (lr ++ [((m1:Int),e2)])=au lr ++ [.int .i64 (m1:Int), .int .i64 e2]:=by simp [au]
                have SN:=Hz (show Sl w2 159 2 (.slice ao2 (lr ++ [((m1:Int),e2)]).length ac2) (lr ++ [((m1:Int),e2)]).length (au (lr ++ [((m1:Int),e2)])) by rw [e1,e2'];exact hs2);have E1:=Hz e1;clear hs2 hk2 ho2 ka e1 e2';go_wp2_with fail;go_roundw
                case rel=>exact ⟨k+1,ao2,ac2,hlt,by go_num,by rw [HT2.out,E1.out],KN.out,by rw [HT2.out];exact SN.out,by rw [HT2.out,E1.out];exact ON.out⟩
                case measure=>simp [intOf];omega
             ·go_wp2_with fail;go_roundw
              case rel=>exact ⟨k+1,vo2,vc2,hlt,by go_num,by rw [HTK.out];simp,KQ.out,by rw [HTK.out];simpa using SQ.out,by rw [HTK.out];simpa using OQ.out⟩
              case measure=>simp [intOf];omega
            ·obtain rfl:k=W.regs.length:=by omega
             have htl:NR (itemsP.take W.regs.length)=bz az cH isP itemsP:=by rw [←HNR.out,List.take_of_length_le (by rw [HLI.out];exact Nat.le_refl _)]
             obtain ⟨lr,hlr⟩:∃ l,bz az cH isP itemsP=l:=⟨_,rfl⟩;rw [htl,hlr] at SQ OQ;rw [htl,hlr];have HLR:=Hz hlr;clear htl hlr;obtain ⟨w9,rfl⟩:∃ x:World,x=wr:=⟨wr,rfl⟩;go_wp2_with fail;generalize hnw:bA az cH isP=NW at *;have HNW:=Hz hnw;clear hnw;have CW9:=Hz (CR.out.same KQ.out);have HW9:=Hz (HR.out.same KQ.out);go_loopw [18,20] (fun s u wr=>∃ (k:Nat) (vo3:Option Addr) (vc3:Nat),k≤qP.length∧u=.int .i64 k∧s=.slice vo3 (NW (qP.take k)).length vc3∧aa (fun _=>False) w9 wr∧Sl wr 159 2 (.slice vo3 (NW (qP.take k)).length vc3) (NW (qP.take k)).length (au (NW (qP.take k)))∧∀ b,ag (.slice vo3 (NW (qP.take k)).length vc3) b→w9.heap.size≤b) (fun _ u _=>qP.length-(intOf u).toNat)
             case atStart=>
              have e0:NW (qP.take 0)=[]:=by rw [←HNW.out];rfl
              exact ⟨0,none,0,Nat.zero_le _,rfl,by rw [e0];rfl,aa.refl _ _,by rw [e0];exact Sl.nil _ _ _,fun b hb=>by rw [e0] at hb;exact (bJ hb).elim⟩
             case round=>
              clear c2 pl;obtain ⟨k,vo3,vc3,hk,rfl,rfl,hK,hS,hO⟩:=hrel;have KW:=Hz hK;have SW:=Hz hS;have OW:=Hz hO;have CQ:=Hz (CW9.out.same hK);have x3:=CQ.out.X.cell 3;have xl:=CQ.out.X.lt;simp only [Lz,Ls] at x3;have hq24':=HLQ.out;clear hK hS hO;by_cases hlt:k<qP.length
              ·obtain ⟨_,_,e',rd,-,-⟩:=CQ.out.Q.rd;cases e';obtain ⟨gg,og,rfl,hgl,v0,v1⟩:=rd.dM k hlt;have hokE:=PA.out.ok.wv (qP.getD k (0,0)) (by rw [Ld,Le hlt];exact List.getElem_mem _);have htk:=mq (is:=isP) hlt;have hge:qP[k]'hlt=qP.getD k (0,0):=by rw [Ld,Le hlt];rfl
               rw [HNW.out,hge] at htk;have hll:(NW (qP.take k)).length≤24:=by
                have h1:=mP isP (qP.take k);rw [HNW.out] at h1;simp at h1;omega
               generalize qP.getD k (0,0)=e at *;obtain ⟨e1,e2⟩:=e;dsimp only at v0 v1 htk;have h0:=hokE.1.1;have h1:=hokE.1.2.1;dsimp only at h0 h1;obtain ⟨m1,rfl⟩:∃ m:Nat,e1=m:=⟨e1.toNat,by omega⟩;have hm1:m1<isP.length:=by rw [HLP.out];omega
               obtain ⟨_,_,e',rdi,-,-⟩:=CQ.out.I.rd;cases e';obtain ⟨gi,oi,rfl,hgi,d0⟩:=rdi.eh m1 hm1;have hat:=bS isP m1;rw [hat] at htk;have HTK:=Hz htk;generalize isP.getD m1 false=z at *;clear rd rdi hokE htk hat hge;cases z
               ·go_wp2_with fail;go_roundw
                case rel=>exact ⟨k+1,vo3,vc3,hlt,by go_num,by rw [HTK.out];simp,KW.out,by rw [HTK.out];simpa using SW.out,by rw [HTK.out];simpa using OW.out⟩
                case measure=>simp [intOf];omega
               ·obtain ⟨lw,hlw⟩:∃ l,NW (qP.take k)=l:=⟨_,rfl⟩;rw [hlw] at SW OW HTK hll;rw [hlw];have HT2:=Hz (show NW (qP.take (k+1))=lw ++ [((m1:Int),e2)] from HTK.out);clear hlw HTK;go_wp2_with (first | (refine aQ rfl 159 (.tmp 229) rfl (by kernel_rfl) gg (og+k*2) rfl _ _ v0 v1 ?_) | (at_builtin;refine bD rfl (.tmp 225) (.tmp 231) 148 rfl 159 ie (.agg #[.int .i64 0, .int .i64 0]) 2 16 Try.underlying148 Hi.out Hz0.out Hz1.out Hz2.out rfl (by decide) _ lw.length (au lw) rfl ?ha ⟨wr.heap.size,0,none⟩ 1 1 [.int .i64 (m1:Int), .int .i64 e2] rfl rfl ?hb ?hc ?hd ?he ?hf))
                case ha=>exact SW.out.ae ((Kz wr).alloc _) (fun _ _ h=>h)
                case hb=>exact bq wr 159 _
                case hc=>intro u hu;simp at hu;rcases hu with rfl | rfl <;> rfl
                case hd=>unfold maxLen;omega
                case he=>omega
                case hf=>
                 intro v2 w2 hs2 hk2 ho2;obtain ⟨ao2,ac2,rfl,-,-,-⟩:=hs2.rd;have ka:=(Kz wr).alloc (.cells #[.int .i64 (m1:Int), .int .i64 e2] 159);have KN:=Hz (show aa (fun _=>False) w9 w2 from (KW.out.trans ka).then hk2 (fun j hj=>.inr (OW.out j hj)));have ON:=Hz (show ∀ b,ag (.slice ao2 (lw.length+1) ac2) b→w9.heap.size≤b from fun b hb=>by
                  rcases ho2 b hb with h1 | h1
                  ·exact OW.out b h1
                  ·have:=KW.out.size;first | omega | (simp at h1;omega))
                 have e1:(lw ++ [((m1:Int),e2)]).length=lw.length+1:=by simp
                 have e2':au (lw ++ [((m1:Int),e2)])=au lw ++ [.int .i64 (m1:Int), .int .i64 e2]:=by simp [au]
                 have SN:=Hz (show Sl w2 159 2 (.slice ao2 (lw ++ [((m1:Int),e2)]).length ac2) (lw ++ [((m1:Int),e2)]).length (au (lw ++ [((m1:Int),e2)])) by rw [e1,e2'];exact hs2);have E1:=Hz e1;clear hs2 hk2 ho2 ka e1 e2';go_wp2_with fail;go_roundw
                 case rel=>exact ⟨k+1,ao2,ac2,hlt,by go_num,by rw [HT2.out,E1.out],KN.out,by rw [HT2.out];exact SN.out,by rw [HT2.out,E1.out];exact ON.out⟩
                 case measure=>simp [intOf];omega
              ·obtain rfl:k=qP.length:=by omega
               have htl:NW (qP.take qP.length)=bA az cH isP qP:=by rw [←HNW.out,List.take_length]
               obtain ⟨lw,hlw⟩:∃ l,bA az cH isP qP=l:=⟨_,rfl⟩;rw [htl,hlw] at SW OW;rw [htl,hlw];have HLW:=Hz hlw;clear htl hlw;have HRR:=Hz (HW9.out.same KW.out);have SQ2:=Hz (SQ.out.ae KW.out (fun _ _ h=>h));have SQL:=Hz (fun b hb=>(SQ.out.own (k:=b) hb).1);obtain ⟨-,-,c2,c3,-,-⟩:=HRR.out.cells;rw [HGO.out] at c2;rw [HQO.out] at c3;have pl:=HRR.out.hp.lt;have f2:=HRR.out.hp.free 2;have f3:=HRR.out.hp.free 3;have TM:=Hz (show c8 w ((wr.setCell ⟨h.p,2,none⟩ (.slice vo2 lr.length vc2)).setCell ⟨h.p,3,none⟩ (.slice vo3 lw.length vc3)) h W (.slice vo2 lr.length vc2) (.slice vo3 lw.length vc3) lr lw h.F (cJ isP W.T 0) (.slice io isP.length icap) isP by
                rw [lh];have set:=((aa.refl (·=h.p) wr).setCell (p:=⟨h.p,2,none⟩) (.inl rfl) (.slice vo2 lr.length vc2)).setCell (p:=⟨h.p,3,none⟩) (.inl rfl) (.slice vo3 lw.length vc3);have nx:∀ {b:Nat} {c:List Value} {T:TypeId},ah wr b c T→T≠150→¬ b=h.p:=fun hb hT=>hb.ne HRR.out.hp hT;have s8:=CR.out.K.size;have s9:=KQ.out.size;refine ⟨by simpa using (HRR.out.hp.aF 2 _).aF 3 _,HRR.out.ht.ae set (fun b hb _=>?_) (fun b hb=>?_),HRR.out.hr.ae set (fun b hb=>?_),SQ2.out.ae set (fun b hb=>?_),SW.out.ae set (fun b hb=>?_),CQ.out.I.ae set (fun b hb=>?_),?_,?_,?_,?_,?_⟩
                ·obtain ⟨_,⟨c,hc⟩,_⟩:=HRR.out.af b hb;exact nx hc (by decide)
                ·obtain ⟨cs,hs,_⟩:=HRR.out.ht;obtain ⟨_,c,hc⟩:=hs.own hb;exact nx hc (by decide)
                ·obtain ⟨_,c,hc⟩:=HRR.out.hr.own hb;exact nx hc (by decide)
                ·obtain ⟨_,c,hc⟩:=SQ2.out.own hb;exact nx hc (by decide)
                ·obtain ⟨_,c,hc⟩:=SW.out.own hb;exact nx hc (by decide)
                ·obtain ⟨_,c,hc⟩:=CQ.out.I.own hb;exact nx hc (by decide)
                ·exact (CQ.out.K.mono (fun _ _ h=>h.elim)).trans (set.mono (fun b _ hb=>.inl hb))
                ·rintro b ⟨h1,h2⟩;have:=SQL.out b h1;have:=OW.out b h2;omega
                ·intro b hb;obtain ⟨h1,⟨c,h2⟩,h3⟩:=HRR.out.af b hb;exact ⟨.inl hb,by simpa using h1,⟨c,set.ai h2 (nx h2 (by decide))⟩,h3⟩
                ·intro b hb;exact Nat.le_trans s8 (OQ.out b hb)
                ·intro b hb;have:=OW.out b hb;omega)
               go_wp2_with fail;generalize (wr.setCell ⟨h.p,2,none⟩ (.slice vo2 lr.length vc2)).setCell ⟨h.p,3,none⟩ (.slice vo3 lw.length vc3)=w10 at *;go_loopw [21] (fun u wr=>∃ (k:Nat) (F:Nat→Prop),k≤W.T.length∧u=.int .i64 k∧c8 w wr h W (.slice vo2 lr.length vc2) (.slice vo3 lw.length vc3) lr lw F (cJ isP W.T k) (.slice io isP.length icap) isP) (fun u _=>W.T.length-(intOf u).toNat)
               case atStart=>exact ⟨0,h.F,Nat.zero_le _,rfl,TM.out⟩
               case round=>
                clear TM c2 c3 f2 f3 pl;obtain ⟨k,F,hk,rfl,hM⟩:=hrel;have TM:=Hz hM;have c0:=hM.hp.cell 0;have pl:=hM.hp.lt;simp only [Lz] at c0;rw [HNO.out] at c0;clear hM;by_cases hlt:k<W.T.length
                ·have hlc:k<(cJ isP W.T k).length:=by rw [cN];exact hlt
                 have HTV:=Hz (show h.tv=.slice no (cJ isP W.T k).length nc by rw [cN];exact HNO.out);obtain ⟨g,o,fo,fc,rfl,hgl,hfz,t0,t1,t2,t3,hrd⟩:=TM.out.cells HTV.out hlc;have HRD:=Hz (show Rd wr fo (au (cJ isP W.T k)[k].fs) from hrd);have hge:=jV isP W.T hlt;have hst:=lj isP W.T hlt;have HTH:=Hz (show W.th (k:Int)=W.T[k] by unfold Wd.th;rw [Int.toNat_natCast,Ld,Le hlt];rfl);have HGE:=Hz hge;rw [hge] at t0 t1 t2 t3 HRD;have HST:=Hz hst;obtain ⟨t,ht⟩:∃ t,W.T[k]=t:=⟨_,rfl⟩;rw [ht] at t0 t1 t2 t3 HRD HTH HGE HST;have HAT:=Hz (bS isP k);obtain ⟨_,_,e',rdi,-,-⟩:=TM.out.I.rd;cases e';have hki:k<isP.length:=by rw [HLP.out];exact hlt
                 obtain ⟨gi,oi,rfl,hgi,d0⟩:=rdi.eh k hki;obtain ⟨z,hz⟩:∃ z,isP.getD k false=z:=⟨_,rfl⟩;rw [hz] at d0 HAT;have HZ:=Hz hz;have f1:=hfz (o+k*4+1);have f2:=hfz (o+k*4+2);have f3:=hfz (o+k*4+3);obtain ⟨tk,tf,tol,tde⟩:=t;dsimp only at t0 t1 t2 t3 HRD;clear hz ht hge hst rdi hrd hfz;cases z
                 ·as_aux_lemma=>
                  have M2:=Hz (TM.out.rE HTV.out hlc);have M3:=Hz (M2.out.sw (by rw [List.length_set];exact HTV.out) (by rw [List.length_set];exact hlc));have HEQ:=Hz (nk (t:=⟨tk,tf,tol,tde⟩) HZ.out);go_wp2_with fail;go_roundw
                  case rel=>
                   refine ⟨k+1,F,hlt,by go_num,M3.out.ns ?_⟩;rw [←HST.out,HEQ.out];simp only [List.set_set,List.getElem_set_self,HGE.out]
                  case measure=>simp [intOf];omega
                 ·have M2:=Hz (TM.out.sx HTV.out hlc);rw [HGE.out] at M2;dsimp only at M2;have hlv:=PA.out.ok.live (k:Int) HAT.out;have hfit:=HOK.out.tk _ hlv;rw [HTH.out] at hfit;have HFT:=Hz hfit;have hk15:=bs hfit;dsimp only at hk15;have hl2:k<((cJ isP W.T k).set k ⟨tk,tf,true,tde⟩).length:=by rw [List.length_set];exact hlc
                  have HTV2:=Hz (show h.tv=.slice (some ⟨g,o,none⟩) ((cJ isP W.T k).set k ⟨tk,tf,true,tde⟩).length nc by rw [List.length_set];exact HTV.out);clear hlv hfit;go_upto_region 52 with (fail)
                  clear t0 t1 t2 t3 c0 pl hgl f1 f2 f3 d0 hgi;generalize wr.setCell ⟨g,o+k*4+2,none⟩ (.bool true)=w11 at *;obtain ⟨_,_,fo',fc',e2,hgl,hfz,t0,t1,t2,t3,hrd⟩:=M2.out.cells HTV2.out hl2;cases e2;simp only [List.getElem_set_self] at t0 t1 t2 t3 hrd;have HRD2:=Hz (show Rd w11 fo' (au tf) from hrd);have f1:=hfz (o+k*4+1);clear hrd HRD hfz;by_cases hk4:tk=4
                  ·subst hk4
                   as_aux_lemma=>
                   obtain ⟨u,v,rfl⟩:∃ u v,tf=[u,v]:=by
                    have h2:tf.length=2:=by
                     have:=HFT.out;simp [aW] at this;omega
                    match tf,h2 with
                    | [u,v],_=>exact ⟨u,v,rfl⟩
                   obtain ⟨gf,of,rfl,hgf,u0,u1⟩:=HRD2.out.val 0 (by simp);simp only [List.getD_cons_zero,Nat.zero_mul,Nat.add_zero] at u0 u1;have hlen2:([u,v]:List Vl).length=2:=rfl;rw [hlen2] at t1;have HEQ:=Hz (qe (t:=⟨4,[u,v],tol,tde⟩) HZ.out rfl rfl);have hin:iH isP.length u:=fun h3=>by
                    have:=HOK.out.tv (k:Int) (PA.out.ok.live _ HAT.out) u (by rw [HTH.out];simp);have:=Wd.bg this h3;rw [HLP.out];exact ⟨this.1,this.2.1⟩
                   obtain ⟨_,_,e',rdi,-,-⟩:=M2.out.I.rd;cases e';have HIS:=Hz (jn u _ icap isP w11 rdi (by have:=HLP.out;omega) hin);clear rdi hin hlen2;go_wp2_with (refine eT (by kernel_rfl) 78 (.tmp 281) rfl (by kernel_rfl) gf of rfl _ _ u0 u1 ?_);refine HIS.out.mono ?_;rintro e w12 ⟨rfl,hk⟩;have M4:=Hz (M2.out.same hk);clear t0 t1 t2 t3 hgl f1 u0 u1 hgf HIS hk;obtain ⟨_,_,fo',fc',e2,hgl,hfz,t0,t1,t2,t3,hrd⟩:=M4.out.cells HTV2.out hl2;cases e2;simp only [List.getElem_set_self] at t0 t1 t2 t3 hrd;have f1:=hfz (o+k*4+1);rw [show ([u,v]:List Vl).length=2 from rfl] at t1;clear hrd hfz;cases hi:a5 isP u
                   ·have HI:=Hz hi;clear hi;have hbn:ah (w12.alloc (.cells #[.int .i64 2, .int .i64 0, .int .i64 2, .int .i64 0] 78)) w12.heap.size (au [(2,0),(2,0)]) 78:=ah.newAt _ rfl rfl;have KN:=(Kz w12).alloc (.cells #[.int .i64 2, .int .i64 0, .int .i64 2, .int .i64 0] 78);have hrv:¬ ag h.rv w12.heap.size:=fun hb=>by have:=(M4.out.hr.own hb).1;omega
                    have M5:=Hz ((M4.out.same KN).jq (u:=(2,0)) (v:=(2,0)) HTV2.out hl2 hbn (Nat.le_trans M4.out.K.size (Nat.le_refl _)) hrv);clear hbn KN hrv;rw [iI _ _ _ _ hgl] at M5;go_upto_region 54 with (fail)
                    clear t0 t1 t2 t3 hgl f1 M4;simp only [List.set_set,List.getElem_set_self] at M5;generalize (w12.setCell ⟨g,o+k*4+1,none⟩ (.slice (some ⟨w12.heap.size,0,none⟩) 2 2)).alloc (.cells #[.int .i64 2, .int .i64 0, .int .i64 2, .int .i64 0] 78)=w13 at *;obtain ⟨_,_,fo5,fc5,e2,hgl,-,t0,t1,t2,t3,-⟩:=M5.out.cells (k:=k) (by rw [List.length_set,cN];exact HNO.out) (by rw [List.length_set];exact hlc);cases e2;simp only [List.getElem_set_self] at t0 t1 t2 t3;clear t1 t2 t3;go_wp2_with fail;go_roundw
                    case rel=>
                     refine ⟨k+1,_,hlt,by go_num,M5.out.ns ?_⟩;rw [←HST.out,HEQ.out,if_pos HI.out]
                     try simp only [List.set_set,List.getElem_set_self]
                    case measure=>simp [intOf];omega
                   ·have HI:=Hz hi;clear hi;go_wp2_with fail;go_roundw
                    case rel=>
                     refine ⟨k+1,F,hlt,by go_num,M4.out.ns ?_⟩;rw [←HST.out,HEQ.out,if_neg (by rw [HI.out];decide)]
                    case measure=>simp [intOf];omega
                  ·have k4:(tk == 4)=false:=by simpa using hk4
                   by_cases hk3:tk=3
                   ·subst hk3
                    as_aux_lemma=>
                    obtain ⟨u,v,rfl⟩:∃ u v,tf=[u,v]:=by
                     have h2:tf.length=2:=by
                      have:=HFT.out;simp [aW] at this;omega
                     match tf,h2 with
                     | [u,v],_=>exact ⟨u,v,rfl⟩
                    obtain ⟨gf,of,rfl,hgf,u0,u1⟩:=HRD2.out.val 0 (by simp);simp only [List.getD_cons_zero,Nat.zero_mul,Nat.add_zero] at u0 u1;have hlen2:([u,v]:List Vl).length=2:=rfl;rw [hlen2] at t1;have HEQ:=Hz (pk (t:=⟨3,[u,v],tol,tde⟩) HZ.out rfl rfl);have hin:iH isP.length u:=fun h3=>by
                     have:=HOK.out.tv (k:Int) (PA.out.ok.live _ HAT.out) u (by rw [HTH.out];simp);have:=Wd.bg this h3;rw [HLP.out];exact ⟨this.1,this.2.1⟩
                    obtain ⟨_,_,e',rdi,-,-⟩:=M2.out.I.rd;cases e';have HIS:=Hz (jn u _ icap isP w11 rdi (by have:=HLP.out;omega) hin);clear rdi hin hlen2;go_wp2_with (refine eT (by kernel_rfl) 78 (.tmp 303) rfl (by kernel_rfl) gf of rfl _ _ u0 u1 ?_);refine HIS.out.mono ?_;rintro e w12 ⟨rfl,hk⟩;have M4:=Hz (M2.out.same hk);have HRD4:=Hz (HRD2.out.ae hk (fun _ _ _ h=>h));clear t0 t1 t2 t3 hgl f1 u0 u1 hgf HIS hk;obtain ⟨_,_,fo',fc',e2,hgl,hfz,t0,t1,t2,t3,hrd⟩:=M4.out.cells HTV2.out hl2;cases e2;simp only [List.getElem_set_self] at t0 t1 t2 t3 hrd;have HRD5:=Hz (show Rd w12 fo' (au [u,v]) from hrd);rw [show ([u,v]:List Vl).length=2 from rfl] at t1;have f1:=hfz (o+k*4+1);clear hrd hfz;cases hi:a5 isP u
                    ·have HI:=Hz hi;clear hi;obtain ⟨gf2,of2,rfl,hgf,v0,v1⟩:=HRD5.out.val 1 (by simp);simp only [List.getD_cons_succ,List.getD_cons_zero,Nat.one_mul] at v0 v1;have hbn:ah (w12.alloc (.cells #[.int .i64 2, .int .i64 0, .int .i64 v.1, .int .i64 v.2] 78)) w12.heap.size (au [(2,0),v]) 78:=ah.newAt _ rfl rfl;have KN:=(Kz w12).alloc (.cells #[.int .i64 2, .int .i64 0, .int .i64 v.1, .int .i64 v.2] 78);have hrv:¬ ag h.rv w12.heap.size:=fun hb=>by have:=(M4.out.hr.own hb).1;omega
                     have M5:=Hz ((M4.out.same KN).jq (u:=(2,0)) (v:=v) HTV2.out hl2 hbn (Nat.le_trans M4.out.K.size (Nat.le_refl _)) hrv);rw [iI _ _ _ _ hgl] at M5;clear hbn KN hrv;go_wp2_with (refine aQ rfl 78 (.tmp 314) rfl (by kernel_rfl) gf2 _ rfl _ _ v0 v1 ?_);go_roundw
                     case rel=>
                      refine ⟨k+1,_,hlt,by go_num,M5.out.ns ?_⟩;rw [←HST.out,HEQ.out,if_pos HI.out];simp only [List.set_set,List.getElem_set_self]
                     case measure=>simp [intOf];omega
                    ·have HI:=Hz hi;clear hi;go_wp2_with fail;go_roundw
                     case rel=>
                      refine ⟨k+1,F,hlt,by go_num,M4.out.ns ?_⟩;rw [←HST.out,HEQ.out,if_neg (by rw [HI.out];decide)]
                     case measure=>simp [intOf];omega
                   ·have k3:(tk == 3)=false:=by simpa using hk3
                    as_aux_lemma=>
                    have HEQ:=Hz (n4 (t:=⟨tk,tf,tol,tde⟩) HZ.out hk3 hk4);clear hk3 hk4;go_wp2_with fail;go_roundw
                    case rel=>exact ⟨k+1,F,hlt,by go_num,M2.out.ns (by rw [←HST.out,HEQ.out])⟩
                    case measure=>simp [intOf];omega
                ·obtain rfl:k=W.T.length:=by omega
                 rw [mr] at TM;go_wp2_with fail;go_ret;refine ⟨by rw [HE.out];rfl,?_⟩;rw [HE.out];refine c8.done (gv:=.slice vo2 lr.length vc2) (wv:=.slice vo3 lw.length vc3) (F:=F) (iv:=.slice io isP.length icap) (is:=isP) ?_ HAO.out HH.out;have e1:(W.after major).regs=lr:=by unfold Wd.after;rw [PD.out];exact HLR.out
                 have e2:(W.after major).wait=lw:=by unfold Wd.after;rw [PD.out];exact HLW.out
                 rw [e1,e2,PD.out];exact TM.out
       ·--<pass
        obtain ⟨w7,rfl⟩:∃ x:World,x=wr:=⟨wr,rfl⟩;go_wp2_with fail;go_loopw [7,12,13] (fun a m u wr=>∃ (k:Nat) (x:Bool) (io:Option Addr) (icap:Nat) (is:List Bool) (all:List It) (vo:Option Addr) (vc:Nat) (q:List (Int × Int)),k≤W.regs.length∧u=.int .i64 k∧a=.slice io is.length icap∧m=.bool x∧eH w wr h W (.slice io is.length icap) is g8 (g8+1) all x1 (.slice vo q.length vc) q∧cT W isP qP itemsP k x is q all) (fun _ _ u _=>W.regs.length-(intOf u).toNat)
        case atStart=>exact ⟨0,false,io,icap,isP,itemsP,vo,vc,qP,Nat.zero_le _,rfl,rfl,rfl,CP.out,cT.start PA.out.ok⟩
        case round=>
         obtain ⟨k,x,io,icap,is,all,vo,vc,q,hk,rfl,rfl,rfl,hC,hS⟩:=hrel;have CQ:=Hz hC;have SC:=Hz hS;have HR:=Hz (HH.out.same hC.K);obtain ⟨-,-,c2,-,-,-⟩:=HR.out.cells;rw [HGO.out] at c2;have pl:=HR.out.hp.lt;have HLA:=Hz (hS.ok.sv);clear hC hS;by_cases hlt:k<W.regs.length
         ·obtain ⟨_,_,e',rd,-,-⟩:=HR.out.hg.rd;rw [HGO.out] at e';cases e';obtain ⟨gg,og,rfl,hgl,v0,v1⟩:=rd.dM k hlt;have hokE:=HOK.out.gv (W.regs.getD k (0,0)) (by rw [Ld,Le hlt];exact List.getElem_mem _);have hka:k<all.length:=by rw [HLA.out];exact hlt
          have hal:(all[k]'hka).1=W.regs.getD k (0,0):=by
           have h1:(all.map (·.1))[k]? = W.regs[k]? := by rw [SC.out.ok.rg]
           rw [List.getElem?_map,Le hka,Le hlt] at h1;rw [Ld,Le hlt];simpa using h1
          have D8:=CQ.out.D.cell k;have dl:=CQ.out.D.lt;have D9:=CQ.out.M.cell k;have ml:=CQ.out.M.lt;rw [List.getElem?_map,Le hka] at D8 D9;simp only [Option.map_some] at D8 D9;generalize W.regs.getD k (0,0)=e at *;obtain ⟨e1,e2⟩:=e;obtain ⟨⟨a1,d,b⟩,hit⟩:∃ t,all[k]'hka=t:=⟨_,rfl⟩;rw [hit] at D8 D9 hal;dsimp only at hal D8 D9;subst hal;have HAL:=Hz hit;dsimp only at v0 v1;have HEK:=Hz hokE;have h0:=hokE.1.1;have h1:=hokE.1.2.1;have h2:=hokE.2.2.1;have h3:=hokE.2.2.2.1;dsimp only at h0 h1 h2 h3;obtain ⟨m1,rfl⟩:∃ m:Nat,e1=m:=⟨e1.toNat,by omega⟩;obtain ⟨m2,rfl⟩:∃ m:Nat,e2=m:=⟨e2.toNat,by omega⟩;have hm1:m1<is.length:=by rw [SC.out.ok.len];omega
          have hm2:m2<is.length:=by rw [SC.out.ok.len];omega
          obtain ⟨_,_,e',rdi,-,-⟩:=CQ.out.I.rd;cases e';obtain ⟨gi,oi,rfl,hgi,d0⟩:=rdi.eh m1 hm1;have HAT:=Hz (show az is (m1:Int)=is.getD m1 false from bS is m1);generalize is.getD m1 false=z at *;have KA:=Hz ((Kz wr).alloc (.cells #[.int .i64 (m1:Int), .int .i64 (m2:Int)] 159));have CA:=Hz (CQ.out.same KA.out);have hyb:ah (wr.alloc (.cells #[.int .i64 (m1:Int), .int .i64 (m2:Int)] 159)) wr.heap.size [.int .i64 (m1:Int), .int .i64 (m2:Int)] 159:=ah.newAt _ rfl rfl;have y0:(wr.alloc (.cells #[.int .i64 (m1:Int), .int .i64 (m2:Int)] 159)).cell? ⟨wr.heap.size,0,none⟩=some (.int .i64 (m1:Int)):=hyb.cell 0;have y1:(wr.alloc (.cells #[.int .i64 (m1:Int), .int .i64 (m2:Int)] 159)).cell? ⟨wr.heap.size,0+1,none⟩=some (.int .i64 (m2:Int)):=hyb.cell 1;clear rd rdi hokE hit hyb;cases d
          ·go_wp2_with ((refine aQ rfl 159 (.tmp 106) rfl (by kernel_rfl) gg (og+k*2) rfl _ _ v0 v1 ?_));go_roundw
           case rel=>
            exact ⟨k+1,x,_,icap,is,all,vo,vc,q,hlt,by go_num,rfl,rfl,CA.out,SC.out.skip (by rw [HLA.out];exact hlt) HAL.out (by first | rfl | simp [HAT.out])⟩
           case measure=>simp [intOf];omega
          ·cases b
           ·cases z
            ·go_wp2_with ((refine aQ rfl 159 (.tmp 106) rfl (by kernel_rfl) gg (og+k*2) rfl _ _ v0 v1 ?_));go_roundw
             case rel=>
              exact ⟨k+1,x,_,icap,is,all,vo,vc,q,hlt,by go_num,rfl,rfl,CA.out,SC.out.skip (by rw [HLA.out];exact hlt) HAL.out (by first | rfl | simp [HAT.out])⟩
             case measure=>simp [intOf];omega
            ·as_aux_lemma=>
            have hq24:q.length≤24:=by have:=SC.out.ok.cnt;omega
            have X3:=CA.out.X.cell 3;have XL:=CA.out.X.lt;simp only [Lz,Ls] at X3;go_wp2_with (first | (refine aQ rfl 159 (.tmp 106) rfl (by kernel_rfl) gg (og+k*2) rfl _ _ v0 v1 ?_) | (refine aQ rfl 159 (.tmp 14) rfl (by kernel_rfl) wr.heap.size 0 rfl _ _ y0 y1 ?_) | (at_builtin;refine bD rfl (.tmp 127) (.tmp 129) 148 rfl 159 ie (.agg #[.int .i64 0, .int .i64 0]) 2 16 Try.underlying148 Hi.out Hz0.out Hz1.out Hz2.out rfl (by decide) _ q.length (au q) rfl ?ha ⟨wr.heap.size+1,0,none⟩ 1 1 [.int .i64 (m1:Int), .int .i64 (m2:Int)] rfl rfl ?hb ?hc ?hd ?he ?hf))
            case ha=>exact CQ.out.Q.ae (((Kz wr).alloc _).alloc _) (fun _ _ h=>h)
            case hb=>
             have:=bq (wr.alloc (.cells #[.int .i64 (m1:Int), .int .i64 (m2:Int)] 159)) 159 #[.int .i64 (m1:Int), .int .i64 (m2:Int)];simpa using this
            case hc=>intro u hu;simp at hu;rcases hu with rfl | rfl <;> rfl
            case hd=>unfold maxLen;omega
            case he=>omega
            case hf=>
             intro v2 w2 hs2 hk2 ho2;obtain ⟨vo2,vc2,rfl,-,-,-⟩:=hs2.rd;have ka2:aa (fun _=>False) wr ((wr.alloc (.cells #[.int .i64 (m1:Int), .int .i64 (m2:Int)] 159)).alloc (.cells #[.int .i64 (m1:Int), .int .i64 (m2:Int)] 159)):=((aa.refl _ _).alloc _).alloc _;have CW:=Hz (CQ.out.wait (e:=((m1:Int),(m2:Int))) ka2 hs2 hk2 (by simpa using ho2));have hqo:∀ b,ag (.slice vo q.length vc) b→b<wr.heap.size:=fun b hb=>(CQ.out.Q.own hb).1;have YB:=Hz (hk2.ai (show ah ((wr.alloc (.cells #[.int .i64 (m1:Int), .int .i64 (m2:Int)] 159)).alloc (.cells #[.int .i64 (m1:Int), .int .i64 (m2:Int)] 159)) wr.heap.size [.int .i64 (m1:Int), .int .i64 (m2:Int)] 159 from (ah.newAt _ rfl rfl).alloc _) (fun hb=>by have:=hqo _ hb;omega));have hXB:=hk2.ai (CQ.out.same ka2).X (fun hb=>by
              obtain ⟨_,c,hc⟩:=(CQ.out.same ka2).Q.own hb
              exact (CQ.out.same ka2).X.ne hc (by decide) rfl)
             have x3:=hXB.cell 3;have xl:=hXB.lt;have xf:=hXB.free 3;simp only [Lz,Ls] at x3;have YB2:=Hz (YB.out.ez (a:=⟨x1,3,none⟩) (YB.out.ne hXB (by decide)) (.slice vo2 (q.length+1) vc2));clear hs2 hk2 ho2 ka2 hqo YB hXB X3 XL y0 y1 v0 v1 d0 D8 dl D9 ml c2 pl hgl hgi;go_upto_region 22 with (fail)
             clear x3 xl xf;generalize w2.setCell ⟨x1,3,none⟩ (.slice vo2 (q.length+1) vc2)=w3 at *;generalize wr.heap.size=t14 at *;have y1:=YB2.out.cell 1;have yl:=YB2.out.lt;simp only [Lz,Ls] at y1;obtain ⟨_,_,e',rdi,-,-⟩:=CW.out.I.rd;obtain ⟨e'',-,-⟩:=Value.slice.inj e';cases e'';obtain ⟨gi',oi',e'',hgi,d0⟩:=rdi.eh m2 hm2;cases e'';obtain ⟨_,cu,hgb⟩:=CW.out.I.own (k:=gi) rfl;have fz:=hgb.free (oi+m2);have CX:=Hz (CW.out.alive (g:=gi) (o:=oi) (cap:=icap) rfl hm2);clear rdi e' hgb;go_upto_region 23 with (fail)
             clear y1 yl d0 fz hgi;generalize w3.setCell ⟨gi,oi+m2,none⟩ (.bool true)=w4 at *;have HEE:=Hz (show W.bQ (q ++ [((m1:Int),(m2:Int))]) (is.set m2 true)=(W.a6 is q (m2:Int)).1 from by
              have:=Wd.nY (W:=W) (q:=q) (is:=is) (g:=(m1:Int)) (x:=(m2:Int)) (by omega) (by omega)
              simpa using this)
             have hgr:=nn (w:=w4) (p:=x1) (q:=q ++ [((m1:Int),(m2:Int))]) (is:=is.set m2 true) (some ⟨gi,oi,none⟩) icap (CX.out.gr HH.out) HOK.out (fun f hf=>by
              rcases List.mem_append.1 hf with hf | hf
              ·exact SC.out.ok.wv f hf
              ·rw [List.mem_singleton] at hf;subst hf;exact HEK.out) (by
              obtain ⟨_,_,e',r,-,-⟩:=CX.out.I.rd;obtain ⟨e'',-,-⟩:=Value.slice.inj e'
              cases e'';exact r) (by rw [List.length_set];exact SC.out.ok.len) hT (by
              have:=mm SC.out.ok.live (x:=(m2:Int)) (by omega) (by omega) HEK.out.2.2
              simpa using this) (by simp;omega)
             rw [List.length_set,HEE.out] at hgr;have HGR:=Hz hgr;clear hgr;go_wp2_with fail;refine HGR.out.mono ?_;rintro e w5 ⟨no5,nc5,rfl,hs5,hk5,ho5⟩;have CY:=Hz (CX.out.grown hs5 hk5 ho5);clear hs5 hk5 ho5 HGR;have z0':=CY.out.M.cell k;have zl:=CY.out.M.lt;have zf:=CY.out.M.free k;rw [List.getElem?_map,Le hka,HAL.out] at z0';simp only [Option.map_some] at z0';have CZ:=Hz (CY.out.sS hka HAL.out);have ST:=Hz (SC.out.lL HOK.out hka HAL.out HAT.out);have eq1:=Hz (show (q ++ [((m1:Int),(m2:Int))]).length=q.length+1 by simp);go_wp2_with fail;go_roundw
             case rel=>exact ⟨k+1,true,no5,nc5,_,_,vo2,vc2,_,hlt,by go_num,rfl,rfl,by rw [eq1.out];exact CZ.out,ST.out⟩
             case measure=>simp [intOf];omega
           ·go_wp2_with ((refine aQ rfl 159 (.tmp 106) rfl (by kernel_rfl) gg (og+k*2) rfl _ _ v0 v1 ?_));go_roundw
            case rel=>
             exact ⟨k+1,x,_,icap,is,all,vo,vc,q,hlt,by go_num,rfl,rfl,CA.out,SC.out.skip (by rw [HLA.out];exact hlt) HAL.out (by first | rfl | simp [HAT.out])⟩
            case measure=>simp [intOf];omega
         ·obtain rfl:k=W.regs.length:=by omega
          have SD:=Hz (show cT W isP qP itemsP all.length x is q all by rw [HLA.out];exact SC.out);go_wp2_with fail
          go_roundg (bM all+if x then 1 else 0)
          case measure=>
           have h1:=HN.out;have h2:=SC.out.fl;simp only [if_true] at h1;rcases h2 with ⟨rfl,rfl⟩ | ⟨rfl,h2⟩
           ·simp;omega
           ·simp;omega
          case rel=>exact ⟨x,_,icap,is,all,vo,vc,q,rfl,rfl,CQ.out,PA.out.next SD.out,Nat.le_refl _⟩
end
end
end Go.Proofs.Ytjifdalflepcoab
