/-
  Parts of the proof, merged: what the functions do, and plain laws.
-/
import Derived.Test.YtjifdalflepcoacGreatHDesP1
import Derived.Test.YtjifdalflepcoacGreatHDesP4
import Derived.Test.YtjifdalflepcoacGreatHDesP3
import Derived.Test.YtjifdalflepcoacGreatHDesP2
import Derived.Test.YtjifdalflepcoacGreatHDesP0
set_option maxHeartbeats 16000000
set_option maxRecDepth 100000
set_option linter.unusedVariables false
set_option linter.unusedSimpArgs false
namespace Go.Proofs.YtjifdalflepcoacGreat
section
open Go.RowKit
theorem Wd.yA {W:Wd} {major:Bool} (h:(W.cut major).1≠0):(W.cut major).2=W:=by
 unfold Wd.cut at h ⊢;split
 ·rfl
 ·rename_i h1;rw [if_neg h1] at h;split
  ·rfl
  ·rename_i h2;rw [if_neg h2] at h;exact (h rfl).elim
end
section
open Go.RowKit
theorem Rd.Cb {w:World} {ao:Option Addr} {l:List Nat} (h:Rd w ao (l.map fun (k:Nat)=>Value.int .i64 (k:Int))) (i:Nat) (hi:i<l.length) :
  ∃ g o,ao=some ⟨g,o,none⟩∧g<w.heap.size∧w.cell? ⟨g,o+i,none⟩=some (.int .i64 ((l.getD i 0:Nat):Int)):=by
 obtain ⟨g,o,rfl,hg,hc⟩:=h (by intro e;simp at e;subst e;simp at hi);refine ⟨g,o,rfl,hg,?_⟩;rw [hc i (by simpa using hi)];simp [List.getD,hi]
theorem aK.step {w w1 w2:World} {h h1:RW} {W':Wd} (ep:h1.p=h.p) (k:ab h.Own w w1) (o:∀ b,h1.Own b→h.Own b∨w.heap.size≤b) (t:aK w1 h1 w2 W'):aK w h w2 W':=by
 obtain ⟨h2,H2,e2,k2,o2⟩:=t;refine ⟨h2,H2,e2.trans ep,k.then k2 (fun b hb=>?_),fun b hb=>?_⟩
 ·rcases o b hb with h | h
  ·exact .inl h
  ·exact .inr h
 ·rcases o2 b hb with h | h
  ·exact o b h
  ·exact .inr (Nat.le_trans k.size h)
theorem Wd.sO (W:Wd) (n:Int):(W.room n).2.T.length=W.T.length:=by
 unfold Wd.room;split
 ·unfold Wd.cut;split
  ·rfl
  ·split
   ·rfl
   ·exact Wd.kY
 ·rfl
theorem Wd.yB {W:Wd} {n:Int} (h:n > W.most-W.aG):W.room n=W.cut (decide (W.aG > W.grow-W.cH)):=by unfold Wd.room;rw [if_pos h]
theorem Wd.yC {W:Wd} {n:Int} (h:¬ n > W.most-W.aG):W.room n=(0,W):=by unfold Wd.room;rw [if_neg h]
section
variable {w:World} {h:RW} {W:Wd}
theorem nD (r:Nat) (kd:Int) (l:List Nat) (ao:Option Addr) (cap:Nat) (H:aZ w h W) (hT:W.T.length≤90000) (hr:r<12) (hl:∀ k ∈ l,k<12) (hf:bs kd l.length=true)
  (hs:Sl w 3 1 (.slice ao l.length cap) l.length (l.map fun (k:Nat)=>Value.int .i64 (k:Int))) :
  Calls Tryz.prog 101 #[.pointer (some ⟨h.p,0,none⟩), .int .i64 r, .int .i64 kd, .slice ao l.length cap] w fun e w'=>e=.returned (.int .i64 (W.bR r kd (l.map fun (k:Nat)=>(k:Int))).1)∧aK w h w' (W.bR r kd (l.map fun (k:Nat)=>(k:Int))).2:=by
 have HH:=Hz H;have HF:=Hz hf;have hl12:=(bP hf).2.2.2;have HLL:=Hz hl;have HS:=Hz hs;have hok:=H.ok;have HOK:=Hz hok;have g1:=hok.g1;have g2:=hok.g2;have uo:=hok.uo;have uy:=hok.uy;have m1:=hok.m1;have m2:=hok.m2;have y0:0≤W.aG:=fE _ _;have z0:0≤W.cH:=fE _ _;have HN:=Hz (show ∀ c,(W.room (1+(l.length:Int))).1=c→c≠0→W.bR r kd (l.map fun (k:Nat)=>(k:Int))=(c,W) from fun c hc h0=>by
  unfold Wd.bR
  rw [List.length_map,if_neg (by rw [hc];exact h0),hc])
 have HY:=Hz (show (W.room (1+(l.length:Int))).1=0→W.bR r kd (l.map fun (k:Nat)=>(k:Int))=(0,(W.room (1+(l.length:Int))).2.put r kd ((l.map fun (k:Nat)=>(k:Int)).map (W.room (1+(l.length:Int))).2.rt)) from fun h0=>by
  unfold Wd.bR
  rw [List.length_map,if_pos h0])
 have hw1:IntKind.i64.wrap (1+(l.length:Int))=1+l.length:=IntWalk.i64_in _ (by omega);have hw2:IntKind.i64.wrap (W.most-W.aG)=W.most-W.aG:=IntWalk.i64_in _ (by omega);have hw3:IntKind.i64.wrap (W.grow-W.cH)=W.grow-W.cH:=IntWalk.i64_in _ (by omega);clear H hf hl hs hok;go_enter Tryz.func101,Tryz.ntmps101;go_wp2_with fail;refine (qO HH.out (by omega)).mono ?_;rintro e w1 ⟨rfl,hk⟩;have H1:=Hz (HH.out.same hk);have K1:=Hz hk;clear hk;obtain ⟨-,-,-,-,c4,c5⟩:=H1.out.cells;have pl:=H1.out.hp.lt;obtain ⟨b,hb⟩:∃ b,decide (W.most-W.aG<1+(l.length:Int))=b:=⟨_,rfl⟩;go_upto_region 3 with (fail)
 refine im (fun i=>Nat.blt 22 i && Nat.blt i 31) (fun s wx=>s 30=.bool b∧wx=w1) ?_ ?_
 ·intro K hK;go_wp2_with fail;refine ⟨by kernel_rfl,?_⟩;exact ⟨rfl,rfl⟩
 intro u wx hR;obtain ⟨e30,rfl⟩:=hR;have e30:u 30=.bool b:=e30;simp (maxSteps:=2000000) only [gH,overL,List.toList_toArray,Nat.blt,Nat.beq,Nat.ble,Nat.reduceAdd,Bool.or_false,Bool.false_or,Bool.or_true,Bool.true_or,Bool.and_true,Bool.true_and,Bool.and_false,Bool.false_and,cond_true,cond_false];rw [e30];clear e30;rename_i K3 hK3;refine hK3 _ _ ?_;refine im (fun i=>Nat.beq 12 i || (Nat.blt 30 i && Nat.blt i 43)) (fun s wx=>aK w h wx (W.room (1+(l.length:Int))).2∧(W.room (1+(l.length:Int))).1=0) ?_ ?_
 ·intro K hK;by_cases hroom:1+(l.length:Int) > W.most-W.aG
  ·obtain rfl:b=true:=by rw [←hb];simpa using hroom
   clear hb;have hrc:=Wd.yB hroom;clear hroom;obtain ⟨mj,hmj⟩:∃ b,decide (W.aG > W.grow-W.cH)=b:=⟨_,rfl⟩;rw [hmj] at hrc;have HRC:=Hz hrc;have hdm:decide (W.grow-W.cH<W.aG)=mj:=by simpa using hmj
   clear hrc hmj;go_wp2_with fail;refine (sN mj H1.out (by omega)).mono ?_;rintro e w2 ⟨rfl,hto⟩;have TO:=Hz (aK.aW K1.out hto);clear hto c4 c5 pl;by_cases h0:(W.cut mj).1=0
   ·have HR0:=Hz (show (W.room (1+(l.length:Int))).1=0 by rw [HRC.out];exact h0);rw [h0];clear h0;go_wp2_with fail;refine ⟨by kernel_rfl,?_⟩;exact ⟨by rw [HRC.out];exact TO.out,HR0.out⟩
   ·have HE:=Hz (HN.out _ (by rw [HRC.out]) h0);have HC:=Hz (Wd.yA h0);have hd2:((W.cut mj).1 != 0)=true:=by simpa using h0
    clear h0;generalize (W.cut mj).1=cc at *;go_wp2_with fail;go_ret;exact ⟨by rw [HE.out];rfl,by rw [HE.out];have:=TO.out;rw [HC.out] at this;exact this⟩
  ·obtain rfl:b=false:=by rw [←hb];simpa using hroom
   clear hb;have HRY:=Hz (Wd.yC hroom);clear hroom;go_wp2_with fail;refine ⟨by kernel_rfl,?_⟩;exact ⟨by rw [HRY.out];exact aK.same HH.out K1.out,by rw [HRY.out]⟩
 ·intro u wx hR;obtain ⟨⟨h2,H2,ep,hk2,ho2⟩,h0⟩:=hR;have HE:=Hz (show W.bR r kd (l.map fun (k:Nat)=>(k:Int))=(0,(W.room (1+(l.length:Int))).2.put r kd (l.map fun (j:Nat)=>(W.room (1+(l.length:Int))).2.rt (j:Int))) by rw [HY.out h0,List.map_map];rfl);have HRO:=Hz (Wd.ok.room HOK.out (1+l.length) (by omega));have hrm:=HRO.out.2 h0;have hTl:(W.room (1+(l.length:Int))).2.T.length≤90000:=by rw [Wd.sO];exact hT
  have HPK:=Hz (HRO.out.1.put (r:=r) (k:=kd) (l:=l.map fun (j:Nat)=>(W.room (1+(l.length:Int))).2.rt (j:Int)) (by rw [List.length_map];exact HF.out) (fun v hv=>by
   obtain ⟨j,hj,rfl⟩:=List.mem_map.1 hv
   exact Wd.g5 H2.ok (j:Int)) (by rw [List.length_map];exact hrm))
  simp (maxSteps:=2000000) only [gH,overL,List.toList_toArray,Nat.blt,Nat.beq,Nat.ble,Nat.reduceAdd,Bool.or_false,Bool.false_or,Bool.or_true,Bool.true_or,Bool.and_true,Bool.true_and,Bool.and_false,Bool.false_and,cond_true,cond_false];have S2:=Hz (HS.out.ae hk2 (fun b hb e=>by
   obtain ⟨_,c,hc⟩:=HS.out.own hb;obtain ⟨_,c',T,hc',hT⟩:=HH.out.bB e;refine hc.ne hc' ?_ rfl
   rcases hT with rfl | rfl | rfl | rfl <;> decide))
  have K2:=Hz hk2;have O2:=Hz ho2;have H2:=Hz H2;rw [←ep];have EP:=Hz ep;clear hk2 ho2 h0 HN HY HRO c4 c5 pl hw2 hw3 ep;generalize (W.room (1+(l.length:Int))).2=W2 at *;obtain ⟨iv,hi,hz0,hz1,hz2⟩:=cZ iG;have Vi:=Hz hi;have Vz0:=Hz hz0;have Vz1:=Hz hz1;have Vz2:=Hz hz2;clear hi hz0 hz1 hz2;obtain ⟨it,hi,hz0,hz1,hz2⟩:=cZ vm;have Ti:=Hz hi;have Tz0:=Hz hz0;have Tz1:=Hz hz1;have Tz2:=Hz hz2;clear hi hz0 hz1 hz2;go_wp2_with fail;generalize hwb:wx.alloc (.cells #[.int .i64 kd, .slice none 0 0, .bool false, .bool false] 154)=wb;have KB:=Hz (show ab (fun _=>False) wx wb by rw [←hwb];exact (ab.refl _ _).alloc _);have TB:=Hz (show ah wb wx.heap.size [.int .i64 kd, .slice none 0 0, .bool false, .bool false] 154 by rw [←hwb];exact ah.newAt _ rfl rfl);have HB:=Hz (H2.out.same KB.out);have SB:=Hz (S2.out.ae KB.out (fun _ _ h=>h));have OB:=Hz (fun b hb=>(H2.out.bB (k:=b) hb).1);have SO:=Hz (fun b hb=>(S2.out.own (k:=b) hb).1);have ZB:=Hz (show wb.heap.size=wx.heap.size+1 by rw [←hwb];simp);have ZK:=Hz K2.out.size;clear hwb;obtain ⟨tb,htb⟩:∃ n,wx.heap.size=n:=⟨_,rfl⟩;rw [htb] at TB OB SO ZB;rw [htb];have HTB:=Hz htb;clear htb;go_loopw [14] (fun u wr=>∃ (k:Nat) (fo:Option Addr) (fc:Nat),k≤l.length∧u=.int .i64 k∧ab (·=tb) wb wr∧ah wr tb [.int .i64 kd, .slice fo k fc, .bool false, .bool false] 154∧Sl wr 96 2 (.slice fo k fc) k (aA ((l.take k).map fun (j:Nat)=>W2.rt (j:Int)))∧∀ b,ai (.slice fo k fc) b→tb+1≤b) (fun u _=>l.length-(intOf u).toNat)
  case atStart=>exact ⟨0,none,0,Nat.zero_le _,rfl,ab.refl _ _,TB.out,Sl.nil _ _ _,fun b hb=>(bM hb).elim⟩
  case round=>
   obtain ⟨k,fo,fc,hk,rfl,hK,hB,hS,hO⟩:=hrel;have KR:=Hz hK;have BR:=Hz hB;have FS:=Hz hS;have FO:=Hz hO;have HR:=Hz (HB.out.ae hK (fun b hb e=>by have:=OB.out b hb;omega));have SR:=Hz (SB.out.ae hK (fun b hb e=>by have:=SO.out b hb;omega));have b1:=hB.cell 1;have bl:=hB.lt;have bf:=hB.free 1;simp only [Lz,Ls] at b1;clear hK hB hS hO;by_cases hlt:k<l.length
   ·obtain ⟨_,_,e',rdl,-,-⟩:=SR.out.rd;cases e';obtain ⟨gl,ol,rfl,hgl,l0⟩:=rdl.Cb k hlt;have hm:=HLL.out (l.getD k 0) (by rw [Ld,Le hlt];exact List.getElem_mem _);have htk:((l.take (k+1)).map fun (j:Nat)=>W2.rt (j:Int))=((l.take k).map fun (j:Nat)=>W2.rt (j:Int)) ++ [W2.rt ((l.getD k 0:Nat):Int)]:=by
     rw [List.take_add_one,Le hlt,List.map_append,Ld,Le hlt];rfl
    generalize l.getD k 0=m at *;obtain ⟨g,o,rc,erv,hg,r0,r1⟩:=HR.out.root hm;have hrl:W2.roots.length=12:=HR.out.ok.hr;obtain ⟨-,c1,-,-,-,-⟩:=HR.out.cells;have pl:=HR.out.hp.lt;rw [erv,hrl] at c1;have HTK:=Hz htk;have hmi:(m:Int)<12:=by omega
    generalize W2.rt (m:Int)=v at *;obtain ⟨v1,v2⟩:=v;dsimp only at r0 r1;obtain ⟨L,hL⟩:∃ L,((l.take k).map fun (j:Nat)=>W2.rt (j:Int))=L:=⟨_,rfl⟩;rw [hL] at FS;have HT2:=Hz (show ((l.take (k+1)).map fun (j:Nat)=>W2.rt (j:Int))=L ++ [(v1,v2)] by rw [HTK.out,hL]);clear rdl htk HTK hL erv hrl;go_wp2_with fail;refine ay (.free 0 (.free 2 (.free 3 (.free 4 (.free 6 (.free 7 (.free 8 (.pure 1 (.pure 5 (.pure 9 (.free 10 (.pure 11 (.run 12 (.run 13 (.swi [15] (.free 14 (.run 15 (.swi [] (.fin))))))))))))))))))) [13,14,15] (fun w'=>w'.cell? ⟨tb,1,none⟩=some (.slice fo k fc)∧w'.cell? ⟨h2.p,1,none⟩=some (.slice (some ⟨g,o,none⟩) 12 rc)∧w'.cell? ⟨gl,ol+k,none⟩=some (.int .i64 m)∧w'.cell? ⟨g,o+m*2,none⟩=some (.int .i64 v1)∧w'.cell? ⟨g,o+m*2+1,none⟩=some (.int .i64 v2)) (by kernel_rfl) (by kernel_rfl) ⟨b1,c1,l0,r0,r1⟩ ?_
    iterate 12 ((first | refine au rfl rfl fun K hK=>?_ | refine aq rfl rfl fun K hK=>?_ | refine aF rfl rfl fun K hK=>?_ | refine az rfl rfl fun K hK=>?_ | refine aE rfl rfl fun K hK=>?_);go_simp;refine hK _ ?_;clear hK K)
    refine aM rfl rfl (fun K hK=>?_);unfold aC;go_simp;have hka:ab (fun _=>False) wr ((wr.alloc (.cells #[.int .i64 v1, .int .i64 v2] 96)).drew):=((Kz wr).alloc (.cells #[.int .i64 v1, .int .i64 v2] 96)).drew;have hcc:∀ (a:Nat) (q:Nat),a<wr.heap.size→((wr.alloc (.cells #[.int .i64 v1, .int .i64 v2] 96)).drew).cell? ⟨a,q,none⟩=wr.cell? ⟨a,q,none⟩:=fun a q ha=>World.cell?_of_block (w:=wr) (a:=⟨a,q,none⟩) (hka.block a ha (fun h=>h));refine hK _ _ (fun hg'=>⟨(hcc _ _ bl).trans b1,(hcc _ _ pl).trans c1,(hcc _ _ hgl).trans l0,(hcc _ _ hg).trans r0,(hcc _ _ hg).trans r1⟩) ?_;clear hK K hcc;refine aJ rfl rfl rfl (fun K hK=>?_);refine fU (.tmp 53) (.tmp 64) 38 rfl 96 iv (.agg #[.int .i64 0, .int .i64 0]) 2 16 Tryz.underlying38 Vi.out Vz0.out Vz1.out Vz2.out rfl (by decide) _ k (aA L) rfl (FS.out.ae hka (fun _ _ h=>h)) ⟨wr.heap.size,0,none⟩ 1 1 [.int .i64 v1, .int .i64 v2] rfl rfl (bW wr 96 #[.int .i64 v1, .int .i64 v2]) (by intro u hu;simp at hu;rcases hu with rfl | rfl <;> rfl) (by unfold maxLen;omega) (by omega) ?_;intro v2' w2 hs2 hk2 ho2;refine hK _ _ ?_;clear hK K;obtain ⟨ao2,ac2,rfl,-,-,-⟩:=hs2.rd;have hno:∀ b,ai (.slice fo k fc) b→b≠tb:=fun b hb e=>by have:=FO.out b hb;omega
    have da:=hk2.ak (hka.ak BR.out (fun h=>h)) (fun hb=>hno _ hb rfl);have KN:ab (·=tb) wb w2:=(KR.out.trans (hka.mono (fun _ _ h=>h.elim))).then hk2 (fun j hj=>.inr (by have:=FO.out j hj;rw [ZB.out];exact this));have hoN:∀ b,ai (.slice ao2 (k+1) ac2) b→tb+1≤b:=fun b hb=>by
     rcases ho2 b hb with h1 | h1
     ·exact FO.out b h1
     ·have:=BR.out.lt;first | omega | (simp at h1;omega)
    have x1:=da.cell 1;have xl:=da.lt;have xf:=da.free 1;simp only [Lz,Ls] at x1;have KN2:=Hz (KN.setCell (p:=⟨tb,1,none⟩) (.inl rfl) (.slice ao2 (k+1) ac2));have BN:=Hz (show ah (w2.setCell ⟨tb,1,none⟩ (.slice ao2 (k+1) ac2)) tb [.int .i64 kd, .slice ao2 (k+1) ac2, .bool false, .bool false] 154 by simpa using da.aO 1 (.slice ao2 (k+1) ac2));have SN:=Hz (show Sl (w2.setCell ⟨tb,1,none⟩ (.slice ao2 (k+1) ac2)) 96 2 (.slice ao2 (k+1) ac2) (k+1) (aA (L ++ [(v1,v2)])) by
     have e2:aA (L ++ [(v1,v2)])=aA L ++ [.int .i64 v1, .int .i64 v2]:=by simp [aA]
     rw [e2]
     exact hs2.ae ((ab.refl (·=tb) w2).setCell (p:=⟨tb,1,none⟩) (.inl rfl) (.slice ao2 (k+1) ac2)) (fun b hb e=>by have:=hoN b hb;omega))
    have ON:=Hz hoN;clear hs2 hk2 ho2 hka hno da KN hoN b1 c1 l0 r0 r1 bl pl bf;refine aH (fun _=>True) trivial ?_
    iterate 1 ((first | refine au rfl rfl fun K hK=>?_ | refine aq rfl rfl fun K hK=>?_);go_simp;refine hK _ ?_;clear hK K)
    refine aJ rfl rfl rfl (fun K hK=>?_);unfold aC;go_simp;refine hK _ _ ?_;clear hK K;refine aH (fun _=>True) trivial (aB ?_);clear x1 xl xf;go_wp2_with fail;go_roundw
    case rel=>exact ⟨k+1,ao2,ac2,hlt,by go_num,KN2.out,BN.out,by rw [HT2.out];exact SN.out,ON.out⟩
    case measure=>simp [intOf];omega
   ·obtain rfl:k=l.length:=by omega
    rw [List.take_length] at FS;have HPO:=Hz (show (W2.put r kd (l.map fun (j:Nat)=>W2.rt (j:Int))).ok from HPK.out);have hlen:(l.map fun (j:Nat)=>W2.rt (j:Int)).length=l.length:=List.length_map _;have HLN:=Hz hlen;clear hlen;obtain ⟨g,o,rc,erv,hg,-,-⟩:=HR.out.root hr;have hrl:W2.roots.length=12:=HR.out.ok.hr;obtain ⟨no,nc,eth,-⟩:=HR.out.ht.nth;obtain ⟨c0,c1,-,-,-,-⟩:=HR.out.cells;have pl:=HR.out.hp.lt;have hrs:=HR.out.hr;rw [erv,hrl] at c1 hrs;rw [eth] at c0;have RS:=Hz hrs;have ERV:=Hz erv;have HRL:=Hz hrl;have ETH:=Hz eth;clear erv hrl eth hrs;go_wp2_with fail;have h12:(r:Int)<12:=by omega
    have h12':¬ (12:Int)≤(r:Int):=by omega
    have h12n:¬ (12:Nat)≤r:=by omega
    refine ay (.free 0 (.free 1 (.free 2 (.free 4 (.free 5 (.free 6 (.free 7 (.pure 3 (.pure 8 (.free 9 (.free 10 (.free 11 (.run 12 (.swi [] (.fin))))))))))))))) [12] (fun w'=>w'.cell? ⟨h2.p,0,none⟩=some (.slice no W2.T.length nc)∧w'.cell? ⟨h2.p,1,none⟩=some (.slice (some ⟨g,o,none⟩) 12 rc)) (by kernel_rfl) (by kernel_rfl) ⟨c0,c1⟩ ?_
    iterate 12 ((first | refine au rfl rfl fun K hK=>?_ | refine aq rfl rfl fun K hK=>?_ | refine aF rfl rfl fun K hK=>?_ | refine az rfl rfl fun K hK=>?_ | refine aE rfl rfl fun K hK=>?_);go_simp;refine hK _ ?_;clear hK K)
    refine aJ rfl rfl rfl (fun K hK=>?_);refine cr 96 (.tmp 78) (.tmp 77) rfl rfl g o 12 rc r (aA W2.roots) 96 (.int .i64 3) (.int .i64 W2.T.length) rfl rfl (RS.out.ae (Kz wr).drew (fun _ _ h=>h)) hr (by kernel_rfl) rfl rfl ?_;intro w3 hs3 hk3 hz3;refine hK _ _ ?_;clear hK K;refine aH (fun _=>True) trivial (aB ?_);have hkw:ab (·=g) wr w3:=((Kz wr).drew.mono (fun _ _ h=>h.elim)).trans hk3;have KW:=Hz hkw;obtain ⟨_,cg,hcg⟩:=RS.out.own (k:=g) rfl;have ne:∀ {b:Nat} {c:List Value} {T:TypeId},ah wr b c T→T≠96→¬ b=g:=fun hb hT e=>hb.ne hcg hT e;have HP3:=hkw.ak HR.out.hp (ne HR.out.hp (by decide));have BR3:=hkw.ak BR.out (ne BR.out (by decide));obtain ⟨cs,hsT1,hRT⟩:=H2.out.ht;have hsT:=(hsT1.ae KB.out (fun _ _ h=>h)).ae KR.out (fun b hb e=>by have:=OB.out b (.inr (.inl hb));omega);have hsT3:=hsT.ae hkw (fun b hb=>by obtain ⟨_,c,hc⟩:=hsT.own hb;exact ne hc (by decide));have hgo:ai h2.rv g:=by rw [ERV.out];rfl
    have hgt:=OB.out g (.inr (.inr (.inl hgo)));have FS3:=FS.out.ae hkw (fun b hb e=>by have:=FO.out b hb;omega);rw [ETH.out] at hsT3;have c0:=HP3.cell 0;have pl:=HP3.lt;have t0:=BR3.cell 0;have t1:=BR3.cell 1;have t2:=BR3.cell 2;have t3:=BR3.cell 3;have bl:=BR3.lt;simp only [Lz,Ls] at c0 t0 t1 t2 t3;rw [ETH.out] at c0;have RS3:=Hz hs3;have HP3:=Hz HP3;have BR3:=Hz BR3;have TS3:=Hz hsT3;have RT:=Hz hRT;have FS3:=Hz FS3;have TS:=Hz hsT;have GO:=Hz hgo;have HGT:=Hz hgt;clear hkw hcg ne hsT hsT3 hRT hs3 hk3 hz3 b1 bf c1 hg h12 h12' h12n hgo hgt;go_wp2_with fail;refine ay (.free 0 (.free 1 (.free 2 (.free 3 (.pure 4 (.pure 5 (.run 6 (.run 7 (.swi [10] (.free 8 (.free 9 (.run 10 (.swi [] (.fin)))))))))))))) [7,8,9,10] (fun w'=>w'.cell? ⟨h2.p,0,none⟩=some (.slice no W2.T.length nc)∧w'.cell? ⟨tb,0,none⟩=some (.int .i64 kd)∧w'.cell? ⟨tb,1,none⟩=some (.slice fo l.length fc)∧w'.cell? ⟨tb,2,none⟩=some (.bool false)∧w'.cell? ⟨tb,3,none⟩=some (.bool false)) (by kernel_rfl) (by kernel_rfl) ⟨c0,t0,t1,t2,t3⟩ ?_
    iterate 6 ((first | refine au rfl rfl fun K hK=>?_ | refine aq rfl rfl fun K hK=>?_ | refine jH rfl rfl _ (fun w' hG=>by obtain ⟨c0,t0,t1,t2,t3⟩:=hG;exact mS (cs:=[_,_,_,_]) rfl (by decide +kernel) rfl (aa (by assumption) (aa (by assumption) (aa (by assumption) (aa (by assumption) aQ))))) (fun K hK=>?_) | refine aF rfl rfl fun K hK=>?_ | refine az rfl rfl fun K hK=>?_ | refine aE rfl rfl fun K hK=>?_);go_simp;refine hK _ ?_;clear hK K)
    refine aM rfl rfl (fun K hK=>?_);unfold aC;go_simp;have hka:ab (fun _=>False) w3 ((w3.alloc (.cells #[.int .i64 kd, .slice fo l.length fc, .bool false, .bool false] 154)).drew):=((Kz w3).alloc (.cells #[.int .i64 kd, .slice fo l.length fc, .bool false, .bool false] 154)).drew;refine hK _ _ (fun hg=>⟨(hka.ak HP3.out (fun h=>h)).cell 0 |>.trans (by simp [ETH.out]),(hka.ak BR3.out (fun h=>h)).cell 0,(hka.ak BR3.out (fun h=>h)).cell 1,(hka.ak BR3.out (fun h=>h)).cell 2,(hka.ak BR3.out (fun h=>h)).cell 3⟩) ?_;clear hK K;refine aJ rfl rfl rfl (fun K hK=>?_);refine fU (.tmp 83) (.tmp 85) 144 rfl 154 it (.agg #[.int .i64 0, .slice none 0 0, .bool false, .bool false]) 4 40 Tryz.underlying144 Ti.out Tz0.out Tz1.out Tz2.out rfl (by decide) _ W2.T.length cs rfl (TS3.out.ae hka (fun _ _ h=>h)) ⟨w3.heap.size,0,none⟩ 1 1 [.int .i64 kd, .slice fo l.length fc, .bool false, .bool false] rfl rfl (bW w3 154 #[.int .i64 kd, .slice fo l.length fc, .bool false, .bool false]) (by intro u hu;simp at hu;rcases hu with rfl | rfl | rfl <;> rfl) (by unfold maxLen;omega) (by omega) ?_;intro v4 w4 hs4 hk4 ho4;refine hK _ _ ?_;clear hK K;obtain ⟨vo4,vc4,rfl,-,-,-⟩:=hs4.rd;have nTV:∀ {b:Nat} {c:List Value} {T:TypeId},ah w3 b c T→T≠154→¬ ai (.slice no W2.T.length nc) b:=fun hb hT e=>by
     obtain ⟨_,c',hc'⟩:=TS3.out.own e;exact hb.ne hc' hT rfl
    have HP4:=Hz (hk4.ak (hka.ak HP3.out (fun h=>h)) (nTV HP3.out (by decide)));have RS4:=Hz ((RS3.out.ae hka (fun _ _ h=>h)).ae hk4 (fun b hb e=>by obtain ⟨_,c,hc⟩:=RS3.out.own hb;exact nTV hc (by decide) e));have FS4:=Hz ((FS3.out.ae hka (fun _ _ h=>h)).ae hk4 (fun b hb e=>by obtain ⟨_,c,hc⟩:=FS3.out.own hb;exact nTV hc (by decide) e));have TS4:=Hz hs4;have K13:=Hz (show ab (fun b=>ai h2.rv b∨ai h2.tv b∨b=h2.p) wx w3 from ((KB.out.mono (fun _ _ h=>h.elim)).then KR.out (fun b hb=>.inr (by rw [HTB.out,hb];exact Nat.le_refl _))).then KW.out (fun b hb=>.inl (.inl (hb ▸ GO.out))));have K14:=Hz ((K13.out.then hka (fun _ h=>h.elim)).then hk4 (fun b hb=>.inl (.inr (.inl (by rw [ETH.out];exact hb)))));have O4:=Hz (show ∀ b,ai (.slice vo4 (W2.T.length+1) vc4) b→ai h2.tv b∨wx.heap.size≤b from fun b hb=>by
     rcases ho4 b hb with h1 | h1
     ·exact .inl (by rw [ETH.out];exact h1)
     ·have:=K13.out.size;exact .inr (by first | omega | (simp at h1;omega)))
    have x0:=HP4.out.cell 0;have xl:=HP4.out.lt;have xf:=HP4.out.free 0;simp only [Lz] at x0;clear hs4 hk4 ho4 hka c0 t0 t1 t2 t3 bl pl;refine aH (fun _=>True) trivial ?_
    iterate 2 ((first | refine au rfl rfl fun K hK=>?_ | refine aq rfl rfl fun K hK=>?_);go_simp;refine hK _ ?_;clear hK K)
    refine aJ rfl rfl rfl (fun K hK=>?_);unfold aC;go_simp;refine hK _ _ ?_;clear hK K;refine aH (fun _=>True) trivial (aB ?_);clear x0 xl xf;go_wp2_with fail;go_ret;refine ⟨by rw [HE.out];rfl,?_⟩;rw [HE.out];have hnp:∀ {b:Nat} {c:List Value} {T:TypeId},ah w4 b c T→T≠147→¬ b=h2.p:=fun hb hT=>hb.ne HP4.out hT;have hset:=(ab.refl (·=h2.p) w4).setCell (p:=⟨h2.p,0,none⟩) (.inl rfl) (.slice vo4 (W2.T.length+1) vc4);have hlen:=HLN.out;have hput:=H2.out.BU (w':=(w4.setCell ⟨h2.p,0,none⟩ (.slice vo4 (W2.T.length+1) vc4))) (r:=r) (kd:=kd) (l:=(l.map fun (j:Nat)=>W2.rt (j:Int))) (tv:=.slice vo4 (W2.T.length+1) vc4) (fv:=.slice fo l.length fc) (fo:=fo) (fc:=fc) (cs:=cs) (by rw [hlen]) (by simpa using HP4.out.aO 0 (.slice vo4 (W2.T.length+1) vc4)) RT.out (by rw [hlen];exact TS4.out.ae hset (fun b hb e=>by obtain ⟨_,c,hc⟩:=TS4.out.own hb;exact hnp hc (by decide) e))
     (by rw [ERV.out,HRL.out];exact RS4.out.ae hset (fun b hb e=>by obtain ⟨_,c,hc⟩:=RS4.out.own hb;exact hnp hc (by decide) e)) (by rw [hlen];exact FS4.out.ae hset (fun b hb e=>by obtain ⟨_,c,hc⟩:=FS4.out.own hb;exact hnp hc (by decide) e))
     (fun b hb=>by have:=FO.out b hb;rw [HTB.out];omega) (K14.out.then hset (fun b hb=>.inl (.inr (.inr hb)))) O4.out HPO.out
    have:=aK.step EP.out K2.out O2.out hput
    first | exact this | exact this.to_same (ab.refl _ _).drew | skip
end
end
section
open Go.RowKit
section
variable {w:World} {h:RW} {W:Wd}
theorem yD (xk xr xa xb xi xn:Int) (H:aZ w h W) (hbad:¬ aX ⟨xk,xr,xa,xb,xi,xn⟩=0) :
  Calls Tryz.prog 33 #[.pointer (some ⟨h.p,0,none⟩), .agg #[.int .i64 xk, .int .i64 xr, .int .i64 xa, .int .i64 xb, .int .i64 xi, .int .i64 xn]] w fun e w'=>e=.returned (.int .i64 (W.do ⟨xk,xr,xa,xb,xi,xn⟩).1)∧aK w h w' (W.do ⟨xk,xr,xa,xb,xi,xn⟩).2:=by
 have HBD:=Hz hbad;clear hbad;have HH:=Hz H;have aw:ah (w.alloc (.cells #[.int .i64 xk, .int .i64 xr, .int .i64 xa, .int .i64 xb, .int .i64 xi, .int .i64 xn] 69)) w.heap.size [.int .i64 xk, .int .i64 xr, .int .i64 xa, .int .i64 xb, .int .i64 xi, .int .i64 xn] 69:=ah.newAt _ rfl rfl;have HB:=Hz aw;have KA:=Hz ((Kz w).alloc (.cells #[.int .i64 xk, .int .i64 xr, .int .i64 xa, .int .i64 xb, .int .i64 xi, .int .i64 xn] 69));have s0:=aw.cell 0;have s1:=aw.cell 1;have s2:=aw.cell 2;have s3:=aw.cell 3;have s4:=aw.cell 4;have s5:=aw.cell 5;simp only [Lz,Ls] at s0 s1 s2 s3 s4 s5;have HSF:=Hz (fun w=>cj ⟨xk,xr,xa,xb,xi,xn⟩ w);obtain ⟨c,hc⟩:∃ c,aX ⟨xk,xr,xa,xb,xi,xn⟩=c:=⟨_,rfl⟩;rw [hc] at HSF;have HC:=Hz hc;clear H aw hc;go_enter Tryz.func33,Tryz.ntmps33;go_wp2_with (refine aV rfl 69 (.tmp 3) rfl [.int .i64 xk, .int .i64 xr, .int .i64 xa, .int .i64 xb, .int .i64 xi, .int .i64 xn] (by kernel_rfl) w.heap.size 0 rfl (aa s0 (aa s1 (aa s2 (aa s3 (aa s4 (aa s5 aQ)))))) ?_);refine (HSF.out _).mono ?_;rintro e w1 ⟨rfl,hk⟩;have H1:=Hz ((HH.out.same KA.out).same hk);have K1:=Hz (KA.out.trans hk);have B1:=Hz (hk.ak HB.out (fun h=>h));clear hk s0 s1 s2 s3 s4 s5 HSF KA HB;generalize w.heap.size=sb at *;have s0:=B1.out.cell 0;have s1:=B1.out.cell 1;have s2:=B1.out.cell 2;have s3:=B1.out.cell 3;have s4:=B1.out.cell 4;have s5:=B1.out.cell 5;have sl:=B1.out.lt;simp only [Lz,Ls] at s0 s1 s2 s3 s4 s5;by_cases h0:¬ c=0
 ·have HE:=Hz (fj (W:=W) HC.out h0);have hd:(c != 0)=true:=by simpa using h0
  clear h0;go_wp2_with fail;go_ret;exact ⟨by rw [HE.out];rfl,by rw [HE.out];exact aK.same HH.out K1.out⟩
 have h0:c=0:=Classical.not_not.1 h0;subst h0;exact (HBD.out HC.out).elim
theorem wZ (xr xa xb xi xn:Int) (H:aZ w h W) :
  Calls Tryz.prog 33 #[.pointer (some ⟨h.p,0,none⟩), .agg #[.int .i64 3, .int .i64 xr, .int .i64 xa, .int .i64 xb, .int .i64 xi, .int .i64 xn]] w fun e w'=>e=.returned (.int .i64 (W.do ⟨3,xr,xa,xb,xi,xn⟩).1)∧aK w h w' (W.do ⟨3,xr,xa,xb,xi,xn⟩).2:=by
 have HH:=Hz H;have aw:ah (w.alloc (.cells #[.int .i64 3, .int .i64 xr, .int .i64 xa, .int .i64 xb, .int .i64 xi, .int .i64 xn] 69)) w.heap.size [.int .i64 3, .int .i64 xr, .int .i64 xa, .int .i64 xb, .int .i64 xi, .int .i64 xn] 69:=ah.newAt _ rfl rfl;have HB:=Hz aw;have KA:=Hz ((Kz w).alloc (.cells #[.int .i64 3, .int .i64 xr, .int .i64 xa, .int .i64 xb, .int .i64 xi, .int .i64 xn] 69));have s0:=aw.cell 0;have s1:=aw.cell 1;have s2:=aw.cell 2;have s3:=aw.cell 3;have s4:=aw.cell 4;have s5:=aw.cell 5;simp only [Lz,Ls] at s0 s1 s2 s3 s4 s5;have HSF:=Hz (fun w=>cj ⟨3,xr,xa,xb,xi,xn⟩ w);obtain ⟨c,hc⟩:∃ c,aX ⟨3,xr,xa,xb,xi,xn⟩=c:=⟨_,rfl⟩;rw [hc] at HSF;have HC:=Hz hc;clear H aw hc;go_enter Tryz.func33,Tryz.ntmps33;go_wp2_with (refine aV rfl 69 (.tmp 3) rfl [.int .i64 3, .int .i64 xr, .int .i64 xa, .int .i64 xb, .int .i64 xi, .int .i64 xn] (by kernel_rfl) w.heap.size 0 rfl (aa s0 (aa s1 (aa s2 (aa s3 (aa s4 (aa s5 aQ)))))) ?_);refine (HSF.out _).mono ?_;rintro e w1 ⟨rfl,hk⟩;have H1:=Hz ((HH.out.same KA.out).same hk);have K1:=Hz (KA.out.trans hk);have B1:=Hz (hk.ak HB.out (fun h=>h));clear hk s0 s1 s2 s3 s4 s5 HSF KA HB;generalize w.heap.size=sb at *;have s0:=B1.out.cell 0;have s1:=B1.out.cell 1;have s2:=B1.out.cell 2;have s3:=B1.out.cell 3;have s4:=B1.out.cell 4;have s5:=B1.out.cell 5;have sl:=B1.out.lt;simp only [Lz,Ls] at s0 s1 s2 s3 s4 s5;by_cases h0:¬ c=0
 ·have HE:=Hz (fj (W:=W) HC.out h0);have hd:(c != 0)=true:=by simpa using h0
  clear h0;go_wp2_with fail;go_ret;exact ⟨by rw [HE.out];rfl,by rw [HE.out];exact aK.same HH.out K1.out⟩
 have h0:c=0:=Classical.not_not.1 h0;subst h0;have hr:0≤xr∧xr<12:=(aN _).1 ((aI HC.out).2.1 (show aR 3%2=1 by decide));obtain ⟨r,rfl⟩:∃ r:Nat,xr=r:=⟨xr.toNat,by omega⟩;have hr12:r<12:=by omega
 clear hr;have ha:0≤xa∧xa<12:=(aN _).1 ((aI HC.out).2.2.1 (show aR 3/2%2=1 by decide));obtain ⟨a,rfl⟩:∃ a:Nat,xa=a:=⟨xa.toNat,by omega⟩;have ha12:a<12:=by omega
 clear ha;obtain ⟨g,o,rc,erv,hg,-,-⟩:=H1.out.root hr12;have hrl:W.roots.length=12:=H1.out.ok.hr;obtain ⟨-,c1,-,-,-,-⟩:=H1.out.cells;have hrs:=H1.out.hr;rw [erv,hrl] at c1 hrs;have RS:=Hz hrs;have ERV:=Hz erv;have HRL:=Hz hrl;have h12:(r:Int)<12:=by omega
 clear erv hrl hrs;have pl:=H1.out.hp.lt;obtain ⟨g',o',rc',erv',hg',a0,a1⟩:=H1.out.root ha12;rw [ERV.out] at erv';cases erv';have ha12i:(a:Int)<12:=by omega
 have HE:=Hz (show W.do ⟨3,r,a,xb,xi,xn⟩=(0,W.cB r (W.rt a)) by rw [cD HC.out];rfl);have HV:=Hz (Wd.g5 H1.out.ok (a:Int));generalize W.rt (a:Int)=v at *;obtain ⟨v1,v2⟩:=v;dsimp only at a0 a1;go_wp2_with fail;refine ay (.free 0 (.free 1 (.free 2 (.free 4 (.free 6 (.free 7 (.free 8 (.free 10 (.pure 3 (.pure 5 (.pure 9 (.pure 11 (.free 12 (.pure 13 (.free 14 (.run 15 (.swi [] (.fin)))))))))))))))))) [15] (fun w'=>w'.cell? ⟨h.p,1,none⟩=some (.slice (some ⟨g,o,none⟩) 12 rc)∧w'.cell? ⟨sb,1,none⟩=some (.int .i64 r)∧w'.cell? ⟨sb,2,none⟩=some (.int .i64 a)∧w'.cell? ⟨g,o+a*2,none⟩=some (.int .i64 v1)∧w'.cell? ⟨g,o+a*2+1,none⟩=some (.int .i64 v2)) (by kernel_rfl) (by kernel_rfl) ⟨c1,s1,s2,a0,a1⟩ ?_
 iterate 15 ((first | refine au rfl rfl fun K hK=>?_ | refine aq rfl rfl fun K hK=>?_ | refine aF rfl rfl fun K hK=>?_ | refine az rfl rfl fun K hK=>?_ | refine aE rfl rfl fun K hK=>?_);go_simp;refine hK _ ?_;clear hK K)
 refine aJ rfl rfl rfl (fun K hK=>?_);refine cr 96 (.tmp 61) (.tmp 60) rfl rfl g o 12 rc r (aA W.roots) 96 (.int .i64 (v1)) (.int .i64 (v2)) rfl rfl (RS.out.ae (Kz w1).drew (fun _ _ h=>h)) hr12 (by kernel_rfl) rfl rfl ?_;intro w3 hs3 hk3 hz3;refine hK _ _ ?_;clear hK K;refine aH (fun _=>True) trivial (aB ?_);have hkw:ab (·=g) w1 w3:=((Kz w1).drew.mono (fun _ _ h=>h.elim)).trans hk3;have TO:=Hz (aK.aW K1.out (H1.out.fN (w':=w3) (by rw [ERV.out]) hr12 HV.out (by rw [HRL.out];exact hs3) hkw));clear hkw hs3 hk3 hz3;clear c1 s1 s0 s2 s3 s4 s5 sl a0 a1;go_wp2_with fail;go_ret;exact ⟨by rw [HE.out];rfl,by rw [HE.out];exact TO.out⟩
theorem xd (xr xa xb xi xn:Int) (H:aZ w h W) (hT:W.T.length≤90000) :
  Calls Tryz.prog 33 #[.pointer (some ⟨h.p,0,none⟩), .agg #[.int .i64 4, .int .i64 xr, .int .i64 xa, .int .i64 xb, .int .i64 xi, .int .i64 xn]] w fun e w'=>e=.returned (.int .i64 (W.do ⟨4,xr,xa,xb,xi,xn⟩).1)∧aK w h w' (W.do ⟨4,xr,xa,xb,xi,xn⟩).2:=by
 have HH:=Hz H;have aw:ah (w.alloc (.cells #[.int .i64 4, .int .i64 xr, .int .i64 xa, .int .i64 xb, .int .i64 xi, .int .i64 xn] 69)) w.heap.size [.int .i64 4, .int .i64 xr, .int .i64 xa, .int .i64 xb, .int .i64 xi, .int .i64 xn] 69:=ah.newAt _ rfl rfl;have HB:=Hz aw;have KA:=Hz ((Kz w).alloc (.cells #[.int .i64 4, .int .i64 xr, .int .i64 xa, .int .i64 xb, .int .i64 xi, .int .i64 xn] 69));have s0:=aw.cell 0;have s1:=aw.cell 1;have s2:=aw.cell 2;have s3:=aw.cell 3;have s4:=aw.cell 4;have s5:=aw.cell 5;simp only [Lz,Ls] at s0 s1 s2 s3 s4 s5;have HSF:=Hz (fun w=>cj ⟨4,xr,xa,xb,xi,xn⟩ w);obtain ⟨c,hc⟩:∃ c,aX ⟨4,xr,xa,xb,xi,xn⟩=c:=⟨_,rfl⟩;rw [hc] at HSF;have HC:=Hz hc;clear H aw hc;go_enter Tryz.func33,Tryz.ntmps33;go_wp2_with (refine aV rfl 69 (.tmp 3) rfl [.int .i64 4, .int .i64 xr, .int .i64 xa, .int .i64 xb, .int .i64 xi, .int .i64 xn] (by kernel_rfl) w.heap.size 0 rfl (aa s0 (aa s1 (aa s2 (aa s3 (aa s4 (aa s5 aQ)))))) ?_);refine (HSF.out _).mono ?_;rintro e w1 ⟨rfl,hk⟩;have H1:=Hz ((HH.out.same KA.out).same hk);have K1:=Hz (KA.out.trans hk);have B1:=Hz (hk.ak HB.out (fun h=>h));clear hk s0 s1 s2 s3 s4 s5 HSF KA HB;generalize w.heap.size=sb at *;have s0:=B1.out.cell 0;have s1:=B1.out.cell 1;have s2:=B1.out.cell 2;have s3:=B1.out.cell 3;have s4:=B1.out.cell 4;have s5:=B1.out.cell 5;have sl:=B1.out.lt;simp only [Lz,Ls] at s0 s1 s2 s3 s4 s5;by_cases h0:¬ c=0
 ·have HE:=Hz (fj (W:=W) HC.out h0);have hd:(c != 0)=true:=by simpa using h0
  clear h0;go_wp2_with fail;go_ret;exact ⟨by rw [HE.out];rfl,by rw [HE.out];exact aK.same HH.out K1.out⟩
 have h0:c=0:=Classical.not_not.1 h0;subst h0;have hr:0≤xr∧xr<12:=(aN _).1 ((aI HC.out).2.1 (show aR 4%2=1 by decide));obtain ⟨r,rfl⟩:∃ r:Nat,xr=r:=⟨xr.toNat,by omega⟩;have hr12:r<12:=by omega
 clear hr;have ha:0≤xa∧xa<12:=(aN _).1 ((aI HC.out).2.2.1 (show aR 4/2%2=1 by decide));obtain ⟨a,rfl⟩:∃ a:Nat,xa=a:=⟨xa.toNat,by omega⟩;have ha12:a<12:=by omega
 clear ha;have hb:0≤xb∧xb<12:=(aN _).1 ((aI HC.out).2.2.2.1 (show aR 4/4%2=1 by decide));obtain ⟨b,rfl⟩:∃ b:Nat,xb=b:=⟨xb.toNat,by omega⟩;have hb12:b<12:=by omega
 clear hb;have HE:=Hz (show W.do ⟨4,r,a,b,xi,xn⟩=W.bR r 1 ([a,b].map fun (k:Nat)=>(k:Int)) by rw [cD HC.out];rfl);have ka:=(Kz w1).alloc (.cells #[.int .i64 a, .int .i64 b] 3);have hbl:ah (w1.alloc (.cells #[.int .i64 a, .int .i64 b] 3)) w1.heap.size [.int .i64 a, .int .i64 b] 3:=ah.newAt _ rfl rfl;have hmk:=nD r 1 [a,b] (some ⟨w1.heap.size,0,none⟩) 2 (H1.out.same ka) hT hr12 (by intro k hk;simp at hk;omega) (show bs 1 2=true by decide) ⟨rfl, .inr ⟨w1.heap.size,0,2,_,rfl,hbl,by simp,by decide,by simp,rfl⟩⟩;have HMK:=Hz hmk;have HKA:=Hz ka;have pl:=H1.out.hp.lt;clear ka hbl hmk;go_wp2_with fail;refine HMK.out.mono ?_;rintro e w3 ⟨rfl,ht⟩;have TO:=Hz (aK.aW (K1.out.trans HKA.out) ht);clear ht s0 s1 s2 s3 s4 s5 sl pl;go_wp2_with fail;go_ret;exact ⟨by rw [HE.out];rfl,by rw [HE.out];exact TO.out⟩
theorem xg (xr xa xb xi xn:Int) (H:aZ w h W) (hT:W.T.length≤90000) :
  Calls Tryz.prog 33 #[.pointer (some ⟨h.p,0,none⟩), .agg #[.int .i64 6, .int .i64 xr, .int .i64 xa, .int .i64 xb, .int .i64 xi, .int .i64 xn]] w fun e w'=>e=.returned (.int .i64 (W.do ⟨6,xr,xa,xb,xi,xn⟩).1)∧aK w h w' (W.do ⟨6,xr,xa,xb,xi,xn⟩).2:=by
 have HH:=Hz H;have aw:ah (w.alloc (.cells #[.int .i64 6, .int .i64 xr, .int .i64 xa, .int .i64 xb, .int .i64 xi, .int .i64 xn] 69)) w.heap.size [.int .i64 6, .int .i64 xr, .int .i64 xa, .int .i64 xb, .int .i64 xi, .int .i64 xn] 69:=ah.newAt _ rfl rfl;have HB:=Hz aw;have KA:=Hz ((Kz w).alloc (.cells #[.int .i64 6, .int .i64 xr, .int .i64 xa, .int .i64 xb, .int .i64 xi, .int .i64 xn] 69));have s0:=aw.cell 0;have s1:=aw.cell 1;have s2:=aw.cell 2;have s3:=aw.cell 3;have s4:=aw.cell 4;have s5:=aw.cell 5;simp only [Lz,Ls] at s0 s1 s2 s3 s4 s5;have HSF:=Hz (fun w=>cj ⟨6,xr,xa,xb,xi,xn⟩ w);obtain ⟨c,hc⟩:∃ c,aX ⟨6,xr,xa,xb,xi,xn⟩=c:=⟨_,rfl⟩;rw [hc] at HSF;have HC:=Hz hc;clear H aw hc;go_enter Tryz.func33,Tryz.ntmps33;go_wp2_with (refine aV rfl 69 (.tmp 3) rfl [.int .i64 6, .int .i64 xr, .int .i64 xa, .int .i64 xb, .int .i64 xi, .int .i64 xn] (by kernel_rfl) w.heap.size 0 rfl (aa s0 (aa s1 (aa s2 (aa s3 (aa s4 (aa s5 aQ)))))) ?_);refine (HSF.out _).mono ?_;rintro e w1 ⟨rfl,hk⟩;have H1:=Hz ((HH.out.same KA.out).same hk);have K1:=Hz (KA.out.trans hk);have B1:=Hz (hk.ak HB.out (fun h=>h));clear hk s0 s1 s2 s3 s4 s5 HSF KA HB;generalize w.heap.size=sb at *;have s0:=B1.out.cell 0;have s1:=B1.out.cell 1;have s2:=B1.out.cell 2;have s3:=B1.out.cell 3;have s4:=B1.out.cell 4;have s5:=B1.out.cell 5;have sl:=B1.out.lt;simp only [Lz,Ls] at s0 s1 s2 s3 s4 s5;by_cases h0:¬ c=0
 ·have HE:=Hz (fj (W:=W) HC.out h0);have hd:(c != 0)=true:=by simpa using h0
  clear h0;go_wp2_with fail;go_ret;exact ⟨by rw [HE.out];rfl,by rw [HE.out];exact aK.same HH.out K1.out⟩
 have h0:c=0:=Classical.not_not.1 h0;subst h0;have hr:0≤xr∧xr<12:=(aN _).1 ((aI HC.out).2.1 (show aR 6%2=1 by decide));obtain ⟨r,rfl⟩:∃ r:Nat,xr=r:=⟨xr.toNat,by omega⟩;have hr12:r<12:=by omega
 clear hr;have ha:0≤xa∧xa<12:=(aN _).1 ((aI HC.out).2.2.1 (show aR 6/2%2=1 by decide));obtain ⟨a,rfl⟩:∃ a:Nat,xa=a:=⟨xa.toNat,by omega⟩;have ha12:a<12:=by omega
 clear ha;have hb:0≤xb∧xb<12:=(aN _).1 ((aI HC.out).2.2.2.1 (show aR 6/4%2=1 by decide));obtain ⟨b,rfl⟩:∃ b:Nat,xb=b:=⟨xb.toNat,by omega⟩;have hb12:b<12:=by omega
 clear hb;have HE:=Hz (show W.do ⟨6,r,a,b,xi,xn⟩=W.bR r 3 ([a,b].map fun (k:Nat)=>(k:Int)) by rw [cD HC.out];rfl);have ka:=(Kz w1).alloc (.cells #[.int .i64 a, .int .i64 b] 3);have hbl:ah (w1.alloc (.cells #[.int .i64 a, .int .i64 b] 3)) w1.heap.size [.int .i64 a, .int .i64 b] 3:=ah.newAt _ rfl rfl;have hmk:=nD r 3 [a,b] (some ⟨w1.heap.size,0,none⟩) 2 (H1.out.same ka) hT hr12 (by intro k hk;simp at hk;omega) (show bs 3 2=true by decide) ⟨rfl, .inr ⟨w1.heap.size,0,2,_,rfl,hbl,by simp,by decide,by simp,rfl⟩⟩;have HMK:=Hz hmk;have HKA:=Hz ka;have pl:=H1.out.hp.lt;clear ka hbl hmk;go_wp2_with fail;refine HMK.out.mono ?_;rintro e w3 ⟨rfl,ht⟩;have TO:=Hz (aK.aW (K1.out.trans HKA.out) ht);clear ht s0 s1 s2 s3 s4 s5 sl pl;go_wp2_with fail;go_ret;exact ⟨by rw [HE.out];rfl,by rw [HE.out];exact TO.out⟩
theorem vE (xr xa xb xi xn:Int) (H:aZ w h W) (hT:W.T.length≤90000) :
  Calls Tryz.prog 33 #[.pointer (some ⟨h.p,0,none⟩), .agg #[.int .i64 7, .int .i64 xr, .int .i64 xa, .int .i64 xb, .int .i64 xi, .int .i64 xn]] w fun e w'=>e=.returned (.int .i64 (W.do ⟨7,xr,xa,xb,xi,xn⟩).1)∧aK w h w' (W.do ⟨7,xr,xa,xb,xi,xn⟩).2:=by
 have HH:=Hz H;have aw:ah (w.alloc (.cells #[.int .i64 7, .int .i64 xr, .int .i64 xa, .int .i64 xb, .int .i64 xi, .int .i64 xn] 69)) w.heap.size [.int .i64 7, .int .i64 xr, .int .i64 xa, .int .i64 xb, .int .i64 xi, .int .i64 xn] 69:=ah.newAt _ rfl rfl;have HB:=Hz aw;have KA:=Hz ((Kz w).alloc (.cells #[.int .i64 7, .int .i64 xr, .int .i64 xa, .int .i64 xb, .int .i64 xi, .int .i64 xn] 69));have s0:=aw.cell 0;have s1:=aw.cell 1;have s2:=aw.cell 2;have s3:=aw.cell 3;have s4:=aw.cell 4;have s5:=aw.cell 5;simp only [Lz,Ls] at s0 s1 s2 s3 s4 s5;have HSF:=Hz (fun w=>cj ⟨7,xr,xa,xb,xi,xn⟩ w);obtain ⟨c,hc⟩:∃ c,aX ⟨7,xr,xa,xb,xi,xn⟩=c:=⟨_,rfl⟩;rw [hc] at HSF;have HC:=Hz hc;clear H aw hc;go_enter Tryz.func33,Tryz.ntmps33;go_wp2_with (refine aV rfl 69 (.tmp 3) rfl [.int .i64 7, .int .i64 xr, .int .i64 xa, .int .i64 xb, .int .i64 xi, .int .i64 xn] (by kernel_rfl) w.heap.size 0 rfl (aa s0 (aa s1 (aa s2 (aa s3 (aa s4 (aa s5 aQ)))))) ?_);refine (HSF.out _).mono ?_;rintro e w1 ⟨rfl,hk⟩;have H1:=Hz ((HH.out.same KA.out).same hk);have K1:=Hz (KA.out.trans hk);have B1:=Hz (hk.ak HB.out (fun h=>h));clear hk s0 s1 s2 s3 s4 s5 HSF KA HB;generalize w.heap.size=sb at *;have s0:=B1.out.cell 0;have s1:=B1.out.cell 1;have s2:=B1.out.cell 2;have s3:=B1.out.cell 3;have s4:=B1.out.cell 4;have s5:=B1.out.cell 5;have sl:=B1.out.lt;simp only [Lz,Ls] at s0 s1 s2 s3 s4 s5;by_cases h0:¬ c=0
 ·have HE:=Hz (fj (W:=W) HC.out h0);have hd:(c != 0)=true:=by simpa using h0
  clear h0;go_wp2_with fail;go_ret;exact ⟨by rw [HE.out];rfl,by rw [HE.out];exact aK.same HH.out K1.out⟩
 have h0:c=0:=Classical.not_not.1 h0;subst h0;have hr:0≤xr∧xr<12:=(aN _).1 ((aI HC.out).2.1 (show aR 7%2=1 by decide));obtain ⟨r,rfl⟩:∃ r:Nat,xr=r:=⟨xr.toNat,by omega⟩;have hr12:r<12:=by omega
 clear hr;have ha:0≤xa∧xa<12:=(aN _).1 ((aI HC.out).2.2.1 (show aR 7/2%2=1 by decide));obtain ⟨a,rfl⟩:∃ a:Nat,xa=a:=⟨xa.toNat,by omega⟩;have ha12:a<12:=by omega
 clear ha;have hb:0≤xb∧xb<12:=(aN _).1 ((aI HC.out).2.2.2.1 (show aR 7/4%2=1 by decide));obtain ⟨b,rfl⟩:∃ b:Nat,xb=b:=⟨xb.toNat,by omega⟩;have hb12:b<12:=by omega
 clear hb;have HE:=Hz (show W.do ⟨7,r,a,b,xi,xn⟩=W.bR r 4 ([a,b].map fun (k:Nat)=>(k:Int)) by rw [cD HC.out];rfl);have ka:=(Kz w1).alloc (.cells #[.int .i64 a, .int .i64 b] 3);have hbl:ah (w1.alloc (.cells #[.int .i64 a, .int .i64 b] 3)) w1.heap.size [.int .i64 a, .int .i64 b] 3:=ah.newAt _ rfl rfl;have hmk:=nD r 4 [a,b] (some ⟨w1.heap.size,0,none⟩) 2 (H1.out.same ka) hT hr12 (by intro k hk;simp at hk;omega) (show bs 4 2=true by decide) ⟨rfl, .inr ⟨w1.heap.size,0,2,_,rfl,hbl,by simp,by decide,by simp,rfl⟩⟩;have HMK:=Hz hmk;have HKA:=Hz ka;have pl:=H1.out.hp.lt;clear ka hbl hmk;go_wp2_with fail;refine HMK.out.mono ?_;rintro e w3 ⟨rfl,ht⟩;have TO:=Hz (aK.aW (K1.out.trans HKA.out) ht);clear ht s0 s1 s2 s3 s4 s5 sl pl;go_wp2_with fail;go_ret;exact ⟨by rw [HE.out];rfl,by rw [HE.out];exact TO.out⟩
theorem vF (xr xa xb xi xn:Int) (H:aZ w h W) (hT:W.T.length≤90000) :
  Calls Tryz.prog 33 #[.pointer (some ⟨h.p,0,none⟩), .agg #[.int .i64 8, .int .i64 xr, .int .i64 xa, .int .i64 xb, .int .i64 xi, .int .i64 xn]] w fun e w'=>e=.returned (.int .i64 (W.do ⟨8,xr,xa,xb,xi,xn⟩).1)∧aK w h w' (W.do ⟨8,xr,xa,xb,xi,xn⟩).2:=by
 have HH:=Hz H;have aw:ah (w.alloc (.cells #[.int .i64 8, .int .i64 xr, .int .i64 xa, .int .i64 xb, .int .i64 xi, .int .i64 xn] 69)) w.heap.size [.int .i64 8, .int .i64 xr, .int .i64 xa, .int .i64 xb, .int .i64 xi, .int .i64 xn] 69:=ah.newAt _ rfl rfl;have HB:=Hz aw;have KA:=Hz ((Kz w).alloc (.cells #[.int .i64 8, .int .i64 xr, .int .i64 xa, .int .i64 xb, .int .i64 xi, .int .i64 xn] 69));have s0:=aw.cell 0;have s1:=aw.cell 1;have s2:=aw.cell 2;have s3:=aw.cell 3;have s4:=aw.cell 4;have s5:=aw.cell 5;simp only [Lz,Ls] at s0 s1 s2 s3 s4 s5;have HSF:=Hz (fun w=>cj ⟨8,xr,xa,xb,xi,xn⟩ w);obtain ⟨c,hc⟩:∃ c,aX ⟨8,xr,xa,xb,xi,xn⟩=c:=⟨_,rfl⟩;rw [hc] at HSF;have HC:=Hz hc;clear H aw hc;go_enter Tryz.func33,Tryz.ntmps33;go_wp2_with (refine aV rfl 69 (.tmp 3) rfl [.int .i64 8, .int .i64 xr, .int .i64 xa, .int .i64 xb, .int .i64 xi, .int .i64 xn] (by kernel_rfl) w.heap.size 0 rfl (aa s0 (aa s1 (aa s2 (aa s3 (aa s4 (aa s5 aQ)))))) ?_);refine (HSF.out _).mono ?_;rintro e w1 ⟨rfl,hk⟩;have H1:=Hz ((HH.out.same KA.out).same hk);have K1:=Hz (KA.out.trans hk);have B1:=Hz (hk.ak HB.out (fun h=>h));clear hk s0 s1 s2 s3 s4 s5 HSF KA HB;generalize w.heap.size=sb at *;have s0:=B1.out.cell 0;have s1:=B1.out.cell 1;have s2:=B1.out.cell 2;have s3:=B1.out.cell 3;have s4:=B1.out.cell 4;have s5:=B1.out.cell 5;have sl:=B1.out.lt;simp only [Lz,Ls] at s0 s1 s2 s3 s4 s5;by_cases h0:¬ c=0
 ·have HE:=Hz (fj (W:=W) HC.out h0);have hd:(c != 0)=true:=by simpa using h0
  clear h0;go_wp2_with fail;go_ret;exact ⟨by rw [HE.out];rfl,by rw [HE.out];exact aK.same HH.out K1.out⟩
 have h0:c=0:=Classical.not_not.1 h0;subst h0;have hr:0≤xr∧xr<12:=(aN _).1 ((aI HC.out).2.1 (show aR 8%2=1 by decide));obtain ⟨r,rfl⟩:∃ r:Nat,xr=r:=⟨xr.toNat,by omega⟩;have hr12:r<12:=by omega
 clear hr;have HE:=Hz (show W.do ⟨8,r,xa,xb,xi,xn⟩=W.bR r 5 (([]:List Nat).map fun (k:Nat)=>(k:Int)) by rw [cD HC.out];rfl);have HMK:=Hz (nD r 5 [] none 0 H1.out hT hr12 (by intro k hk;cases hk) (show bs 5 0=true by decide) (Sl.nil _ _ _));have pl:=H1.out.hp.lt;go_wp2_with fail;refine HMK.out.mono ?_;rintro e w3 ⟨rfl,ht⟩;have TO:=Hz (aK.aW K1.out ht);clear ht s0 s1 s2 s3 s4 s5 sl pl;go_wp2_with fail;go_ret;exact ⟨by rw [HE.out];rfl,by rw [HE.out];exact TO.out⟩
theorem yE (xr xa xb xi xn:Int) (H:aZ w h W) (hT:W.T.length≤90000) :
  Calls Tryz.prog 33 #[.pointer (some ⟨h.p,0,none⟩), .agg #[.int .i64 5, .int .i64 xr, .int .i64 xa, .int .i64 xb, .int .i64 xi, .int .i64 xn]] w fun e w'=>e=.returned (.int .i64 (W.do ⟨5,xr,xa,xb,xi,xn⟩).1)∧aK w h w' (W.do ⟨5,xr,xa,xb,xi,xn⟩).2:=by
 obtain ⟨i0,hi,hz0,hz1,hz2⟩:=info_parts jv;have Hi:=Hz hi;have Hz0:=Hz hz0;have Hz1:=Hz hz1;have Hz2:=Hz hz2;clear hi hz0 hz1 hz2;have HH:=Hz H;have aw:ah (w.alloc (.cells #[.int .i64 5, .int .i64 xr, .int .i64 xa, .int .i64 xb, .int .i64 xi, .int .i64 xn] 69)) w.heap.size [.int .i64 5, .int .i64 xr, .int .i64 xa, .int .i64 xb, .int .i64 xi, .int .i64 xn] 69:=ah.newAt _ rfl rfl;have HB:=Hz aw;have KA:=Hz ((Kz w).alloc (.cells #[.int .i64 5, .int .i64 xr, .int .i64 xa, .int .i64 xb, .int .i64 xi, .int .i64 xn] 69));have s0:=aw.cell 0;have s1:=aw.cell 1;have s2:=aw.cell 2;have s3:=aw.cell 3;have s4:=aw.cell 4;have s5:=aw.cell 5;simp only [Lz,Ls] at s0 s1 s2 s3 s4 s5;have HSF:=Hz (fun w=>cj ⟨5,xr,xa,xb,xi,xn⟩ w);obtain ⟨c,hc⟩:∃ c,aX ⟨5,xr,xa,xb,xi,xn⟩=c:=⟨_,rfl⟩;rw [hc] at HSF;have HC:=Hz hc;clear H aw hc;go_enter Tryz.func33,Tryz.ntmps33;go_wp2_with (refine aV rfl 69 (.tmp 3) rfl [.int .i64 5, .int .i64 xr, .int .i64 xa, .int .i64 xb, .int .i64 xi, .int .i64 xn] (by kernel_rfl) w.heap.size 0 rfl (aa s0 (aa s1 (aa s2 (aa s3 (aa s4 (aa s5 aQ)))))) ?_);refine (HSF.out _).mono ?_;rintro e w1 ⟨rfl,hk⟩;have H1:=Hz ((HH.out.same KA.out).same hk);have K1:=Hz (KA.out.trans hk);have B1:=Hz (hk.ak HB.out (fun h=>h));clear hk s0 s1 s2 s3 s4 s5 HSF KA HB;generalize w.heap.size=sb at *;have s0:=B1.out.cell 0;have s1:=B1.out.cell 1;have s2:=B1.out.cell 2;have s3:=B1.out.cell 3;have s4:=B1.out.cell 4;have s5:=B1.out.cell 5;have sl:=B1.out.lt;simp only [Lz,Ls] at s0 s1 s2 s3 s4 s5;by_cases h0:¬ c=0
 ·have HE:=Hz (fj (W:=W) HC.out h0);have hd:(c != 0)=true:=by simpa using h0
  clear h0;go_wp2_with fail;go_ret;exact ⟨by rw [HE.out];rfl,by rw [HE.out];exact aK.same HH.out K1.out⟩
 have h0:c=0:=Classical.not_not.1 h0;subst h0;have hr:0≤xr∧xr<12:=(aN _).1 ((aI HC.out).2.1 (show aR 5%2=1 by decide));obtain ⟨r,rfl⟩:∃ r:Nat,xr=r:=⟨xr.toNat,by omega⟩;have hr12:r<12:=by omega
 clear hr;have ha:0≤xa∧xa<12:=(aN _).1 ((aI HC.out).2.2.1 (show aR 5/2%2=1 by decide));obtain ⟨a,rfl⟩:∃ a:Nat,xa=a:=⟨xa.toNat,by omega⟩;have ha12:a<12:=by omega
 clear ha;have hn:0≤xn∧xn≤12:=(aI HC.out).2.2.2.2.2 rfl;obtain ⟨n,rfl⟩:∃ n:Nat,xn=n:=⟨xn.toNat,by omega⟩;have HE:=Hz (show W.do ⟨5,r,a,xb,xi,n⟩=W.bR r 2 (List.replicate n (a:Int)) by rw [cD HC.out];rfl);go_wp2_with fail;go_loopw [7,8] (fun v q wr=>∃ (ao:Option Addr) (cap k:Nat),v=.slice ao k cap∧k≤n∧q=.int .i64 k∧Sl wr 3 1 (.slice ao k cap) k (List.replicate k (Value.int .i64 (a:Int)))∧ab (fun _=>False) w1 wr∧∀ b,ai (.slice ao k cap) b→w1.heap.size≤b) (fun _ q _=>n-(intOf q).toNat)
 case atStart=>exact ⟨none,0,0,rfl,Nat.zero_le _,rfl,Sl.nil _ _ _,ab.refl _ _,fun k hk=>(bM hk).elim⟩
 case round=>
  obtain ⟨ao,cap,k,rfl,hk,rfl,hs,hK,ho⟩:=hrel;have SR:=Hz hs;have KR:=Hz hK;have HO:=Hz ho;have SBR:=Hz (hK.ak B1.out (fun h=>h));clear hs hK ho s0 s1 s2 s3 s4 s5 sl;have s1:=SBR.out.cell 1;have s2:=SBR.out.cell 2;have s5:=SBR.out.cell 5;have sl:=SBR.out.lt;simp only [Lz,Ls] at s1 s2 s5;by_cases hlt:k<n
  ·have hki:(k:Int)<n:=by omega
   go_wp2_with (at_builtin;refine bN rfl (.tmp 109) (.tmp 112) 83 rfl 3 i0 (.int .i64 0) 1 8 Tryz.underlying83 Hi.out Hz0.out Hz1.out Hz2.out rfl (by decide) _ k _ rfl (SR.out.ae ((Kz wr).alloc _) (fun _ _ h=>h)) ⟨wr.heap.size,0,none⟩ 1 1 [.int .i64 a] rfl rfl (bW wr 3 #[.int .i64 a]) (by intro u hu;simp at hu;subst hu;rfl) (by unfold maxLen;omega) (by omega) ?_);intro v5 w5 hs5 hk5 ho5;have K5:=Hz ((KR.out.alloc (.cells #[.int .i64 a] 3)).then hk5 (fun b hb=>.inr (HO.out b hb)));have O5:=Hz (show ∀ b,ai v5 b→w1.heap.size≤b from fun b hb=>by
    rcases ho5 b hb with h1 | h1
    ·exact HO.out b h1
    ·have:=KR.out.size;omega)
   have S5:=Hz (show Sl w5 3 1 v5 (k+1) (List.replicate (k+1) (Value.int .i64 (a:Int))) by
    have e:List.replicate (k+1) (Value.int .i64 (a:Int))=List.replicate k (Value.int .i64 (a:Int)) ++ [Value.int .i64 (a:Int)]:=List.replicate_succ'
    rw [e];exact hs5)
   obtain ⟨ao5,cap5,e5,-,-,-⟩:=S5.out.rd;subst e5;clear hs5 hk5 ho5 s1 s2 s5 sl;go_wp2_with fail;go_roundw
   case rel=>exact ⟨ao5,cap5,k+1,rfl,hlt,by go_num,S5.out,K5.out,O5.out⟩
   case measure=>simp [intOf];omega
  ·obtain rfl:k=n:=by omega
   have H2:=Hz (H1.out.same KR.out);have hrl:(List.replicate k a).length=k:=List.length_replicate;have hmk:=nD r 2 (List.replicate k a) ao cap H2.out hT hr12 (fun j hj=>by rw [(List.mem_replicate.1 hj).2];exact ha12) (by rw [hrl];simp [bs];omega) (by rw [hrl,List.map_replicate];exact SR.out);rw [hrl] at hmk;simp only [List.map_replicate] at hmk;have HMK:=Hz hmk;have pl:=H2.out.hp.lt;clear hmk hrl hn;go_wp2_with fail;refine HMK.out.mono ?_;rintro e w6 ⟨rfl,ht⟩;have TO:=Hz (aK.aW (K1.out.trans KR.out) ht);clear ht s1 s2 s5 sl pl;go_wp2_with fail;go_ret;exact ⟨by rw [HE.out];rfl,by rw [HE.out];exact TO.out⟩
theorem yF (xr xa xb xi xn:Int) (H:aZ w h W) :
  Calls Tryz.prog 33 #[.pointer (some ⟨h.p,0,none⟩), .agg #[.int .i64 13, .int .i64 xr, .int .i64 xa, .int .i64 xb, .int .i64 xi, .int .i64 xn]] w fun e w'=>e=.returned (.int .i64 (W.do ⟨13,xr,xa,xb,xi,xn⟩).1)∧aK w h w' (W.do ⟨13,xr,xa,xb,xi,xn⟩).2:=by
 have HH:=Hz H;have aw:ah (w.alloc (.cells #[.int .i64 13, .int .i64 xr, .int .i64 xa, .int .i64 xb, .int .i64 xi, .int .i64 xn] 69)) w.heap.size [.int .i64 13, .int .i64 xr, .int .i64 xa, .int .i64 xb, .int .i64 xi, .int .i64 xn] 69:=ah.newAt _ rfl rfl;have HB:=Hz aw;have KA:=Hz ((Kz w).alloc (.cells #[.int .i64 13, .int .i64 xr, .int .i64 xa, .int .i64 xb, .int .i64 xi, .int .i64 xn] 69));have s0:=aw.cell 0;have s1:=aw.cell 1;have s2:=aw.cell 2;have s3:=aw.cell 3;have s4:=aw.cell 4;have s5:=aw.cell 5;simp only [Lz,Ls] at s0 s1 s2 s3 s4 s5;have HSF:=Hz (fun w=>cj ⟨13,xr,xa,xb,xi,xn⟩ w);obtain ⟨c,hc⟩:∃ c,aX ⟨13,xr,xa,xb,xi,xn⟩=c:=⟨_,rfl⟩;rw [hc] at HSF;have HC:=Hz hc;clear H aw hc;go_enter Tryz.func33,Tryz.ntmps33;go_wp2_with (refine aV rfl 69 (.tmp 3) rfl [.int .i64 13, .int .i64 xr, .int .i64 xa, .int .i64 xb, .int .i64 xi, .int .i64 xn] (by kernel_rfl) w.heap.size 0 rfl (aa s0 (aa s1 (aa s2 (aa s3 (aa s4 (aa s5 aQ)))))) ?_);refine (HSF.out _).mono ?_;rintro e w1 ⟨rfl,hk⟩;have H1:=Hz ((HH.out.same KA.out).same hk);have K1:=Hz (KA.out.trans hk);have B1:=Hz (hk.ak HB.out (fun h=>h));clear hk s0 s1 s2 s3 s4 s5 HSF KA HB;generalize w.heap.size=sb at *;have s0:=B1.out.cell 0;have s1:=B1.out.cell 1;have s2:=B1.out.cell 2;have s3:=B1.out.cell 3;have s4:=B1.out.cell 4;have s5:=B1.out.cell 5;have sl:=B1.out.lt;simp only [Lz,Ls] at s0 s1 s2 s3 s4 s5;by_cases h0:¬ c=0
 ·have HE:=Hz (fj (W:=W) HC.out h0);have hd:(c != 0)=true:=by simpa using h0
  clear h0;go_wp2_with fail;go_ret;exact ⟨by rw [HE.out];rfl,by rw [HE.out];exact aK.same HH.out K1.out⟩
 have h0:c=0:=Classical.not_not.1 h0;subst h0;have ha:0≤xa∧xa<12:=(aN _).1 ((aI HC.out).2.2.1 (show aR 13/2%2=1 by decide));obtain ⟨a,rfl⟩:∃ a:Nat,xa=a:=⟨xa.toNat,by omega⟩;have ha12:a<12:=by omega
 clear ha;have hth:=kF a ha12 H1.out;have htl:=Wd.dT (W:=W) (k:=(a:Int)) H1.out.ok;obtain ⟨ti,hti⟩:∃ ti,W.aj (a:Int)=ti:=⟨_,rfl⟩;rw [hti] at hth htl;have HTI:=Hz hti;have HTH:=Hz hth;have HTL:=Hz (fun (hn:0≤ti)=>htl (by omega));clear hti hth htl;have pl:=H1.out.hp.lt;go_wp2_with fail;refine HTH.out.mono ?_;rintro e w2 ⟨rfl,hk⟩;have H2:=Hz (H1.out.same hk);have K2:=Hz (K1.out.trans hk);have B2:=Hz (hk.ak B1.out (fun h=>h));clear hk s0 s1 s2 s3 s4 s5 sl pl HTH B1 H1 K1;have s0:=B2.out.cell 0;have s1:=B2.out.cell 1;have s2:=B2.out.cell 2;have s3:=B2.out.cell 3;have s4:=B2.out.cell 4;have sl:=B2.out.lt;have pl:=H2.out.hp.lt;simp only [Lz,Ls] at s0 s1 s2 s3 s4;by_cases hi:ti<0
 ·have hd:decide (ti<0)=true:=by simpa using hi
  have HE:=Hz (show W.do ⟨13,xr,a,xb,xi,xn⟩=(2,W) by rw [cD HC.out];show Wd.len _ _=_;unfold Wd.len;dsimp only;rw [HTI.out,if_pos (.inl hi)]);clear hi;go_wp2_with fail;go_ret;exact ⟨by rw [HE.out];rfl,by rw [HE.out];exact aK.same HH.out K2.out⟩
 have hd:decide (ti<0)=false:=by simpa using hi
 have HLV:=Hz (HTL.out (by omega));obtain ⟨m,rfl,g0,o0,nc,ao,fc,etv,hm,hg0,t0,t1,hrd,hog⟩:=H2.out.nth HLV.out;obtain ⟨c0,-,-,-,-,-⟩:=H2.out.cells;rw [etv] at c0;have HRD:=Hz hrd;have HOG:=Hz hog;have ETV:=Hz etv;have HTI2:=Hz (show W.aj (a:Int)=(m:Int) from HTI.out);have HFB:=Hz (Wd.mg H2.out.ok HLV.out);clear hi HTL hrd hog etv HTI;by_cases h5:(W.th m).k=5
 ·have HE:=Hz (show W.do ⟨13,xr,a,xb,xi,xn⟩=(2,W) by rw [cD HC.out];show Wd.len _ _=_;unfold Wd.len;dsimp only;rw [HTI2.out,if_pos (.inr h5)]);rw [h5] at t0;clear h5;go_wp2_with fail;go_ret;exact ⟨by rw [HE.out];rfl,by rw [HE.out];exact aK.same HH.out K2.out⟩
 have hb5:((W.th m).k == 5)=false:=by simpa using h5
 have hr:0≤xr∧xr<12:=(aN _).1 ((aI HC.out).2.1 (show aR 13%2=1 by decide));obtain ⟨r,rfl⟩:∃ r:Nat,xr=r:=⟨xr.toNat,by omega⟩;have hr12:r<12:=by omega
 clear hr;obtain ⟨g,o,rc,erv,hg,-,-⟩:=H2.out.root hr12;have hrl:W.roots.length=12:=H2.out.ok.hr;obtain ⟨-,c1,-,-,-,-⟩:=H2.out.cells;have hrs:=H2.out.hr;rw [erv,hrl] at c1 hrs;have RS:=Hz hrs;have ERV:=Hz erv;have HRL:=Hz hrl;have h12:(r:Int)<12:=by omega
 clear erv hrl hrs;have hfl:=HFB.out;have HFL:=Hz (show W.do ⟨13,r,a,xb,xi,xn⟩=(0,W.cB r (1,(W.th m).fs.length)) by rw [cD HC.out];show Wd.len _ _=_;unfold Wd.len;dsimp only;rw [HTI2.out,if_neg (fun e=>by rcases e with e | e;omega;exact h5 e)]);obtain ⟨n,hn⟩:∃ n,(W.th m).fs.length=n:=⟨_,rfl⟩;rw [hn] at HFL t1 hfl;have HE:=Hz HFL.out;have HV:=Hz (show W.cI (1,(n:Int)) from .inr (.inl ⟨rfl,by unfold cA;omega⟩));clear h5 hn HFB HFL;generalize (W.th m).k=q at *;go_wp2_with fail;refine ay (.free 0 (.free 1 (.free 2 (.free 4 (.free 6 (.free 7 (.pure 3 (.pure 5 (.run 8 (.free 9 (.run 10 (.swi [] (.fin))))))))))))) [10] (fun w'=>w'.cell? ⟨h.p,1,none⟩=some (.slice (some ⟨g,o,none⟩) 12 rc)∧w'.cell? ⟨sb,1,none⟩=some (.int .i64 r)) (by kernel_rfl) (by kernel_rfl) ⟨c1,s1⟩ ?_
 iterate 8 ((first | refine au rfl rfl fun K hK=>?_ | refine aq rfl rfl fun K hK=>?_ | refine aF rfl rfl fun K hK=>?_ | refine az rfl rfl fun K hK=>?_ | refine aE rfl rfl fun K hK=>?_);go_simp;refine hK _ ?_;clear hK K)
 refine aM rfl rfl (fun K hK=>?_);unfold aC;go_simp;refine (kZ n _).mono ?_;rintro e wq ⟨rfl,hkq⟩;have kq:=(Kz w2).drew.trans hkq;have HQ:=Hz (H2.out.same kq);have BQ:=Hz (kq.ak B2.out (fun h=>h));have KQ:=Hz (K2.out.trans kq);have RQ:=Hz (RS.out.ae kq (fun _ _ h=>h));have xc1:wq.cell? ⟨h.p,1,none⟩=some (.slice (some ⟨g,o,none⟩) 12 rc):=(World.cell?_of_block (w:=w2) (a:=⟨h.p,1,none⟩) (kq.block _ H2.out.hp.lt (fun h=>h))).trans c1;have xs1:=BQ.out.cell 1;simp only [Lz,Ls] at xs1;refine hK _ _ (fun _=>⟨xc1,xs1⟩) ?_;clear hK K hkq kq xc1 xs1
 iterate 1 ((first | refine au rfl rfl fun K hK=>?_ | refine aq rfl rfl fun K hK=>?_);go_simp;refine hK _ ?_;clear hK K)
 refine aJ rfl rfl rfl (fun K hK=>?_);refine cr 96 (.tmp 267) (.tmp 266) rfl rfl g o 12 rc r (aA W.roots) 96 (.int .i64 (1)) (.int .i64 (n)) rfl rfl RQ.out hr12 (by kernel_rfl) rfl rfl ?_;intro w3 hs3 hk3 hz3;refine hK _ _ ?_;clear hK K;refine aH (fun _=>True) trivial (aB ?_);have TO:=Hz (aK.aW KQ.out (HQ.out.fN (w':=w3) (by rw [ERV.out]) hr12 HV.out (by rw [HRL.out];exact hs3) hk3));clear hs3 hk3 hz3;clear c1 s1 c0 s0 s2 s3 s4 sl t0 t1;go_wp2_with fail;go_ret;exact ⟨by rw [HE.out];rfl,by rw [HE.out];exact TO.out⟩
theorem yG {a b:Nat} (h:W.rt (a:Int)=W.rt (b:Int)) (r:Nat) (xi xn:Int) (hc:aX ⟨14,r,a,b,xi,xn⟩=0):W.do ⟨14,r,a,b,xi,xn⟩=(0,W.cB r (1,1)):=by rw [cD hc];show Wd.same _ _=_;unfold Wd.same;dsimp only;rw [if_pos h]
theorem z8 {a b:Nat} (h:¬ W.rt (a:Int)=W.rt (b:Int)) (r:Nat) (xi xn:Int) (hc:aX ⟨14,r,a,b,xi,xn⟩=0):W.do ⟨14,r,a,b,xi,xn⟩=(0,W.cB r (1,0)):=by rw [cD hc];show Wd.same _ _=_;unfold Wd.same;dsimp only;rw [if_neg h]
theorem xh (xr xa xb xi xn:Int) (H:aZ w h W) :
  Calls Tryz.prog 33 #[.pointer (some ⟨h.p,0,none⟩), .agg #[.int .i64 14, .int .i64 xr, .int .i64 xa, .int .i64 xb, .int .i64 xi, .int .i64 xn]] w fun e w'=>e=.returned (.int .i64 (W.do ⟨14,xr,xa,xb,xi,xn⟩).1)∧aK w h w' (W.do ⟨14,xr,xa,xb,xi,xn⟩).2:=by
 have HH:=Hz H;have aw:ah (w.alloc (.cells #[.int .i64 14, .int .i64 xr, .int .i64 xa, .int .i64 xb, .int .i64 xi, .int .i64 xn] 69)) w.heap.size [.int .i64 14, .int .i64 xr, .int .i64 xa, .int .i64 xb, .int .i64 xi, .int .i64 xn] 69:=ah.newAt _ rfl rfl;have HB:=Hz aw;have KA:=Hz ((Kz w).alloc (.cells #[.int .i64 14, .int .i64 xr, .int .i64 xa, .int .i64 xb, .int .i64 xi, .int .i64 xn] 69));have s0:=aw.cell 0;have s1:=aw.cell 1;have s2:=aw.cell 2;have s3:=aw.cell 3;have s4:=aw.cell 4;have s5:=aw.cell 5;simp only [Lz,Ls] at s0 s1 s2 s3 s4 s5;have HSF:=Hz (fun w=>cj ⟨14,xr,xa,xb,xi,xn⟩ w);obtain ⟨c,hc⟩:∃ c,aX ⟨14,xr,xa,xb,xi,xn⟩=c:=⟨_,rfl⟩;rw [hc] at HSF;have HC:=Hz hc;clear H aw hc;go_enter Tryz.func33,Tryz.ntmps33;go_wp2_with (refine aV rfl 69 (.tmp 3) rfl [.int .i64 14, .int .i64 xr, .int .i64 xa, .int .i64 xb, .int .i64 xi, .int .i64 xn] (by kernel_rfl) w.heap.size 0 rfl (aa s0 (aa s1 (aa s2 (aa s3 (aa s4 (aa s5 aQ)))))) ?_);refine (HSF.out _).mono ?_;rintro e w1 ⟨rfl,hk⟩;have H1:=Hz ((HH.out.same KA.out).same hk);have K1:=Hz (KA.out.trans hk);have B1:=Hz (hk.ak HB.out (fun h=>h));clear hk s0 s1 s2 s3 s4 s5 HSF KA HB;generalize w.heap.size=sb at *;have s0:=B1.out.cell 0;have s1:=B1.out.cell 1;have s2:=B1.out.cell 2;have s3:=B1.out.cell 3;have s4:=B1.out.cell 4;have s5:=B1.out.cell 5;have sl:=B1.out.lt;simp only [Lz,Ls] at s0 s1 s2 s3 s4 s5;by_cases h0:¬ c=0
 ·have HE:=Hz (fj (W:=W) HC.out h0);have hd:(c != 0)=true:=by simpa using h0
  clear h0;go_wp2_with fail;go_ret;exact ⟨by rw [HE.out];rfl,by rw [HE.out];exact aK.same HH.out K1.out⟩
 have h0:c=0:=Classical.not_not.1 h0;subst h0;have hr:0≤xr∧xr<12:=(aN _).1 ((aI HC.out).2.1 (show aR 14%2=1 by decide));obtain ⟨r,rfl⟩:∃ r:Nat,xr=r:=⟨xr.toNat,by omega⟩;have hr12:r<12:=by omega
 clear hr;have ha:0≤xa∧xa<12:=(aN _).1 ((aI HC.out).2.2.1 (show aR 14/2%2=1 by decide));obtain ⟨a,rfl⟩:∃ a:Nat,xa=a:=⟨xa.toNat,by omega⟩;have ha12:a<12:=by omega
 clear ha;have hb:0≤xb∧xb<12:=(aN _).1 ((aI HC.out).2.2.2.1 (show aR 14/4%2=1 by decide));obtain ⟨b,rfl⟩:∃ b:Nat,xb=b:=⟨xb.toNat,by omega⟩;have hb12:b<12:=by omega
 clear hb;obtain ⟨g,o,rc,erv,hg,-,-⟩:=H1.out.root hr12;have hrl:W.roots.length=12:=H1.out.ok.hr;obtain ⟨-,c1,-,-,-,-⟩:=H1.out.cells;have hrs:=H1.out.hr;rw [erv,hrl] at c1 hrs;have RS:=Hz hrs;have ERV:=Hz erv;have HRL:=Hz hrl;have h12:(r:Int)<12:=by omega
 clear erv hrl hrs;have pl:=H1.out.hp.lt;obtain ⟨g',o',rc',erv',hg',a0,a1⟩:=H1.out.root ha12;rw [ERV.out] at erv';cases erv';obtain ⟨g',o',rc',erv',hg'',b0,b1⟩:=H1.out.root hb12;rw [ERV.out] at erv';cases erv';have ha12i:(a:Int)<12:=by omega
 have hb12i:(b:Int)<12:=by omega
 have HSY:=Hz (fun h=>yG (W:=W) h r xi xn HC.out);have HSN:=Hz (fun h=>z8 (W:=W) h r xi xn HC.out);generalize W.rt (a:Int)=v at *;generalize W.rt (b:Int)=u at *;obtain ⟨v1,v2⟩:=v;obtain ⟨u1,u2⟩:=u;dsimp only at a0 a1 b0 b1;by_cases he:((v1,v2):Vl)=(u1,u2)
 ·have HE:=Hz (HSY.out he);cases he;have HV:=Hz (show W.cI (1,((1:Nat):Int)) from .inr (.inl ⟨rfl,by unfold cA;omega⟩));clear HSY HSN;go_wp2_with fail;refine ay (.free 0 (.free 1 (.free 2 (.free 4 (.free 8 (.free 9 (.free 10 (.free 12 (.pure 3 (.pure 5 (.free 6 (.pure 7 (.pure 11 (.pure 13 (.free 14 (.pure 15 (.free 16 (.fin)))))))))))))))))) [] (fun w'=>w'.cell? ⟨h.p,1,none⟩=some (.slice (some ⟨g,o,none⟩) 12 rc)∧w'.cell? ⟨sb,2,none⟩=some (.int .i64 a)∧w'.cell? ⟨sb,3,none⟩=some (.int .i64 b)∧w'.cell? ⟨g,o+a*2,none⟩=some (.int .i64 v1)∧w'.cell? ⟨g,o+a*2+1,none⟩=some (.int .i64 v2)∧w'.cell? ⟨g,o+b*2,none⟩=some (.int .i64 v1)∧w'.cell? ⟨g,o+b*2+1,none⟩=some (.int .i64 v2)) (by kernel_rfl) (by kernel_rfl) ⟨c1,s2,s3,a0,a1,b0,b1⟩ ?_
  iterate 17 ((first | refine au rfl rfl fun K hK=>?_ | refine aq rfl rfl fun K hK=>?_ | refine aF rfl rfl fun K hK=>?_ | refine az rfl rfl fun K hK=>?_ | refine aE rfl rfl fun K hK=>?_);go_simp;refine hK _ ?_;clear hK K)
  refine aB ?_;have kd1:=(Kz w1).drew;have H2:=Hz (H1.out.same kd1);have K2:=Hz (K1.out.trans kd1);have B2:=Hz (kd1.ak B1.out (fun h=>h));have RS:=Hz (RS.out.ae kd1 (fun _ _ h=>h));clear kd1 s0 s1 s2 s3 s4 s5 sl H1 K1 B1 c1 pl a0 a1 b0 b1;generalize w1.drew=w2 at *;have s1:=B2.out.cell 1;have sl:=B2.out.lt;have pl:=H2.out.hp.lt;obtain ⟨-,c1,-,-,-,-⟩:=H2.out.cells;rw [ERV.out,HRL.out] at c1;simp only [Lz,Ls] at s1;go_wp2_with fail;refine ay (.free 0 (.free 1 (.free 2 (.free 4 (.free 6 (.free 7 (.pure 3 (.pure 5 (.run 8 (.free 9 (.run 10 (.swi [] (.fin))))))))))))) [10] (fun w'=>w'.cell? ⟨h.p,1,none⟩=some (.slice (some ⟨g,o,none⟩) 12 rc)∧w'.cell? ⟨sb,1,none⟩=some (.int .i64 r)) (by kernel_rfl) (by kernel_rfl) ⟨c1,s1⟩ ?_
  iterate 8 ((first | refine au rfl rfl fun K hK=>?_ | refine aq rfl rfl fun K hK=>?_ | refine aF rfl rfl fun K hK=>?_ | refine az rfl rfl fun K hK=>?_ | refine aE rfl rfl fun K hK=>?_);go_simp;refine hK _ ?_;clear hK K)
  refine aM rfl rfl (fun K hK=>?_);unfold aC;go_simp;refine (kZ 1 _).mono ?_;rintro e wq ⟨rfl,hkq⟩;have kq:=(Kz w2).drew.trans hkq;have HQ:=Hz (H2.out.same kq);have BQ:=Hz (kq.ak B2.out (fun h=>h));have KQ:=Hz (K2.out.trans kq);have RQ:=Hz (RS.out.ae kq (fun _ _ h=>h));have xc1:wq.cell? ⟨h.p,1,none⟩=some (.slice (some ⟨g,o,none⟩) 12 rc):=(World.cell?_of_block (w:=w2) (a:=⟨h.p,1,none⟩) (kq.block _ H2.out.hp.lt (fun h=>h))).trans c1;have xs1:=BQ.out.cell 1;simp only [Lz,Ls] at xs1;refine hK _ _ (fun _=>⟨xc1,xs1⟩) ?_;clear hK K hkq kq xc1 xs1
  iterate 1 ((first | refine au rfl rfl fun K hK=>?_ | refine aq rfl rfl fun K hK=>?_);go_simp;refine hK _ ?_;clear hK K)
  refine aJ rfl rfl rfl (fun K hK=>?_);refine cr 96 (.tmp 357) (.tmp 356) rfl rfl g o 12 rc r (aA W.roots) 96 (.int .i64 (1)) (.int .i64 (1)) rfl rfl RQ.out hr12 (by kernel_rfl) rfl rfl ?_;intro w3 hs3 hk3 hz3;refine hK _ _ ?_;clear hK K;refine aH (fun _=>True) trivial (aB ?_);have TO:=Hz (aK.aW KQ.out (HQ.out.fN (w':=w3) (by rw [ERV.out]) hr12 HV.out (by rw [HRL.out];exact hs3) hk3));clear hs3 hk3 hz3;clear c1 s1 sl;go_wp2_with fail;go_ret;exact ⟨by rw [HE.out];rfl,by rw [HE.out];exact TO.out⟩
 ·have HE:=Hz (HSN.out he);have HV:=Hz (show W.cI (1,((0:Nat):Int)) from .inr (.inl ⟨rfl,by unfold cA;omega⟩));have hne:¬ (v1=u1∧v2=u2):=fun h=>he (by rw [h.1,h.2]);clear he HSY HSN;by_cases h1:v1=u1
  ·have h2:¬ v2=u2:=fun h=>hne ⟨h1,h⟩;subst h1;clear hne;go_wp2_with fail;refine ay (.free 0 (.free 1 (.free 2 (.free 4 (.free 8 (.free 9 (.free 10 (.free 12 (.pure 3 (.pure 5 (.free 6 (.pure 7 (.pure 11 (.pure 13 (.free 14 (.pure 15 (.free 16 (.fin)))))))))))))))))) [] (fun w'=>w'.cell? ⟨h.p,1,none⟩=some (.slice (some ⟨g,o,none⟩) 12 rc)∧w'.cell? ⟨sb,2,none⟩=some (.int .i64 a)∧w'.cell? ⟨sb,3,none⟩=some (.int .i64 b)∧w'.cell? ⟨g,o+a*2,none⟩=some (.int .i64 v1)∧w'.cell? ⟨g,o+a*2+1,none⟩=some (.int .i64 v2)∧w'.cell? ⟨g,o+b*2,none⟩=some (.int .i64 v1)∧w'.cell? ⟨g,o+b*2+1,none⟩=some (.int .i64 u2)) (by kernel_rfl) (by kernel_rfl) ⟨c1,s2,s3,a0,a1,b0,b1⟩ ?_
   iterate 17 ((first | refine au rfl rfl fun K hK=>?_ | refine aq rfl rfl fun K hK=>?_ | refine aF rfl rfl fun K hK=>?_ | refine az rfl rfl fun K hK=>?_ | refine aE rfl rfl fun K hK=>?_);go_simp;refine hK _ ?_;clear hK K)
   refine aB ?_;have kd1:=(Kz w1).drew;have H2:=Hz (H1.out.same kd1);have K2:=Hz (K1.out.trans kd1);have B2:=Hz (kd1.ak B1.out (fun h=>h));have RS:=Hz (RS.out.ae kd1 (fun _ _ h=>h));clear kd1 s0 s1 s2 s3 s4 s5 sl H1 K1 B1 c1 pl a0 a1 b0 b1;generalize w1.drew=w2 at *;have s1:=B2.out.cell 1;have sl:=B2.out.lt;have pl:=H2.out.hp.lt;obtain ⟨-,c1,-,-,-,-⟩:=H2.out.cells;rw [ERV.out,HRL.out] at c1;simp only [Lz,Ls] at s1;go_wp2_with fail;refine ay (.free 0 (.free 1 (.free 2 (.free 4 (.free 6 (.free 7 (.pure 3 (.pure 5 (.run 8 (.free 9 (.run 10 (.swi [] (.fin))))))))))))) [10] (fun w'=>w'.cell? ⟨h.p,1,none⟩=some (.slice (some ⟨g,o,none⟩) 12 rc)∧w'.cell? ⟨sb,1,none⟩=some (.int .i64 r)) (by kernel_rfl) (by kernel_rfl) ⟨c1,s1⟩ ?_
   iterate 8 ((first | refine au rfl rfl fun K hK=>?_ | refine aq rfl rfl fun K hK=>?_ | refine aF rfl rfl fun K hK=>?_ | refine az rfl rfl fun K hK=>?_ | refine aE rfl rfl fun K hK=>?_);go_simp;refine hK _ ?_;clear hK K)
   refine aM rfl rfl (fun K hK=>?_);unfold aC;go_simp;refine (kZ 0 _).mono ?_;rintro e wq ⟨rfl,hkq⟩;have kq:=(Kz w2).drew.trans hkq;have HQ:=Hz (H2.out.same kq);have BQ:=Hz (kq.ak B2.out (fun h=>h));have KQ:=Hz (K2.out.trans kq);have RQ:=Hz (RS.out.ae kq (fun _ _ h=>h));have xc1:wq.cell? ⟨h.p,1,none⟩=some (.slice (some ⟨g,o,none⟩) 12 rc):=(World.cell?_of_block (w:=w2) (a:=⟨h.p,1,none⟩) (kq.block _ H2.out.hp.lt (fun h=>h))).trans c1;have xs1:=BQ.out.cell 1;simp only [Lz,Ls] at xs1;refine hK _ _ (fun _=>⟨xc1,xs1⟩) ?_;clear hK K hkq kq xc1 xs1
   iterate 1 ((first | refine au rfl rfl fun K hK=>?_ | refine aq rfl rfl fun K hK=>?_);go_simp;refine hK _ ?_;clear hK K)
   refine aJ rfl rfl rfl (fun K hK=>?_);refine cr 96 (.tmp 357) (.tmp 356) rfl rfl g o 12 rc r (aA W.roots) 96 (.int .i64 (1)) (.int .i64 (0)) rfl rfl RQ.out hr12 (by kernel_rfl) rfl rfl ?_;intro w3 hs3 hk3 hz3;refine hK _ _ ?_;clear hK K;refine aH (fun _=>True) trivial (aB ?_);have TO:=Hz (aK.aW KQ.out (HQ.out.fN (w':=w3) (by rw [ERV.out]) hr12 HV.out (by rw [HRL.out];exact hs3) hk3));clear hs3 hk3 hz3;clear c1 s1 sl;go_wp2_with fail;go_ret;exact ⟨by rw [HE.out];rfl,by rw [HE.out];exact TO.out⟩
  ·clear hne;go_wp2_with fail;refine ay (.free 0 (.free 1 (.free 2 (.free 4 (.free 8 (.free 9 (.free 10 (.free 12 (.pure 3 (.pure 5 (.free 6 (.pure 7 (.pure 11 (.pure 13 (.free 14 (.pure 15 (.free 16 (.fin)))))))))))))))))) [] (fun w'=>w'.cell? ⟨h.p,1,none⟩=some (.slice (some ⟨g,o,none⟩) 12 rc)∧w'.cell? ⟨sb,2,none⟩=some (.int .i64 a)∧w'.cell? ⟨sb,3,none⟩=some (.int .i64 b)∧w'.cell? ⟨g,o+a*2,none⟩=some (.int .i64 v1)∧w'.cell? ⟨g,o+a*2+1,none⟩=some (.int .i64 v2)∧w'.cell? ⟨g,o+b*2,none⟩=some (.int .i64 u1)∧w'.cell? ⟨g,o+b*2+1,none⟩=some (.int .i64 u2)) (by kernel_rfl) (by kernel_rfl) ⟨c1,s2,s3,a0,a1,b0,b1⟩ ?_
   iterate 17 ((first | refine au rfl rfl fun K hK=>?_ | refine aq rfl rfl fun K hK=>?_ | refine aF rfl rfl fun K hK=>?_ | refine az rfl rfl fun K hK=>?_ | refine aE rfl rfl fun K hK=>?_);go_simp;refine hK _ ?_;clear hK K)
   refine aB ?_;have kd1:=(Kz w1).drew;have H2:=Hz (H1.out.same kd1);have K2:=Hz (K1.out.trans kd1);have B2:=Hz (kd1.ak B1.out (fun h=>h));have RS:=Hz (RS.out.ae kd1 (fun _ _ h=>h));clear kd1 s0 s1 s2 s3 s4 s5 sl H1 K1 B1 c1 pl a0 a1 b0 b1;generalize w1.drew=w2 at *;have s1:=B2.out.cell 1;have sl:=B2.out.lt;have pl:=H2.out.hp.lt;obtain ⟨-,c1,-,-,-,-⟩:=H2.out.cells;rw [ERV.out,HRL.out] at c1;simp only [Lz,Ls] at s1;go_wp2_with fail;refine ay (.free 0 (.free 1 (.free 2 (.free 4 (.free 6 (.free 7 (.pure 3 (.pure 5 (.run 8 (.free 9 (.run 10 (.swi [] (.fin))))))))))))) [10] (fun w'=>w'.cell? ⟨h.p,1,none⟩=some (.slice (some ⟨g,o,none⟩) 12 rc)∧w'.cell? ⟨sb,1,none⟩=some (.int .i64 r)) (by kernel_rfl) (by kernel_rfl) ⟨c1,s1⟩ ?_
   iterate 8 ((first | refine au rfl rfl fun K hK=>?_ | refine aq rfl rfl fun K hK=>?_ | refine aF rfl rfl fun K hK=>?_ | refine az rfl rfl fun K hK=>?_ | refine aE rfl rfl fun K hK=>?_);go_simp;refine hK _ ?_;clear hK K)
   refine aM rfl rfl (fun K hK=>?_);unfold aC;go_simp;refine (kZ 0 _).mono ?_;rintro e wq ⟨rfl,hkq⟩;have kq:=(Kz w2).drew.trans hkq;have HQ:=Hz (H2.out.same kq);have BQ:=Hz (kq.ak B2.out (fun h=>h));have KQ:=Hz (K2.out.trans kq);have RQ:=Hz (RS.out.ae kq (fun _ _ h=>h));have xc1:wq.cell? ⟨h.p,1,none⟩=some (.slice (some ⟨g,o,none⟩) 12 rc):=(World.cell?_of_block (w:=w2) (a:=⟨h.p,1,none⟩) (kq.block _ H2.out.hp.lt (fun h=>h))).trans c1;have xs1:=BQ.out.cell 1;simp only [Lz,Ls] at xs1;refine hK _ _ (fun _=>⟨xc1,xs1⟩) ?_;clear hK K hkq kq xc1 xs1
   iterate 1 ((first | refine au rfl rfl fun K hK=>?_ | refine aq rfl rfl fun K hK=>?_);go_simp;refine hK _ ?_;clear hK K)
   refine aJ rfl rfl rfl (fun K hK=>?_);refine cr 96 (.tmp 357) (.tmp 356) rfl rfl g o 12 rc r (aA W.roots) 96 (.int .i64 (1)) (.int .i64 (0)) rfl rfl RQ.out hr12 (by kernel_rfl) rfl rfl ?_;intro w3 hs3 hk3 hz3;refine hK _ _ ?_;clear hK K;refine aH (fun _=>True) trivial (aB ?_);have TO:=Hz (aK.aW KQ.out (HQ.out.fN (w':=w3) (by rw [ERV.out]) hr12 HV.out (by rw [HRL.out];exact hs3) hk3));clear hs3 hk3 hz3;clear c1 s1 sl;go_wp2_with fail;go_ret;exact ⟨by rw [HE.out];rfl,by rw [HE.out];exact TO.out⟩
theorem vG (xr xa xb xi xn:Int) (H:aZ w h W) (hT:W.T.length≤100000) :
  Calls Tryz.prog 33 #[.pointer (some ⟨h.p,0,none⟩), .agg #[.int .i64 15, .int .i64 xr, .int .i64 xa, .int .i64 xb, .int .i64 xi, .int .i64 xn]] w fun e w'=>e=.returned (.int .i64 (W.do ⟨15,xr,xa,xb,xi,xn⟩).1)∧aK w h w' (W.do ⟨15,xr,xa,xb,xi,xn⟩).2:=by
 have HH:=Hz H;have aw:ah (w.alloc (.cells #[.int .i64 15, .int .i64 xr, .int .i64 xa, .int .i64 xb, .int .i64 xi, .int .i64 xn] 69)) w.heap.size [.int .i64 15, .int .i64 xr, .int .i64 xa, .int .i64 xb, .int .i64 xi, .int .i64 xn] 69:=ah.newAt _ rfl rfl;have HB:=Hz aw;have KA:=Hz ((Kz w).alloc (.cells #[.int .i64 15, .int .i64 xr, .int .i64 xa, .int .i64 xb, .int .i64 xi, .int .i64 xn] 69));have s0:=aw.cell 0;have s1:=aw.cell 1;have s2:=aw.cell 2;have s3:=aw.cell 3;have s4:=aw.cell 4;have s5:=aw.cell 5;simp only [Lz,Ls] at s0 s1 s2 s3 s4 s5;have HSF:=Hz (fun w=>cj ⟨15,xr,xa,xb,xi,xn⟩ w);obtain ⟨c,hc⟩:∃ c,aX ⟨15,xr,xa,xb,xi,xn⟩=c:=⟨_,rfl⟩;rw [hc] at HSF;have HC:=Hz hc;clear H aw hc;go_enter Tryz.func33,Tryz.ntmps33;go_wp2_with (refine aV rfl 69 (.tmp 3) rfl [.int .i64 15, .int .i64 xr, .int .i64 xa, .int .i64 xb, .int .i64 xi, .int .i64 xn] (by kernel_rfl) w.heap.size 0 rfl (aa s0 (aa s1 (aa s2 (aa s3 (aa s4 (aa s5 aQ)))))) ?_);refine (HSF.out _).mono ?_;rintro e w1 ⟨rfl,hk⟩;have H1:=Hz ((HH.out.same KA.out).same hk);have K1:=Hz (KA.out.trans hk);have B1:=Hz (hk.ak HB.out (fun h=>h));clear hk s0 s1 s2 s3 s4 s5 HSF KA HB;generalize w.heap.size=sb at *;have s0:=B1.out.cell 0;have s1:=B1.out.cell 1;have s2:=B1.out.cell 2;have s3:=B1.out.cell 3;have s4:=B1.out.cell 4;have s5:=B1.out.cell 5;have sl:=B1.out.lt;simp only [Lz,Ls] at s0 s1 s2 s3 s4 s5;by_cases h0:¬ c=0
 ·have HE:=Hz (fj (W:=W) HC.out h0);have hd:(c != 0)=true:=by simpa using h0
  clear h0;go_wp2_with fail;go_ret;exact ⟨by rw [HE.out];rfl,by rw [HE.out];exact aK.same HH.out K1.out⟩
 have h0:c=0:=Classical.not_not.1 h0;subst h0;have HE:=Hz (show W.do ⟨15,xr,xa,xb,xi,xn⟩=W.cut false by rw [cD HC.out];rfl);have HMK:=Hz (sN false H1.out hT);have pl:=H1.out.hp.lt;go_wp2_with fail;refine HMK.out.mono ?_;rintro e w3 ⟨rfl,ht⟩;have TO:=Hz (aK.aW K1.out ht);clear ht s0 s1 s2 s3 s4 s5 sl pl;go_wp2_with fail;go_ret;exact ⟨by rw [HE.out];rfl,by rw [HE.out];exact TO.out⟩
theorem vH (xr xa xb xi xn:Int) (H:aZ w h W) (hT:W.T.length≤100000) :
  Calls Tryz.prog 33 #[.pointer (some ⟨h.p,0,none⟩), .agg #[.int .i64 16, .int .i64 xr, .int .i64 xa, .int .i64 xb, .int .i64 xi, .int .i64 xn]] w fun e w'=>e=.returned (.int .i64 (W.do ⟨16,xr,xa,xb,xi,xn⟩).1)∧aK w h w' (W.do ⟨16,xr,xa,xb,xi,xn⟩).2:=by
 have HH:=Hz H;have aw:ah (w.alloc (.cells #[.int .i64 16, .int .i64 xr, .int .i64 xa, .int .i64 xb, .int .i64 xi, .int .i64 xn] 69)) w.heap.size [.int .i64 16, .int .i64 xr, .int .i64 xa, .int .i64 xb, .int .i64 xi, .int .i64 xn] 69:=ah.newAt _ rfl rfl;have HB:=Hz aw;have KA:=Hz ((Kz w).alloc (.cells #[.int .i64 16, .int .i64 xr, .int .i64 xa, .int .i64 xb, .int .i64 xi, .int .i64 xn] 69));have s0:=aw.cell 0;have s1:=aw.cell 1;have s2:=aw.cell 2;have s3:=aw.cell 3;have s4:=aw.cell 4;have s5:=aw.cell 5;simp only [Lz,Ls] at s0 s1 s2 s3 s4 s5;have HSF:=Hz (fun w=>cj ⟨16,xr,xa,xb,xi,xn⟩ w);obtain ⟨c,hc⟩:∃ c,aX ⟨16,xr,xa,xb,xi,xn⟩=c:=⟨_,rfl⟩;rw [hc] at HSF;have HC:=Hz hc;clear H aw hc;go_enter Tryz.func33,Tryz.ntmps33;go_wp2_with (refine aV rfl 69 (.tmp 3) rfl [.int .i64 16, .int .i64 xr, .int .i64 xa, .int .i64 xb, .int .i64 xi, .int .i64 xn] (by kernel_rfl) w.heap.size 0 rfl (aa s0 (aa s1 (aa s2 (aa s3 (aa s4 (aa s5 aQ)))))) ?_);refine (HSF.out _).mono ?_;rintro e w1 ⟨rfl,hk⟩;have H1:=Hz ((HH.out.same KA.out).same hk);have K1:=Hz (KA.out.trans hk);have B1:=Hz (hk.ak HB.out (fun h=>h));clear hk s0 s1 s2 s3 s4 s5 HSF KA HB;generalize w.heap.size=sb at *;have s0:=B1.out.cell 0;have s1:=B1.out.cell 1;have s2:=B1.out.cell 2;have s3:=B1.out.cell 3;have s4:=B1.out.cell 4;have s5:=B1.out.cell 5;have sl:=B1.out.lt;simp only [Lz,Ls] at s0 s1 s2 s3 s4 s5;by_cases h0:¬ c=0
 ·have HE:=Hz (fj (W:=W) HC.out h0);have hd:(c != 0)=true:=by simpa using h0
  clear h0;go_wp2_with fail;go_ret;exact ⟨by rw [HE.out];rfl,by rw [HE.out];exact aK.same HH.out K1.out⟩
 have h0:c=0:=Classical.not_not.1 h0;subst h0;have HE:=Hz (show W.do ⟨16,xr,xa,xb,xi,xn⟩=W.cut true by rw [cD HC.out];rfl);have HMK:=Hz (sN true H1.out hT);have pl:=H1.out.hp.lt;go_wp2_with fail;refine HMK.out.mono ?_;rintro e w3 ⟨rfl,ht⟩;have TO:=Hz (aK.aW K1.out ht);clear ht s0 s1 s2 s3 s4 s5 sl pl;go_wp2_with fail;go_ret;exact ⟨by rw [HE.out];rfl,by rw [HE.out];exact TO.out⟩
end
end
section
open Go.RowKit
section
variable {w:World} {h:RW} {W:Wd}
theorem aZ.Cc {w1:World} {v':Value} {rg:List (Int × Int)} (H:aZ w h W) (hs:Sl w1 152 2 v' rg.length (aA rg)) (hk:ab (ai h.gv) w w1)
  (ho:∀ k,ai v' k→ai h.gv k∨w.heap.size≤k) (hok:Wd.ok { W with av:=rg }):aK w h (w1.setCell ⟨h.p,2,none⟩ v') { W with av:=rg }:=by
 have nE:∀ {b:Nat} {c:List Value} {T:TypeId},ah w b c T→T≠152→¬ ai h.gv b:=fun hb hT e=>by
  obtain ⟨_,c',hc'⟩:=H.hg.own e;exact hb.ne hc' hT rfl
 have hp1:=hk.ak H.hp (nE H.hp (by decide));have set:=(ab.refl (·=h.p) w1).setCell (p:=⟨h.p,2,none⟩) (.inl rfl) v';have np:∀ {b:Nat} {c:List Value} {T:TypeId},ah w1 b c T→T≠147→¬ b=h.p:=fun hb hT=>hb.ne hp1 hT;have kk:ab (fun b=>ai h.gv b∨b=h.p) w (w1.setCell ⟨h.p,2,none⟩ v'):=(hk.mono (fun _ _ h=>.inl h)).then set (fun b hb=>.inl (.inr hb));have nB:∀ {b:Nat} {c:List Value} {T:TypeId},ah w b c T→T≠152→T≠147→¬ (ai h.gv b∨b=h.p):=fun hb h1 h2 e=>by
  rcases e with e | e
  ·exact nE hb h1 e
  ·exact hb.ne H.hp h2 e
 refine ⟨⟨h.p,h.tv,h.rv,v',h.wv,h.F⟩,⟨by simpa using hp1.aO 2 v',H.ht.ae kk (fun b hb _=>?_) (fun b hb=>?_),H.hr.ae kk (fun b hb=>?_),hs.ae set (fun b hb=>?_),H.hw.ae kk (fun b hb=>?_),fun k hk'=>?_,fun k hk'=>?_,hok⟩,rfl,kk.mono (fun b _ hb=>?_),fun k hk'=>?_⟩
 ·obtain ⟨_,⟨c,hc⟩,_⟩:=H.af b hb;exact nB hc (by decide) (by decide)
 ·obtain ⟨cs,hs',_⟩:=H.ht;obtain ⟨_,c,hc⟩:=hs'.own hb;exact nB hc (by decide) (by decide)
 ·obtain ⟨_,c,hc⟩:=H.hr.own hb;exact nB hc (by decide) (by decide)
 ·obtain ⟨_,c,hc⟩:=hs.own hb;exact np hc (by decide)
 ·rintro (e | e)
  ·exact H.ap b ⟨e,hb⟩
  ·obtain ⟨_,c,hc⟩:=H.hw.own hb;exact hc.ne H.hp (by decide) e
 ·rcases ho k hk'.1 with e | e
  ·exact H.ap k ⟨e,hk'.2⟩
  ·have:=(H.hw.own hk'.2).1;omega
 ·obtain ⟨h1,⟨c,h2⟩,h3⟩:=H.af k hk';exact ⟨Nat.lt_of_lt_of_le h1 kk.size,⟨c,kk.ak h2 (nB h2 (by decide) (by decide))⟩,h3⟩
 ·rcases hb with hb | hb
  ·exact .inr (.inr (.inr (.inl hb)))
  ·exact .inl hb
 ·rcases hk' with hk' | hk' | hk' | hk' | hk' | hk'
  ·exact .inl (.inl hk')
  ·exact .inl (.inr (.inl hk'))
  ·exact .inl (.inr (.inr (.inl hk')))
  ·rcases ho k hk' with e | e
   ·exact .inl (.inr (.inr (.inr (.inl e))))
   ·exact .inr e
  ·exact .inl (.inr (.inr (.inr (.inr (.inl hk')))))
  ·exact .inl (.inr (.inr (.inr (.inr (.inr hk')))))
theorem yH (xr xa xb xi xn:Int) (H:aZ w h W) :
  Calls Tryz.prog 33 #[.pointer (some ⟨h.p,0,none⟩), .agg #[.int .i64 9, .int .i64 xr, .int .i64 xa, .int .i64 xb, .int .i64 xi, .int .i64 xn]] w fun e w'=>e=.returned (.int .i64 (W.do ⟨9,xr,xa,xb,xi,xn⟩).1)∧aK w h w' (W.do ⟨9,xr,xa,xb,xi,xn⟩).2:=by
 have HH:=Hz H;have aw:ah (w.alloc (.cells #[.int .i64 9, .int .i64 xr, .int .i64 xa, .int .i64 xb, .int .i64 xi, .int .i64 xn] 69)) w.heap.size [.int .i64 9, .int .i64 xr, .int .i64 xa, .int .i64 xb, .int .i64 xi, .int .i64 xn] 69:=ah.newAt _ rfl rfl;have HB:=Hz aw;have KA:=Hz ((Kz w).alloc (.cells #[.int .i64 9, .int .i64 xr, .int .i64 xa, .int .i64 xb, .int .i64 xi, .int .i64 xn] 69));have s0:=aw.cell 0;have s1:=aw.cell 1;have s2:=aw.cell 2;have s3:=aw.cell 3;have s4:=aw.cell 4;have s5:=aw.cell 5;simp only [Lz,Ls] at s0 s1 s2 s3 s4 s5;have HSF:=Hz (fun w=>cj ⟨9,xr,xa,xb,xi,xn⟩ w);obtain ⟨c,hc⟩:∃ c,aX ⟨9,xr,xa,xb,xi,xn⟩=c:=⟨_,rfl⟩;rw [hc] at HSF;have HC:=Hz hc;clear H aw hc;go_enter Tryz.func33,Tryz.ntmps33;go_wp2_with (refine aV rfl 69 (.tmp 3) rfl [.int .i64 9, .int .i64 xr, .int .i64 xa, .int .i64 xb, .int .i64 xi, .int .i64 xn] (by kernel_rfl) w.heap.size 0 rfl (aa s0 (aa s1 (aa s2 (aa s3 (aa s4 (aa s5 aQ)))))) ?_);refine (HSF.out _).mono ?_;rintro e w1 ⟨rfl,hk⟩;have H1:=Hz ((HH.out.same KA.out).same hk);have K1:=Hz (KA.out.trans hk);have B1:=Hz (hk.ak HB.out (fun h=>h));clear hk s0 s1 s2 s3 s4 s5 HSF KA HB;generalize w.heap.size=sb at *;have s0:=B1.out.cell 0;have s1:=B1.out.cell 1;have s2:=B1.out.cell 2;have s3:=B1.out.cell 3;have s4:=B1.out.cell 4;have s5:=B1.out.cell 5;have sl:=B1.out.lt;simp only [Lz,Ls] at s0 s1 s2 s3 s4 s5;by_cases h0:¬ c=0
 ·have HE:=Hz (fj (W:=W) HC.out h0);have hd:(c != 0)=true:=by simpa using h0
  clear h0;go_wp2_with fail;go_ret;exact ⟨by rw [HE.out];rfl,by rw [HE.out];exact aK.same HH.out K1.out⟩
 have h0:c=0:=Classical.not_not.1 h0;subst h0;have ha:0≤xa∧xa<12:=(aN _).1 ((aI HC.out).2.2.1 (show aR 9/2%2=1 by decide));have hb:0≤xb∧xb<12:=(aN _).1 ((aI HC.out).2.2.2.1 (show aR 9/4%2=1 by decide));obtain ⟨a,rfl⟩:∃ a:Nat,xa=a:=⟨xa.toNat,by omega⟩;obtain ⟨b,rfl⟩:∃ b:Nat,xb=b:=⟨xb.toNat,by omega⟩;have ha12:a<12:=by omega
 have hb12:b<12:=by omega
 clear ha hb;have hth:=fun w (H:aZ w h W)=>kF a ha12 H;have hgd:=fun w (H:aZ w h W)=>sA b hb12 H;have HRE:=Hz (show W.do ⟨9,xr,a,b,xi,xn⟩=W.ic ⟨9,xr,a,b,xi,xn⟩ by rw [cD HC.out];rfl);have HOK:=Hz (H1.out.ok.do ⟨9,xr,a,b,xi,xn⟩);obtain ⟨ti,hti⟩:∃ ti,W.aj (a:Int)=ti:=⟨_,rfl⟩;obtain ⟨gi,hgi⟩:∃ gi,W.guard (b:Int)=gi:=⟨_,rfl⟩;rw [hti] at hth;rw [hgi] at hgd;have HTI:=Hz hti;have HGI:=Hz hgi;have HTH:=Hz hth;have HGD:=Hz hgd;clear hti hgi hth hgd;have pl:=H1.out.hp.lt;go_wp2_with fail;refine (HTH.out _ H1.out).mono ?_;rintro e w2 ⟨rfl,hk⟩;have H2:=Hz (H1.out.same hk);have K2:=Hz (K1.out.trans hk);have B2:=Hz (hk.ak B1.out (fun h=>h));clear hk s0 s1 s2 s3 s4 s5 sl pl B1 H1 K1;have s2:=B2.out.cell 2;have s3:=B2.out.cell 3;have sl:=B2.out.lt;have pl:=H2.out.hp.lt;simp only [Lz,Ls] at s2 s3;by_cases hi:ti<0
 ·have hd:decide (ti<0)=true:=by simpa using hi
  have HE:=Hz (show W.do ⟨9,xr,a,b,xi,xn⟩=(2,W) by rw [HRE.out];unfold Wd.ic;dsimp only;rw [HTI.out,if_pos (.inl hi)]);clear hi;go_wp2_with fail;go_ret;exact ⟨by rw [HE.out];rfl,by rw [HE.out];exact aK.same HH.out K2.out⟩
 have hd:decide (ti<0)=false:=by simpa using hi
 have HNT:=Hz hi;clear hi;go_wp2_with fail;refine (HGD.out _ H2.out).mono ?_;rintro e w3 ⟨rfl,hk⟩;have H3:=Hz (H2.out.same hk);have K3:=Hz (K2.out.trans hk);have B3:=Hz (hk.ak B2.out (fun h=>h));clear hk s2 s3 sl pl B2 H2 K2;have s2:=B3.out.cell 2;have s3:=B3.out.cell 3;have sl:=B3.out.lt;have pl:=H3.out.hp.lt;simp only [Lz,Ls] at s2 s3;by_cases hg:gi<0
 ·have hd2:decide (gi<0)=true:=by simpa using hg
  have HE:=Hz (show W.do ⟨9,xr,a,b,xi,xn⟩=(2,W) by rw [HRE.out];unfold Wd.ic;dsimp only;rw [HGI.out,if_pos (.inr hg)]);clear hg;go_wp2_with fail;go_ret;exact ⟨by rw [HE.out];rfl,by rw [HE.out];exact aK.same HH.out K3.out⟩
 have hd2:decide (gi<0)=false:=by simpa using hg
 have HRG:=Hz (show W.do ⟨9,xr,a,b,xi,xn⟩=if 24≤W.av.length+W.wait.length then (3,W) else (0, { W with av:=W.av ++ [(gi,ti)] }) by rw [HRE.out];unfold Wd.ic;dsimp only;rw [HTI.out,HGI.out,if_neg (fun e=>by rcases e with e | e;(have:=HNT.out;omega);exact hg e)]);clear hg;obtain ⟨go,gc,egv,-,-,-⟩:=H3.out.hg.rd;obtain ⟨wo,wc,ewv,-,-,-⟩:=H3.out.hw.rd;obtain ⟨-,-,c2,c3,-,-⟩:=H3.out.cells;have EGV:=Hz egv;have EWV:=Hz ewv;rw [egv] at c2;rw [ewv] at c3;have hq:=H3.out.ok.hq;clear egv ewv;obtain ⟨nr,hnr⟩:∃ n,W.av.length=n:=⟨_,rfl⟩;obtain ⟨nw,hnw⟩:∃ n,W.wait.length=n:=⟨_,rfl⟩;rw [hnr,hnw] at HRG hq;rw [hnr] at c2 EGV;rw [hnw] at c3;have HNR:=Hz hnr;clear hnr hnw;have hw1:IntKind.i64.wrap ((nr:Int)+nw)=(nr:Int)+nw:=IntWalk.i64_in _ (by omega);go_wp2_with fail;refine ay (.free 0 (.free 1 (.free 2 (.free 5 (.free 6 (.free 7 (.pure 3 (.free 4 (.pure 8 (.free 9 (.free 10 (.free 11 (.fin))))))))))))) [] (fun w'=>w'.cell? ⟨h.p,2,none⟩=some (.slice go nr gc)∧w'.cell? ⟨h.p,3,none⟩=some (.slice wo nw wc)) (by kernel_rfl) (by kernel_rfl) ⟨c2,c3⟩ ?_
 iterate 12 ((first | refine au rfl rfl fun K hK=>?_ | refine aq rfl rfl fun K hK=>?_ | refine aF rfl rfl fun K hK=>?_ | refine az rfl rfl fun K hK=>?_ | refine aE rfl rfl fun K hK=>?_);go_simp;refine hK _ ?_;clear hK K)
 refine aB ?_;clear hw1;by_cases h24:24≤nr+nw
 ·have HE:=Hz (HRG.out.trans (if_pos h24));have hd3:(24:Int)≤(nr:Int)+nw:=by omega
  have hd4:¬ ((nr:Int)+nw<24):=by omega
  clear h24 hq;go_wp2_with fail;go_ret;exact ⟨by rw [HE.out];rfl,by rw [HE.out];exact aK.same HH.out K3.out.drew⟩
 have HE:=Hz (HRG.out.trans (if_neg h24));have hd3:(nr:Int)+nw<24:=by omega
 have hd4:¬ (24:Int)≤(nr:Int)+nw:=by omega
 have HOK2:=Hz (show Wd.ok { W with av:=W.av ++ [(gi,ti)] } by have:=HOK.out;rw [HE.out] at this;exact this);clear h24 HRG;obtain ⟨iv,hi,hz0,hz1,hz2⟩:=cZ nA;have Vi:=Hz hi;have Vz0:=Hz hz0;have Vz1:=Hz hz1;have Vz2:=Hz hz2;clear hi hz0 hz1 hz2;go_wp2_with fail;refine ay (.free 0 (.free 1 (.free 2 (.free 3 (.free 5 (.free 6 (.free 9 (.free 10 (.pure 4 (.pure 7 (.pure 11 (.run 8 (.run 12 (.free 13 (.run 14 (.run 15 (.swi [18] (.free 16 (.free 17 (.run 18 (.swi [] (.fin)))))))))))))))))))))) [15,16,17,18] (fun w'=>w'.cell? ⟨h.p,2,none⟩=some (.slice go nr gc)∧w'.cell? ⟨sb,3,none⟩=some (.int .i64 b)∧w'.cell? ⟨sb,2,none⟩=some (.int .i64 a)) (by kernel_rfl) (by kernel_rfl) ⟨c2,s3,s2⟩ ?_
 iterate 11 ((first | refine au rfl rfl fun K hK=>?_ | refine aq rfl rfl fun K hK=>?_ | refine aF rfl rfl fun K hK=>?_ | refine az rfl rfl fun K hK=>?_ | refine aE rfl rfl fun K hK=>?_);go_simp;refine hK _ ?_;clear hK K)
 refine aM rfl rfl (fun K hK=>?_);unfold aC;go_simp;refine (HGD.out _ (H3.out.same (Kz w3).drew.drew)).mono ?_;rintro e w5 ⟨rfl,hk⟩;have kk:ab (fun _=>False) w3 w5:=(Kz w3).drew.drew.trans hk;have H5:=Hz (H3.out.same kk);have K5:=Hz (K3.out.trans kk);have B5:=Hz (kk.ak B3.out (fun h=>h));have c2:=H5.out.cells.2.2.1;rw [EGV.out] at c2;refine hK _ _ (fun _=>⟨c2,B5.out.cell 3,B5.out.cell 2⟩) ?_;clear hK K hk kk c2 c3 s2 s3 sl pl;refine aM rfl rfl (fun K hK=>?_);unfold aC;go_simp;refine (HTH.out _ H5.out).mono ?_;rintro e w6 ⟨rfl,kk⟩;have H6:=Hz (H5.out.same kk);have K6:=Hz (K5.out.trans kk);have B6:=Hz (kk.ak B5.out (fun h=>h));have c2:=H6.out.cells.2.2.1;rw [EGV.out] at c2;refine hK _ _ (fun _=>⟨c2,B6.out.cell 3,B6.out.cell 2⟩) ?_;clear hK K kk c2 H5 K5 B5
 iterate 1 ((first | refine au rfl rfl fun K hK=>?_ | refine aq rfl rfl fun K hK=>?_);go_simp;refine hK _ ?_;clear hK K)
 refine aM rfl rfl (fun K hK=>?_);unfold aC;go_simp;have kk:=(Kz w6).alloc (.cells #[.int .i64 gi, .int .i64 ti] 152);have H7:=Hz (H6.out.same kk);have K7:=Hz (K6.out.trans kk);have B7:=Hz (kk.ak B6.out (fun h=>h));have c2:=H7.out.cells.2.2.1;rw [EGV.out] at c2;refine hK _ _ (fun _=>⟨c2,B7.out.cell 3,B7.out.cell 2⟩) ?_;clear hK K kk c2;have HGS:=Hz (show Sl (w6.alloc (.cells #[.int .i64 gi, .int .i64 ti] 152)) 152 2 (.slice go nr gc) nr (aA W.av) by have:=H7.out.hg;rw [EGV.out,HNR.out] at this;exact this);refine aJ rfl rfl rfl (fun K hK=>?_);refine fU (.tmp 149) (.tmp 159) 145 rfl 152 iv (.agg #[.int .i64 0, .int .i64 0]) 2 16 Tryz.underlying145 Vi.out Vz0.out Vz1.out Vz2.out rfl (by decide) (.slice go nr gc) nr (aA W.av) rfl HGS.out ⟨w6.heap.size,0,none⟩ 1 1 [.int .i64 gi, .int .i64 ti] rfl rfl (bW w6 152 #[.int .i64 gi, .int .i64 ti]) (by intro u hu;simp at hu;rcases hu with rfl | rfl <;> rfl) (by unfold maxLen;omega) (by omega) ?_;intro v8 w8 hs8 hk8 ho8;refine hK _ _ ?_;clear hK K;have TO:=Hz (aK.aW K7.out (H7.out.Cc (w1:=w8) (v':=v8) (rg:=W.av ++ [(gi,ti)]) (by rw [List.length_append,HNR.out,show aA (W.av ++ [(gi,ti)])=aA W.av ++ [.int .i64 gi, .int .i64 ti] by simp [aA]];exact hs8) (by rw [EGV.out];exact hk8) (by rw [EGV.out];exact ho8) HOK2.out));have HP8:=hk8.ak H7.out.hp (fun e=>by
  obtain ⟨_,c,hc⟩:=HGS.out.own e
  exact hc.ne H7.out.hp (by decide) rfl)
 have x2:=HP8.cell 2;have xl:=HP8.lt;have xf:=HP8.free 2;simp only [Lz,Ls] at x2;obtain ⟨vo8,vc8,rfl,-,-,-⟩:=hs8.rd;clear hs8 hk8 ho8 HP8;refine aH (fun _=>True) trivial ?_
 iterate 2 ((first | refine au rfl rfl fun K hK=>?_ | refine aq rfl rfl fun K hK=>?_);go_simp;refine hK _ ?_;clear hK K)
 refine aJ rfl rfl rfl (fun K hK=>?_);unfold aC;go_simp;refine hK _ _ ?_;clear hK K;refine aH (fun _=>True) trivial (aB ?_);clear x2 xl xf;go_wp2_with fail;go_ret;exact ⟨by rw [HE.out];rfl,by rw [HE.out];exact TO.out⟩
end
end
section
open Go.RowKit
def zw:List Int:=[0,1,1,3,7,3,7,7,1,6,3,3,6,3,7,0,0]
theorem vI (k:Nat) (hk:k<17) (w:World):(Instr.index 184 (.agg #[.int .i64 0, .int .i64 1, .int .i64 1, .int .i64 3, .int .i64 7, .int .i64 3, .int .i64 7, .int .i64 7, .int .i64 1, .int .i64 6, .int .i64 3, .int .i64 3, .int .i64 6, .int .i64 3, .int .i64 7, .int .i64 0, .int .i64 0]) (.int .i64 (k:Int))).run Tryz.prog w=.ok (.int .i64 (zw.getD k 0)) w:=by
 match k,hk with
 | 0,_=>show _=_;kernel_rfl
 | 1,_=>show _=_;kernel_rfl
 | 2,_=>show _=_;kernel_rfl
 | 3,_=>show _=_;kernel_rfl
 | 4,_=>show _=_;kernel_rfl
 | 5,_=>show _=_;kernel_rfl
 | 6,_=>show _=_;kernel_rfl
 | 7,_=>show _=_;kernel_rfl
 | 8,_=>show _=_;kernel_rfl
 | 9,_=>show _=_;kernel_rfl
 | 10,_=>show _=_;kernel_rfl
 | 11,_=>show _=_;kernel_rfl
 | 12,_=>show _=_;kernel_rfl
 | 13,_=>show _=_;kernel_rfl
 | 14,_=>show _=_;kernel_rfl
 | 15,_=>show _=_;kernel_rfl
 | 16,_=>show _=_;kernel_rfl
 | n+17,h=>omega
theorem xj:∀ n:Nat,n<17→1≤n→aR n=zw.getD n 0:=by decide
theorem xm (k:Int) (w:World):Calls Tryz.prog 90 #[.int .i64 k] w fun e w'=>e=.returned (.int .i64 (aR k))∧w=w':=by
 by_cases h1:k<1
 ·have HE:=Hz (show aR k=-1 by unfold aR;repeat' (rw [if_neg (by omega)]));have d1:decide (k<1)=true:=by simpa using h1
  clear h1;go_enter Tryz.func90,Tryz.ntmps90;go_wp2_with fail;go_ret;exact ⟨bX HE.out.symm,rfl⟩
 by_cases h2:16<k
 ·have HE:=Hz (show aR k=-1 by unfold aR;repeat' (rw [if_neg (by omega)]));have d1:decide (k<1)=false:=by simp;omega
  have d2:decide (16<k)=true:=by simpa using h2
  clear h1 h2;go_enter Tryz.func90,Tryz.ntmps90;go_wp2_with fail;go_ret;exact ⟨bX HE.out.symm,rfl⟩
 ·obtain ⟨n,rfl⟩:∃ n:Nat,k=n:=⟨k.toNat,by omega⟩;have d1:decide ((n:Int)<1)=false:=by simpa using h1
  have d2:decide (16<(n:Int))=false:=by simpa using h2
  have HE:=Hz (xj n (by omega) (by omega));have hix:=vI n (by omega);clear h1 h2;go_enter Tryz.func90,Tryz.ntmps90;go_wp2_with fail;go_ret;exact ⟨bX HE.out.symm,rfl⟩
def gJ (u:Int) (j:Nat) (k:Int):Bool:=!gp u j || bD k
theorem lD (u:Int) (hu:u=0∨u=1∨u=3∨u=6∨u=7) (j:Nat) (hj:j=0∨j=1∨j=2) (bit:Int) (hbit:bit=2 ^ j) (k:Int) (b:Nat) (w:World) (hc:w.cell? ⟨b,0,none⟩=some (.int .i64 u)) (hl:b<w.heap.size) :
  Calls Tryz.prog 143 #[.int .i64 k, .int .i64 bit, .pointer (some ⟨b,0,none⟩)] w fun e w'=>e=.returned (.bool (gJ u j k))∧w=w':=by
 have key:∀ z:Bool,decide (k≥0)=z→True:=fun _ _=>trivial;by_cases h0:k<0
 ·have d1:decide (0≤k)=false:=by simpa using h0
  have HR:=Hz (show bD k=false by unfold bD;rw [d1];rfl);clear h0;rcases hu with rfl | rfl | rfl | rfl | rfl <;> rcases hj with rfl | rfl | rfl <;> subst hbit <;> (go_enter Tryz.func143,Tryz.ntmps143;go_wp2_with fail;go_ret;exact ⟨dg (by unfold gJ;rw [HR.out];decide),rfl⟩)
 ·have d1:decide (0≤k)=true:=by simp;omega
  by_cases h1:k<12
  ·have d2:decide (k<12)=true:=by simpa using h1
   have HR:=Hz (show bD k=true by unfold bD;rw [d1,d2];rfl);clear h0 h1;rcases hu with rfl | rfl | rfl | rfl | rfl <;> rcases hj with rfl | rfl | rfl <;> subst hbit <;> (go_enter Tryz.func143,Tryz.ntmps143;go_wp2_with fail;go_ret;exact ⟨dg (by unfold gJ;rw [HR.out];decide),rfl⟩)
  ·have d2:decide (k<12)=false:=by simpa using h1
   have HR:=Hz (show bD k=false by unfold bD;rw [d1,d2];rfl);clear h0 h1;rcases hu with rfl | rfl | rfl | rfl | rfl <;> rcases hj with rfl | rfl | rfl <;> subst hbit <;> (go_enter Tryz.func143,Tryz.ntmps143;go_wp2_with fail;go_ret;exact ⟨dg (by unfold gJ;rw [HR.out];decide),rfl⟩)
end
section
open Go.RowKit
theorem xo {x:St} (h:aR x.k≠-1) {j:Nat} (hj:j<3) (hb:gJ (aR x.k) j (x.jo j)=false):aX x=1:=by
 unfold gJ at hb;simp only [Bool.or_eq_false_iff,Bool.not_eq_false'] at hb;exact oE h hj hb.1 hb.2
theorem vJ {x:St} (h0:gJ (aR x.k) 0 x.r=true) (h1:gJ (aR x.k) 1 x.a=true) (h2:gJ (aR x.k) 2 x.b=true):∀ j,j<3→gp (aR x.k) j=true→bD (x.jo j)=true:=by
 intro j hj hb;have key:∀ {k:Int},gJ (aR x.k) j k=true→bD k=true:=fun {k} h=>by
  unfold gJ at h;rw [hb] at h;simpa using h
 rcases (by omega:j=0∨j=1∨j=2) with rfl | rfl | rfl
 ·exact key h0
 ·exact key h1
 ·exact key h2
theorem dD (x:St) (w:World):Calls Tryz.prog 91 #[.agg #[.int .i64 x.k, .int .i64 x.r, .int .i64 x.a, .int .i64 x.b, .int .i64 x.i, .int .i64 x.n]] w fun e w'=>e=.returned (.int .i64 (aX x))∧ab (fun _=>False) w w':=by
 have HU:=Hz (fun w=>xm x.k w);have HN:=Hz (fun h=>oD (x:=x) h);have HR:=Hz (fun (h1:aR x.k≠-1) j (h2:j<3) h3=>xo (x:=x) h1 (j:=j) h2 h3);have HX:=Hz (fun (h:aR x.k≠-1) h0 h1 h2=>oF (x:=x) h (vJ h0 h1 h2));have hv:=pU x.k;have B1:ah (w.alloc (.cells #[.int .i64 x.k, .int .i64 x.r, .int .i64 x.a, .int .i64 x.b, .int .i64 x.i, .int .i64 x.n] 69)) w.heap.size [.int .i64 x.k, .int .i64 x.r, .int .i64 x.a, .int .i64 x.b, .int .i64 x.i, .int .i64 x.n] 69:=ah.newAt _ rfl rfl;have ka:=(Kz w).alloc (.cells #[.int .i64 x.k, .int .i64 x.r, .int .i64 x.a, .int .i64 x.b, .int .i64 x.i, .int .i64 x.n] 69);obtain ⟨xk,xr,xa,xb,xi,xn⟩:=x;dsimp only at hv B1 ka;generalize hu:aR xk=u at hv;have hU:=Hz hu;dsimp only at HU HR HX HN;rw [hu] at HU HR HX HN;clear hu;go_enter Tryz.func91,Tryz.ntmps91;go_wp2_with fail;generalize w.alloc (.cells #[.int .i64 xk, .int .i64 xr, .int .i64 xa, .int .i64 xb, .int .i64 xi, .int .i64 xn] 69)=w1 at *;generalize w.heap.size=p at *;refine (HU.out _).mono ?_;rintro e _ ⟨rfl,rfl⟩;have p0:=B1.cell 0;have p1:=B1.cell 1;have p2:=B1.cell 2;have p3:=B1.cell 3;have p5:=B1.cell 5;have pl:=B1.lt;simp only [Lz,Ls] at p0 p1 p2 p3 p5;have HB:=Hz B1;have K1:=Hz ka;clear B1 ka HU;by_cases hneg:u=-1
 ·have HE:=Hz (HN.out hneg);subst hneg;clear hv;go_wp2_with fail;go_ret;exact ⟨bX HE.out.symm,K1.out.alloc _⟩
 ·have hd:decide (u<0)=false:=by simp;omega
  have hu5:u=0∨u=1∨u=3∨u=6∨u=7:=by omega
  have HNN:=Hz hneg;have hR:=HR.out hneg;have hX:=HX.out hneg;have HR:=Hz hR;have HX:=Hz hX;have HU5:=Hz hu5;clear hneg hv hR hX hu5;go_upto_region 4 with (fail)
  have ka:=(Kz w1).alloc (.cells #[.int .i64 u] 3);have hub:ah (w1.alloc (.cells #[.int .i64 u] 3)) w1.heap.size [.int .i64 u] 3:=ah.newAt _ rfl rfl;have HB2:=Hz (ka.ak HB.out (fun h=>h));have K2:=Hz (K1.out.trans ka);clear p0 p1 p2 p3 p5 pl ka HB K1;generalize w1.alloc (.cells #[.int .i64 u] 3)=w2 at *;generalize w1.heap.size=q at *;have p0:=HB2.out.cell 0;have p1:=HB2.out.cell 1;have p2:=HB2.out.cell 2;have p3:=HB2.out.cell 3;have p5:=HB2.out.cell 5;have pl:=HB2.out.lt;simp only [Lz,Ls] at p0 p1 p2 p3 p5;have q0:=hub.cell 0;have ql:=hub.lt;simp only [Lz] at q0;have C0:=Hz (lD u HU5.out 0 (by decide) 1 rfl xr q w2 q0 ql);have C1:=Hz (lD u HU5.out 1 (by decide) 2 rfl xa q w2 q0 ql);have C2:=Hz (lD u HU5.out 2 (by decide) 4 rfl xb q w2 q0 ql);clear hub q0 ql;obtain ⟨z0,h0⟩:∃ z,gJ u 0 xr=z:=⟨_,rfl⟩;obtain ⟨z1,h1⟩:∃ z,gJ u 1 xa=z:=⟨_,rfl⟩;obtain ⟨z2,h2⟩:∃ z,gJ u 2 xb=z:=⟨_,rfl⟩;rw [h0] at C0;rw [h1] at C1;rw [h2] at C2;have H0:=Hz h0;have H1:=Hz h1;have H2:=Hz h2;clear h0 h1 h2;go_wp2_with fail;refine C0.out.mono ?_;rintro e _ ⟨rfl,rfl⟩;cases z0
  ·have HE:=Hz (HR.out 0 (by decide) H0.out);go_wp2_with fail;go_ret;exact ⟨bX HE.out.symm,K2.out⟩
  go_wp2_with fail;refine C1.out.mono ?_;rintro e _ ⟨rfl,rfl⟩;cases z1
  ·have HE:=Hz (HR.out 1 (by decide) H1.out);go_wp2_with fail;go_ret;exact ⟨bX HE.out.symm,K2.out⟩
  go_wp2_with fail;refine C2.out.mono ?_;rintro e _ ⟨rfl,rfl⟩;cases z2
  ·have HE:=Hz (HR.out 2 (by decide) H2.out);go_wp2_with fail;go_ret;exact ⟨bX HE.out.symm,K2.out⟩
  have HX2:=Hz (HX.out H0.out H1.out H2.out);clear HX HR C0 C1 C2;by_cases k1:xk=1
  ·subst k1;by_cases n2:xn < -1152921504606846976
   ·have HE:=Hz (show aX ⟨1,xr,xa,xb,xi,xn⟩=1 by rw [HX2.out,if_pos ⟨rfl,fun h=>by unfold cA at h;omega⟩]);have d2:decide (xn < -1152921504606846976)=true:=by simpa using n2
    clear n2 HX2;go_wp2_with fail;go_ret;exact ⟨bX HE.out.symm,K2.out⟩
   have d2:decide (xn < -1152921504606846976)=false:=by simpa using n2
   by_cases n1:1152921504606846976≤xn
   ·have HE:=Hz (show aX ⟨1,xr,xa,xb,xi,xn⟩=1 by rw [HX2.out,if_pos ⟨rfl,fun h=>by unfold cA at h;omega⟩]);have d1:decide (1152921504606846976≤xn)=true:=by simpa using n1
    clear n1 n2 HX2;go_wp2_with fail;go_ret;exact ⟨bX HE.out.symm,K2.out⟩
   ·have HE:=Hz (show aX ⟨1,xr,xa,xb,xi,xn⟩=0 by rw [HX2.out,if_neg (fun h=>h.2 (by unfold cA;omega)),if_neg (fun h=>by omega)]);have d1:decide (1152921504606846976≤xn)=false:=by simpa using n1
    clear n1 n2 HX2;go_wp2_with fail;go_ret;exact ⟨bX HE.out.symm,K2.out⟩
  ·have e1:(xk == 1)=false:=by simpa using k1
   by_cases k5:xk=5
   ·subst k5;by_cases n1:xn<0
    ·have HE:=Hz (show aX ⟨5,xr,xa,xb,xi,xn⟩=1 by rw [HX2.out,if_neg (fun h=>by omega),if_pos ⟨rfl,fun h=>by omega⟩]);have d1:decide (xn<0)=true:=by simpa using n1
     clear n1 HX2 k1;go_wp2_with fail;go_ret;exact ⟨bX HE.out.symm,K2.out⟩
    have d1:decide (xn<0)=false:=by simpa using n1
    by_cases n2:12<xn
    ·have HE:=Hz (show aX ⟨5,xr,xa,xb,xi,xn⟩=1 by rw [HX2.out,if_neg (fun h=>by omega),if_pos ⟨rfl,fun h=>by omega⟩]);have d2:decide (12<xn)=true:=by simpa using n2
     clear n1 n2 HX2 k1;go_wp2_with fail;go_ret;exact ⟨bX HE.out.symm,K2.out⟩
    ·have HE:=Hz (show aX ⟨5,xr,xa,xb,xi,xn⟩=0 by rw [HX2.out,if_neg (fun h=>by omega),if_neg (fun h=>h.2 (by omega))]);have d2:decide (12<xn)=false:=by simpa using n2
     clear n1 n2 HX2 k1;go_wp2_with fail;go_ret;exact ⟨bX HE.out.symm,K2.out⟩
   ·have e5:(xk == 5)=false:=by simpa using k5
    have HE:=Hz (show aX ⟨xk,xr,xa,xb,xi,xn⟩=0 by rw [HX2.out,if_neg (fun h=>k1 h.1),if_neg (fun h=>k5 h.1)]);clear k1 k5 HX2;go_wp2_with fail;go_ret;exact ⟨bX HE.out.symm,K2.out⟩
end
section
open Go.RowKit
def WH.In (h:WH) (k:Nat):Prop:=(k=h.pa∨k=h.g)∨k=h.cb
def jO (w:World) (h:WH) (w':World) (O:Wo):Prop:=bp w' h O∧ab h.In w w'
theorem WH.In.own {h:WH} {k:Nat} (hk:h.In k):h.Own k:=by
 rcases hk with hk | hk
 ·exact .inr (.inl hk)
 ·exact .inr (.inr (.inl (.inr hk)))
section
variable {w w':World} {h:WH} {O O':Wo}
theorem jO.bZ (H:bp w h O) {A:Ar} (t:a5 w h.pa h.g w' A) (hn:A.nur=O.ar.nur):jO w h w' { O with ar:=A }:=
 ⟨H.bZ t hn,t.k.mono (fun k _ hk=>.inl hk)⟩
theorem z9 (x i y:Int) (H:bp w h O) (hy:br y) :
  Calls Tryz.prog 47 #[.pointer (some ⟨h.p,0,none⟩), .int .i64 x, .int .i64 i, .int .i64 y] w fun e w'=>
   e=.returned (.int .i64 (O.set x i y).1)∧jO w h w' (O.set x i y).2:=by
 have HH:=Hz H;have HY:=Hz hy;have pl:=H.hp.lt;have h4:=H.ok.ha.h4;have HN:=Hz (show 0≤(O.ar.nur:Int)∧(O.ar.nur:Int)≤1000000 by have:=H.ok.ha.h1;have:=H.ok.ha.h2;have:=H.ok.ha.h3;omega);by_cases hc:(O.ar.get x i).2=0
 ·have HE:=Hz (Wo.uB (y:=y) hc);obtain ⟨p1,-,p2,p3,p4,p5,-⟩:=ri H.ok.ha hc;have p6:=(O.ar.aU (x/4)).2;have p7:i<12:=by omega
  have P1:=Hz p1;have HC:=Hz hc;clear H hy hc p1 p5 p6;go_enter Tryz.func47,Tryz.ntmps47;go_wp2_with fail;refine (pN x i HH.out).mono ?_;rintro e w1 ⟨rfl,rfl⟩;rw [HC.out];go_wp2_with fail;refine (dt x _ P1.out).mono ?_;rintro e w1 ⟨rfl,rfl⟩;obtain ⟨c0,-,-,-⟩:=HH.out.dZ;go_wp2_with fail;refine (gy (x/4+1+i) y _ HH.out.ha HY.out).mono ?_;rintro e w1 ⟨rfl,ht⟩;have HT:=Hz ht.k;have HW:=Hz (HH.out.bZ ht (O.ar.cU _ _));have HTO:=Hz (jO.bZ HH.out ht (O.ar.cU _ _));clear c0 pl ht;generalize hA:O.ar.store (x/4+1+i) y=A at *;have HA:=Hz hA;clear hA;obtain ⟨c0,c1,-,-⟩:=HW.out.dZ;have pl:=HW.out.hp.lt;by_cases hy4:y%4=1
  ·have HY4:=Hz hy4;cases hyo:A.aG (y/4)
   ·have HF:=Hz (show ¬ (y%4=1∧A.aG (y/4)=true∧A.aP (x/4)=true) by rw [hyo];exact fun h=>by cases h.2.1);clear hy4;go_wp2_with fail;refine (dt y _ HY4.out).mono ?_;rintro e w2 ⟨rfl,rfl⟩;go_wp2_with fail;refine (cN (y/4) _ HW.out.ha).mono ?_;rintro e w2 ⟨rfl,rfl⟩;rw [hyo];go_wp2_with fail;go_ret;refine ⟨by rw [HE.out];rfl,?_⟩;rw [HE.out,if_neg HF.out];exact HTO.out
   ·cases hol:A.aP (x/4)
    ·have HF:=Hz (show ¬ (y%4=1∧A.aG (y/4)=true∧A.aP (x/4)=true) by rw [hol];exact fun h=>by cases h.2.2);clear hy4;go_wp2_with fail;refine (dt y _ HY4.out).mono ?_;rintro e w2 ⟨rfl,rfl⟩;go_wp2_with fail;refine (cN (y/4) _ HW.out.ha).mono ?_;rintro e w2 ⟨rfl,rfl⟩;rw [hyo];go_wp2_with fail;refine (iA (x/4) _ HW.out.ha).mono ?_;rintro e w2 ⟨rfl,rfl⟩;rw [hol];go_wp2_with fail;go_ret;refine ⟨by rw [HE.out];rfl,?_⟩;rw [HE.out,if_neg HF.out];exact HTO.out
    ·have HF:=Hz (show (y%4=1∧A.aG (y/4)=true∧A.aP (x/4)=true) from ⟨hy4,hyo,hol⟩);clear hy4;go_wp2_with fail;refine (dt y _ HY4.out).mono ?_;rintro e w2 ⟨rfl,rfl⟩;go_wp2_with fail;refine (cN (y/4) _ HW.out.ha).mono ?_;rintro e w2 ⟨rfl,rfl⟩;rw [hyo];go_wp2_with fail;refine (iA (x/4) _ HW.out.ha).mono ?_;rintro e w2 ⟨rfl,rfl⟩;rw [hol];go_wp2_with fail;have hcc:=HW.out.hc;have hcl:=HW.out.ok.hc;have hnn:A.nur=O.ar.nur:=by rw [←HA.out];exact O.ar.cU _ _
     refine (wB h.pc h.cb A.nur (x/4) O.cd _ hcc (by rw [hnn];exact HN.out.1) (by rw [hnn];exact HN.out.2) (by omega) (by omega) (by simpa using Nat.le_trans hcl (by decide))).mono ?_;rintro e w2 ⟨rfl,hc2,hk2⟩;have HTO2:=Hz (show jO w h w2 { O with ar:=A,cd:=gG O.ar.nur O.cd (x/4) } by
      have:=HW.out.cards hc2 (by rw [gO];exact hcl) hk2;rw [hnn] at this
      exact ⟨this,(HT.out.mono (fun k _ hk=>.inl hk)).then hk2 (fun k hk=>.inl (.inr hk))⟩)
     clear hcc hcl hnn hc2 hk2;go_wp2_with fail;go_ret;refine ⟨by rw [HE.out];rfl,?_⟩;rw [HE.out,if_pos HF.out];exact HTO2.out
  ·have HY4:=Hz hy4;have HF:=Hz (show ¬ (y%4=1∧A.aG (y/4)=true∧A.aP (x/4)=true) from fun h=>hy4 h.1);clear hy4;go_wp2_with fail;refine (kR y _ HY4.out).mono ?_;rintro e w2 ⟨rfl,rfl⟩;go_wp2_with fail;go_ret;refine ⟨by rw [HE.out];rfl,?_⟩;rw [HE.out,if_neg HF.out];exact HTO.out
 ·have HE:=Hz (Wo.wH (y:=y) hc);have HTC:=Hz (pN x i H);obtain ⟨⟨a,c⟩,hT⟩:∃ t,O.ar.get x i=t:=⟨_,rfl⟩;rw [hT] at hc HE HTC;dsimp only at hc HE HTC;have hcb:(c != 0)=true:=by simpa using hc
  clear H hc hT;go_enter Tryz.func47,Tryz.ntmps47;go_wp2_with fail;refine HTC.out.mono ?_;rintro e w1 ⟨rfl,rfl⟩;go_wp2_with fail;go_ret;refine ⟨by rw [HE.out];rfl,?_⟩;rw [HE.out];exact ⟨HH.out,ab.refl _ _⟩
end
end
section
open Go.RowKit
section
variable {w w':World} {h:WH} {O:Wo}
theorem bp.roots (H:bp w h O):∃ g o cap,h.ro=.slice (some ⟨g,o,none⟩) O.rt.length cap∧ai h.ro g∧g<w.heap.size∧w.cell? ⟨h.p,3,none⟩=some (.slice (some ⟨g,o,none⟩) O.rt.length cap)∧(∀ k,w.frozen? ⟨g,k,none⟩=false) ∧
  ∀ k,k<O.rt.length→w.cell? ⟨g,o+k,none⟩=some (.int .i64 (O.rt.getD k 0)):=by
 obtain ⟨ao,cap,e,hrd,-,-⟩:=H.hr.rd;have h12:=H.ok.h12;obtain ⟨g,o,rfl,hg,hc⟩:=hrd (by intro e;have:=congrArg List.length e;rw [List.length_map,h12] at this;cases this);have hown:ai h.ro g:=by rw [e];rfl
 obtain ⟨-,cur,hb⟩:=H.hr.own hown;refine ⟨g,o,cap,e,hown,hg,by have:=H.dZ.2.2.2;rw [e] at this;exact this,fun k=>hb.free k,fun k hk=>?_⟩;rw [hc k (by simpa using hk)];simp [List.getD,hk]
theorem bp.fN (H:bp w h O) {g o cap k:Nat} {x:Int} (e:h.ro=.slice (some ⟨g,o,none⟩) O.rt.length cap) (hk:k<O.rt.length) (hx:br x) :
  bp (w.setCell ⟨g,o+k,none⟩ (.int .i64 x)) h { O with rt:=O.rt.set k x }∧ab (ai h.ro) w (w.setCell ⟨g,o+k,none⟩ (.int .i64 x)):=by
 have hown:ai h.ro g:=by rw [e];rfl
 have kk:ab (ai h.ro) w (w.setCell ⟨g,o+k,none⟩ (.int .i64 x)):=(ab.refl _ _).setCell (p:=⟨g,o+k,none⟩) (.inl hown) _;refine ⟨⟨kk.ak H.hp (H.j6 H.hp (by decide)),H.ha.ae kk (H.j6 H.ha.hp (by decide)) H.ap,H.hc.ae kk (H.j6 H.hc.hp (by decide)) (H.j6 H.hc.hq (by decide)),H.hs.ae kk (fun b hb=>?_),?_,H.ap, { H.ok with h12:=by simpa using H.ok.h12,hR:=fun y hy=>?_ }⟩,kk⟩
 ·obtain ⟨c,T,hc,hT⟩:=H.hs.cG hb;rcases hT with rfl | rfl
  ·exact H.j6 hc (by decide)
  ·exact H.j6 hc (by decide)
 ·have hs:=H.hr;rw [e] at hs ⊢;have:=hs.set (j:=k) (u:=.int .i64 x) (by omega)
  show Sl _ _ _ _ (O.rt.set k x).length ((O.rt.set k x).map _)
  rw [List.length_set,List.map_set];exact this
 ·rcases List.mem_or_eq_of_mem_set hy with h1 | rfl
  ·exact H.ok.hR y h1
  ·exact hx
end
end
section
section
variable {W:Wd}
def Wd.all (W:Wd):List Int:=W.idx false ++ W.idx true
theorem Wd.hH {i:Int}:i ∈ W.all↔W.live i:=by
 unfold Wd.all;rw [List.mem_append,Wd.c8,Wd.c8];constructor
 ·rintro (h | h) <;> exact h.1
 ·intro h;cases ho:(W.th i).aP
  ·exact .inl ⟨h,rfl⟩
  ·exact .inr ⟨h,rfl⟩
theorem Wd.uK (h:W.ok) {i:Int} (hi:W.live i) {v:Vl} (hv:v ∈ (W.gr i).2) (h3:v.1=3):W.live v.2:=by
 unfold Wd.gr at hv;dsimp only at hv;rcases List.mem_append.1 hv with h1 | h1
 ·exact Wd.bh (h.tv i hi v h1) h3
 ·split at h1
  ·obtain ⟨x,hx,rfl⟩:=List.mem_map.1 h1;unfold ed at hx;obtain ⟨e,he,rfl⟩:=List.mem_map.1 hx;exact (h.wv e (List.mem_filter.1 he).1).2.2
  ·cases h1
theorem Wd.rh (h:W.ok):ux W.gr W.all:=⟨fun i hi v hv h3=>Wd.hH.2 (Wd.uK h (Wd.hH.1 hi) hv h3)⟩
theorem Wd.qT (h:W.ok):W.all.length≤1300:=by
 have key:∀ b,((W.idx b).length:Int)≤((W.idx b).map fun i=>(W.th i).words).sum:=fun b=>by
  generalize W.idx b=l
  induction l with
  | nil=>simp
  | cons a l ih=>
   have hw:(W.th a).words=1+((W.th a).fs.length:Int):=rfl;simp only [List.length_cons,List.map_cons,List.sum_cons];omega
 have h1:=key false;have h2:=key true;rw [Wd.kh] at h1 h2;have e1:(de W.T fun t=>!t.dead && (t.aP == false))=W.aG:=by unfold Wd.aG;congr 1;funext t;cases t.aP <;> rfl
 have e2:(de W.T fun t=>!t.dead && (t.aP == true))=W.cH:=by unfold Wd.cH;congr 1;funext t;cases t.aP <;> rfl
 rw [e1] at h1;rw [e2] at h2;have:=h.uy;have:=h.uo;have:=h.m2;have:=h.g2;unfold Wd.all;rw [List.length_append];omega
def Wd.met (W:Wd):List Int:=kH W.gr W.roots
structure Seen (W:Wd):Prop where
 eq:W.view=(W.roots.map (gB W.met),W.met.map fun x=>qR W.met (W.gr x))
 nd:W.met.Nodup
 rt:∀ v ∈ W.roots,v.1=3→v.2 ∈ W.met
 fd:∀ x ∈ W.met, ∀ v ∈ (W.gr x).2,v.1=3→v.2 ∈ W.met
 led:∀ (k:Nat) (x:Int),W.met[k]? = some x→((3,x):Vl) ∈ W.roots∨∃ (j:Nat) (y:Int),j<k∧W.met[j]? = some y∧((3,x):Vl) ∈ (W.gr y).2
 lv:∀ x ∈ W.met,W.live x
theorem Wd.seen (h0:W.ok):Seen W:=by
 have h:=h0;have hr:∀ v ∈ W.roots,v.1=3→v.2 ∈ W.all:=fun v hv h3=>Wd.hH.2 (Wd.bh (h.rv v hv) h3);obtain ⟨h1,h2,h3,h4,h5⟩:=vs (Wd.rh h) (by have:=Wd.qT h;unfold deep;omega) hr;refine ⟨h1,h2,h3,h4,h5,?_⟩;have key:∀ (k:Nat) (x:Int),W.met[k]? = some x→W.live x:=by
  intro k
  induction k using Nat.strongRecOn with
  | _ k ih=>
   intro x hx;rcases h5 k x hx with h | ⟨j,y,hj,hy,hm⟩
   ·exact Wd.bh (h0.rv _ h) rfl
   ·exact Wd.uK h0 (ih j hj y hy) hm rfl
 intro x hx;obtain ⟨k,hk,rfl⟩:=List.mem_iff_getElem.1 hx;exact key k _ (Le hk)
theorem Seen.lens (S:Seen W) (h:W.ok):W.view.1.length=12∧W.view.2.length≤1300∧∀ n ∈ W.view.2,n.2.length≤100:=by
 rw [S.eq];refine ⟨by simpa using h.hr,?_,fun n hn=>?_⟩
 ·dsimp only;rw [List.length_map];have hsub:∀ x ∈ W.met,x ∈ W.all:=fun x hx=>Wd.hH.2 (S.lv x hx);have h1:=n9 (f:=fun _=>1) (fun _=>by decide) S.nd hsub;have e:∀ l:List Int,(l.map fun _=>(1:Int)).sum=l.length:=fun l=>by
   induction l with
   | nil=>rfl
   | cons a l ih=>simp only [List.map_cons,List.sum_cons,ih,List.length_cons];omega
  rw [e,e] at h1;have:=Wd.qT h;omega
 ·obtain ⟨x,hx,rfl⟩:=List.mem_map.1 hn;have hl:=S.lv x hx;have h1:=(bP (h.tk x hl)).2.2.2;have h2:=h.hq;have h3:(ed W.wait x).length≤W.wait.length:=by unfold ed;rw [List.length_map];exact List.length_filter_le _ _
  unfold qR Wd.gr;simp only [List.length_map,List.length_append];split
  ·rw [List.length_map];omega
  ·simp;omega
end
end
section
open Go.RowKit
theorem Aa {m k:Nat} {x y:Value} (hx:x=.int .i64 ((k+1:Nat):Int)) (hy:y=.int .i64 (k:Int)) (h:k<m):m-(intOf x).toNat<m-(intOf y).toNat:=by
 subst hx;subst hy;simp [intOf];omega
section
variable {w0 w w':World} {p:Nat} {h:WH} {O O':Wo}
end
end
section
structure Gs where
 lv:List Bool
 st:List Int
 ep:List Int
def aY (s:Gs) (x:Int):Bool:=!decide (x%4=1) || ax s.lv (x/4)
def cJ (s:Gs) (x:Int):Gs:=if aY s x=true then s else ⟨s.lv.set (x/4).toNat true,s.st ++ [x/4],s.ep⟩
def eg (s:Gs) (l:List Int):Gs:=l.foldl cJ s
def jk (A:Ar) (s:Gs) (i:Int):Gs:=
 if (A.aj i).1=1∨(A.aj i).1=2 then eg s (A.fields i)
 else if (A.aj i).1=3 then cJ s (A.load (i+2))
 else if (A.aj i).1=4 then { s with ep:=s.ep ++ [i] }
 else s
def iL (A:Ar) (s:Gs):Gs:=jk A { s with st:=s.st.dropLast } (s.st.getLastD 0)
def jPops (A:Ar):Nat→Gs→Gs
 | 0,s=>s
 | n+1,s=>if s.st=[] then s else jPops A n (iL A s)
def fu (A:Ar) (s:Gs) (i:Int):Gs:=if aY s (A.load (i+1))=true then cJ s (A.load (i+2)) else s
def gT (A:Ar) (s:Gs) (l:List Int):Gs:=l.foldl (fu A) s
def kM (s:Gs) (x:Int):Gs × Int:=(cJ s x,x)
def df (A:Ar) (q:List (Int × Int)) (s:Gs):Gs:=(wakeM aY kM (gT A (jPops A 2000 s) (jPops A 2000 s).ep) q).1
def eh (A:Ar) (q:List (Int × Int)):Nat→Gs→Gs
 | 0,s=>s
 | n+1,s=>if (df A q s).st=[] then df A q s else eh A q n (df A q s)
def iE (A:Ar) (s:Gs) (q:List (Int × Int)) (x:Int):Gs × List (Int × Int) × Int:=(eh A q 2000 (cJ s x),q,x)
def nG (O:Wo):Gs:=eh O.ar O.wt 2000 (eg ⟨List.replicate O.ar.ws.length false,[],[]⟩ O.rt)
def cm (O:Wo):Gs × List (Int × Int) × List It:=fJ aY (iE O.ar) (nG O) O.rg O.wt
def fw (s:Gs) (x:Int):Int:=x
def jPlan (A:Ar) (lv:List Bool) (base:Int):List Int→List Int × Int→List Int × Int
 | [],t=>t
 | i :: l,t=>jPlan A lv base l (if ax lv i=true then (t.1.set i.toNat (base+t.2),t.2+(1+(A.aj i).2.1)) else t)
def cx (f:List Int) (x:Int):Int:=if x%4=1 then gP (f.getD (x/4).toNat 0) else x
def jl (s:Gs) (f:List Int) (b:Bool) (A:Ar) (i:Int):Ar:=A.store i (if (b || !aY s (A.load i))=true then 3 else cx f (A.load i))
def jTurnN (s:Gs) (f:List Int) (b:Bool):Nat→Ar→Int→Ar
 | 0,A,_=>A
 | n+1,A,i=>jTurnN s f b n (jl s f b A i) (i+1)
def dK (s:Gs) (f:List Int) (A:Ar) (i:Int):Ar:=jTurnN s f (decide ((A.aj i).1=4) && !aY s (A.load (i+1))) (A.aj i).2.1.toNat A (i+1)
def bA (f:List Int) (A:Ar) (i:Int):Ar:=
 { A with ws:=lay A.ws (f.getD i.toNat 0).toNat ((A.ws.drop i.toNat).take (1+(A.aj i).2.1).toNat) }
def kN (O:Wo):List Int:=O.ar.aT.2 ++ O.ar.aT.1
def bY (O:Wo):List Int:=(kN O).filter fun i=>ax (cm O).1.lv i
def dy (O:Wo):List Int × Int:=jPlan O.ar (cm O).1.lv O.ar.nur (kN O) (List.replicate O.ar.ws.length 0,0)
def ct (f:List Int) (e:Int × Int):Int × Int:=(cx f e.1,cx f e.2)
def dE (O:Wo):Ar:=(bY O).foldl (dK (cm O).1 (dy O).1) O.ar
def jm (O:Wo):Ar:=(bY O).foldl (bA (dy O).1) (dE O)
def dL (O:Wo):Int × Wo:=
 if (dy O).2 > ((O.ar.grn:Int)-O.ar.nur)+((O.ar.ws.length:Int)-O.ar.grn) then (3,O)
 else (0,⟨((jm O).cut (dy O).2.toNat).clear,O.cd.map fun _=>false,O.rt.map (cx (dy O).1),
  (bz aY fw (cm O).1 (cm O).2.2).map (ct (dy O).1),(bC aY fw (cm O).1 (cm O).2.1).map (ct (dy O).1)⟩)
def cy (l:List Bool):Nat:=(l.filter fun b=>!b).length
theorem mx:∀ {l:List Bool} {i:Nat},i<l.length→l.getD i false=false→cy (l.set i true)+1=cy l
 | [],i,h,_=>by simp at h
 | b :: l,0,_,h=>by
  have hb:b=false:=by simpa using h
  subst hb;simp [cy]
 | b :: l,i+1,h,hv=>by
  have:=mx (l:=l) (i:=i) (by simpa using h) (by simpa using hv);unfold cy at *;rw [List.set_cons_succ];cases b <;> simp [List.filter_cons] <;> omega
theorem Ab (l:List Bool):cy l≤l.length:=List.length_filter_le _ _
def jM (s:Gs):Nat:=s.st.length+cy s.lv
theorem my:∀ (q:List (Int × Int)) (s:Gs),(wakeM aY kM s q).2.1=q
 | [],s=>rfl
 | e :: q,s=>by
  unfold wakeM;split
  ·simp only [my q];rfl
  ·simp only [my q]
def uL (W:Wd) (φ:Int→Int) (s:Gs) (S:Int→Prop) (i:Int):Prop:=
 (((W.th i).k=1∨(W.th i).k=2)→∀ v ∈ (W.th i).fs,v.1=3→S v.2)∧((W.th i).k=3→∀ v,(W.th i).fs[1]? = some v→v.1=3→S v.2)∧((W.th i).k=4→φ i ∈ s.ep)
structure Mk (O:Wo) (W:Wd) (φ:Int→Int) (Al Ex:Int→Prop) (s:Gs) (S:Int→Prop):Prop where
 len:s.lv.length=O.ar.ws.length
 at_:∀ p,ax s.lv p=true↔∃ i,S i∧φ i=p
 sl:∀ i,S i→W.live i
 al:∀ i,S i→Al i
 st:∀ p ∈ s.st, ∃ i,S i∧φ i=p
 ep:∀ p ∈ s.ep, ∃ i,S i∧(W.th i).k=4∧φ i=p
 done:∀ i,S i→Ex i∨φ i ∈ s.st∨uL W φ s S i
section
variable {O:Wo} {W:Wd} {φ:Int→Int} {s s':Gs} {S S' Al Ex:Int→Prop} {qw:List (Int × Int)}
theorem Mk.alive (R:aL O W φ) (M:Mk O W φ Al Ex s S) {v:Vl} (hv:W.cI v):aY s (aD φ v)=true↔(v.1=3→S v.2):=by
 unfold aY;by_cases h3:v.1=3
 ·have hl:=Wd.bh hv h3;rw [bI φ h3,show (4*φ v.2+1)%4=1 by omega,show (4*φ v.2+1)/4=φ v.2 by omega];simp only [decide_true,Bool.not_true,Bool.false_or];rw [M.at_];constructor
  ·rintro ⟨i,hi,e⟩ _;rw [←R.inj i v.2 (M.sl i hi) hl e];exact hi
  ·intro h;exact ⟨_,h h3,rfl⟩
 ·have:¬ aD φ v%4=1:=fun h=>h3 ((fG hv).1 h);simp [this,h3]
theorem Mk.eq (M:Mk O W φ Al Ex s S) (h:∀ k,S k↔S' k):Mk O W φ Al Ex s S':=by
 have e:S=S':=funext fun k=>propext (h k);rw [←e];exact M
structure MX (s:Gs) (S:Int→Prop) (s':Gs) (S':Int→Prop):Prop where
 sub:∀ k,S k→S' k
 ep:∀ p ∈ s.ep,p ∈ s'.ep
 m:jM s'=jM s
 f:cy s'.lv≤cy s.lv
theorem MX.refl:MX s S s S:=⟨fun _ h=>h,fun _ h=>h,rfl,Nat.le_refl _⟩
theorem MX.trans {s2:Gs} {S2:Int→Prop} (h:MX s S s' S') (k:MX s' S' s2 S2):MX s S s2 S2:=
 ⟨fun i hi=>k.sub i (h.sub i hi),fun p hp=>k.ep p (h.ep p hp),k.m.trans h.m,Nat.le_trans k.f h.f⟩
theorem Mk.mark (R:aL O W φ) (M:Mk O W φ Al Ex s S) {v:Vl} (hv:W.cI v) (ha:v.1=3→Al v.2) :
  Mk O W φ Al Ex (cJ s (aD φ v)) (fun k=>S k∨(v.1=3∧k=v.2))∧MX s S (cJ s (aD φ v)) (fun k=>S k∨(v.1=3∧k=v.2))∧(cJ s (aD φ v)).ep=s.ep ∧
   ((∀ p ∈ s.st,p ∈ (cJ s (aD φ v)).st)∧∀ p ∈ (cJ s (aD φ v)).st,p ∈ s.st∨∃ k,¬ S k∧v.1=3∧k=v.2):=by
 by_cases hc:aY s (aD φ v)=true
 ·have e:cJ s (aD φ v)=s:=if_pos hc;have h:=(M.alive R hv).1 hc;rw [e];refine ⟨M.eq (fun k=>⟨.inl,?_⟩),⟨fun k h=>.inl h,fun _ h=>h,rfl,Nat.le_refl _⟩,rfl,fun _ h=>h,fun _ h=>.inl h⟩;rintro (h' | ⟨h',rfl⟩)
  ·exact h'
  ·exact h h'
 ·have hn:¬ (v.1=3→S v.2):=fun h=>hc ((M.alive R hv).2 h);have h3:v.1=3:=Decidable.byContradiction fun h=>hn (fun h'=>(h h').elim);have hs:¬ S v.2:=fun h=>hn (fun _=>h);have hl:=Wd.bh hv h3;have e:cJ s (aD φ v)=⟨s.lv.set (φ v.2).toNat true,s.st ++ [φ v.2],s.ep⟩:=by
   unfold cJ;rw [if_neg hc,bI φ h3,show (4*φ v.2+1)/4=φ v.2 by omega]
  have hp:=R.place hl;have hset:∀ p,ax (s.lv.set (φ v.2).toNat true) p=true↔p=φ v.2∨ax s.lv p=true:=fun p=>fM hp.1 (by rw [M.len];exact hp.2.2);have hold:s.lv.getD (φ v.2).toNat false=false:=by
   cases h:s.lv.getD (φ v.2).toNat false
   ·rfl
   ·rw [dN hp.1] at h;obtain ⟨i,hi,e⟩:=(M.at_ _).1 h;rw [R.inj i v.2 (M.sl i hi) hl e] at hi;exact (hs hi).elim
  rw [e];refine ⟨⟨by simpa using M.len,fun p=>?_,fun i hi=>?_,fun i hi=>?_,fun p hp=>?_,fun p hp=>?_,fun i hi=>?_⟩,⟨fun k h=>.inl h,fun _ h=>h,?_,?_⟩,rfl,fun p hp=>by simp [hp],fun p hp=>?_⟩
  ·dsimp only;rw [hset,M.at_];constructor
   ·rintro (h | ⟨i,hi,e⟩)
    ·exact ⟨v.2, .inr ⟨h3,rfl⟩,h.symm⟩
    ·exact ⟨i, .inl hi,e⟩
   ·rintro ⟨i,hi | ⟨_,rfl⟩,e⟩
    ·exact .inr ⟨i,hi,e⟩
    ·exact .inl e.symm
  ·rcases hi with h | ⟨_,rfl⟩
   ·exact M.sl i h
   ·exact hl
  ·rcases hi with h | ⟨h,rfl⟩
   ·exact M.al i h
   ·exact ha h
  ·rcases List.mem_append.1 hp with h | h
   ·obtain ⟨i,hi,e⟩:=M.st p h;exact ⟨i, .inl hi,e⟩
   ·rw [List.mem_singleton.1 h];exact ⟨v.2, .inr ⟨h3,rfl⟩,rfl⟩
  ·obtain ⟨i,hi,e⟩:=M.ep p hp;exact ⟨i, .inl hi,e⟩
  ·rcases hi with h | ⟨_,rfl⟩
   ·rcases M.done i h with h1 | h1 | h1
    ·exact .inl h1
    ·exact .inr (.inl (by simp [h1]))
    ·exact .inr (.inr ⟨fun hk v hv h3=>.inl (h1.1 hk v hv h3),fun hk v hv h3=>.inl (h1.2.1 hk v hv h3),h1.2.2⟩)
   ·exact .inr (.inl (by simp))
  ·have:=mx (l:=s.lv) (i:=(φ v.2).toNat) (by rw [M.len];omega) hold;simp only [jM,List.length_append,List.length_cons,List.length_nil];omega
  ·have:=mx (l:=s.lv) (i:=(φ v.2).toNat) (by rw [M.len];omega) hold;dsimp only;omega
  ·rcases List.mem_append.1 hp with h | h
   ·exact .inl h
   ·exact .inr ⟨v.2,hs,h3,rfl⟩
theorem Mk.marks (R:aL O W φ):∀ (l:List Vl) {s:Gs} {S:Int→Prop},Mk O W φ Al Ex s S→(∀ v ∈ l,W.cI v∧(v.1=3→Al v.2)) →
  ∃ S',Mk O W φ Al Ex (eg s (l.map (aD φ))) S'∧MX s S (eg s (l.map (aD φ))) S'∧(eg s (l.map (aD φ))).ep=s.ep∧(∀ v ∈ l,v.1=3→S' v.2)∧∀ k,S' k→S k∨((3,k):Vl) ∈ l
 | [],s,S,M,_=>⟨S,M,MX.refl,rfl,by simp,fun k h=>.inl h⟩
 | v :: l,s,S,M,hl=>by
  have hv:=hl v (by simp);obtain ⟨M1,X1,e1,_,_⟩:=M.mark R hv.1 hv.2;obtain ⟨S2,M2,X2,e2,k2,b2⟩:=Mk.marks R l M1 (fun u hu=>hl u (by simp [hu]));have e:eg s ((v :: l).map (aD φ))=eg (cJ s (aD φ v)) (l.map (aD φ)):=rfl;rw [e];refine ⟨S2,M2,X1.trans X2,e2.trans e1,fun u hu h3=>?_,fun k hk=>?_⟩
  ·rcases List.mem_cons.1 hu with rfl | hu
   ·exact X2.sub _ (.inr ⟨h3,rfl⟩)
   ·exact k2 u hu h3
  ·rcases b2 k hk with (h | ⟨h,rfl⟩) | h
   ·exact .inl h
   ·exact .inr (by rw [←h];simp)
   ·exact .inr (by simp [h])
theorem uL.mono {i:Int} (h:uL W φ s S i) (hS:∀ k,S k→S' k) (he:∀ p ∈ s.ep,p ∈ s'.ep):uL W φ s' S' i:=
 ⟨fun hk v hv h3=>hS _ (h.1 hk v hv h3),fun hk v hv h3=>hS _ (h.2.1 hk v hv h3),fun hk=>he _ (h.2.2 hk)⟩
theorem nH {l:List Int} (h:l≠[]):l.getLastD 0 ∈ l∧l=l.dropLast ++ [l.getLastD 0]:=by
 have e:l.getLastD 0=l.getLast h:=by
  cases l with
  | nil=>exact (h rfl).elim
  | cons a l=>rw [List.getLastD_cons,List.getLast_eq_getLastD]
 rw [e];exact ⟨List.getLast_mem h,(List.dropLast_concat_getLast h).symm⟩
theorem Mk.pop (R:aL O W φ) (hal:cC W.nd qw Al) (M:Mk O W φ Al Ex s S) (hne:s.st≠[]) :
  ∃ S',Mk O W φ Al Ex (iL O.ar s) S'∧(∀ k,S k→S' k)∧(∀ p ∈ s.ep,p ∈ (iL O.ar s).ep)∧jM (iL O.ar s)+1=jM s∧cy (iL O.ar s).lv≤cy s.lv:=by
 obtain ⟨hm,he⟩:=nH hne;obtain ⟨i,hi,hp⟩:=M.st _ hm;have hl:=M.sl i hi;have hth:=R.th i hl;have hmm:jM { s with st:=s.st.dropLast } + 1=jM s:=by
  unfold jM;dsimp only;rw [List.length_dropLast];have:0<s.st.length:=List.length_pos_iff.2 hne;omega
 have M0:Mk O W φ Al (fun k=>Ex k∨k=i) { s with st:=s.st.dropLast } S:=⟨M.len,M.at_,M.sl,M.al,fun p hp=>M.st p (by rw [he];simp [show p ∈ s.st.dropLast from hp]),M.ep,fun k hk=>by
  rcases M.done k hk with h | h | h
  ·exact .inl (.inl h)
  ·by_cases ek:k=i
   ·exact .inl (.inr ek)
   ·rw [he] at h;rcases List.mem_append.1 h with h | h
    ·exact .inr (.inl h)
    ·exact (ek (R.inj k i (M.sl k hk) hl (by rw [List.mem_singleton.1 h,←hp]))).elim
  ·exact .inr (.inr h)⟩
 generalize hs0:({ s with st:=s.st.dropLast }:Gs)=s0 at *;have hep:s0.ep=s.ep:=by rw [←hs0]
 have hlv:s0.lv=s.lv:=by rw [←hs0]
 have fin:∀ {t:Gs} {T:Int→Prop},Mk O W φ Al (fun k=>Ex k∨k=i) t T→uL W φ t T i→Mk O W φ Al Ex t T:=fun {t T} M1 hL=>
  ⟨M1.len,M1.at_,M1.sl,M1.al,M1.st,M1.ep,fun k hk=>by
   rcases M1.done k hk with (h | rfl) | h
   ·exact .inl h
   ·exact .inr (.inr hL)
   ·exact .inr h⟩
 have okf:∀ v ∈ (W.th i).fs,W.cI v:=fun v hv=>R.hw.tv i hl v hv;unfold iL;rw [hs0,←hp];unfold jk;rw [hth];dsimp only;by_cases k12:(W.th i).k=1∨(W.th i).k=2
 ·rw [if_pos k12,R.fields hl];obtain ⟨S1,M1,X1,e1,k1,b1⟩:=Mk.marks R (W.th i).fs M0 (fun v hv=>⟨okf v hv,fun h3=>hal i _ (M.al i hi) (.inl ⟨k12,by show ((3,v.2):Vl) ∈ (W.th i).fs;rw [←h3];exact hv⟩)⟩);refine ⟨S1,fin M1 ⟨fun _=>k1,fun h=>by omega,fun h=>by omega⟩,X1.sub,fun p hp=>by rw [e1,hep];exact hp,by rw [X1.m];exact hmm,by rw [←hlv];exact X1.f⟩
 ·rw [if_neg k12];by_cases k3:(W.th i).k=3
  ·rw [if_pos k3];have h2:=Wd.two R.hw hl (.inl k3);have hj:(W.th i).fs[1]? = some (W.th i).fs[1]:=Le (by omega);have hld:=R.fl i hl 1 _ hj;rw [show φ i+1+((1:Nat):Int)=φ i+2 by omega] at hld;rw [hld];obtain ⟨M1,X1,e1,_⟩:=M0.mark R (okf _ (List.mem_of_getElem? hj)) (fun h3=>hal i _ (M.al i hi) (.inr (.inl ⟨k3,by
    show (W.th i).fs[1]? = _
    rw [hj];congr 1;exact Prod.ext h3 rfl⟩)))
   refine ⟨_,fin M1 ⟨fun h=>(k12 h).elim,fun _ v hv h3=>?_,fun h=>by omega⟩,X1.sub,fun p hp=>by rw [e1,hep];exact hp,by rw [X1.m];exact hmm,by rw [←hlv];exact X1.f⟩;rw [hj] at hv;cases hv;exact .inr ⟨h3,rfl⟩
  ·rw [if_neg k3];by_cases k4:(W.th i).k=4
   ·rw [if_pos k4];have M1:Mk O W φ Al (fun k=>Ex k∨k=i) { s0 with ep:=s0.ep ++ [φ i] } S:=⟨M0.len,M0.at_,M0.sl,M0.al,M0.st,fun p hp=>by
     rcases List.mem_append.1 hp with h | h
     ·exact M0.ep p h
     ·rw [List.mem_singleton.1 h];exact ⟨i,hi,k4,rfl⟩,fun k hk=>by
     rcases M0.done k hk with h | h | h
     ·exact .inl h
     ·exact .inr (.inl h)
     ·exact .inr (.inr (h.mono (fun _ h=>h) (fun p hp=>by simp [hp])))⟩
    exact ⟨S,fin M1 ⟨fun h=>(k12 h).elim,fun h=>(k3 h).elim,fun _=>by simp⟩,fun _ h=>h,fun p hp=>by rw [←hep] at hp;simp [hp],hmm,by rw [←hlv];exact Nat.le_refl _⟩
   ·rw [if_neg k4];exact ⟨S,fin M0 ⟨fun h=>(k12 h).elim,fun h=>(k3 h).elim,fun h=>(k4 h).elim⟩,fun _ h=>h,fun p hp=>by rw [hep];exact hp,hmm,by rw [←hlv];exact Nat.le_refl _⟩
theorem Mk.nI (R:aL O W φ) (hal:cC W.nd qw Al):∀ (n:Nat) {s:Gs} {S:Int→Prop},Mk O W φ Al Ex s S→jM s<n →
  ∃ S',Mk O W φ Al Ex (jPops O.ar n s) S'∧(∀ k,S k→S' k)∧(∀ p ∈ s.ep,p ∈ (jPops O.ar n s).ep)∧(jPops O.ar n s).st=[]∧cy (jPops O.ar n s).lv≤cy s.lv
 | 0,s,S,M,hn=>by omega
 | n+1,s,S,M,hn=>by
  unfold jPops;by_cases hne:s.st=[]
  ·rw [if_pos hne];exact ⟨S,M,fun _ h=>h,fun _ h=>h,hne,Nat.le_refl _⟩
  ·rw [if_neg hne];obtain ⟨S1,M1,s1,e1,m1,f1⟩:=M.pop R hal hne;obtain ⟨S2,M2,s2,e2,t2,f2⟩:=Mk.nI R hal n M1 (by omega);exact ⟨S2,M2,fun k hk=>s2 k (s1 k hk),fun p hp=>e2 p (e1 p hp),t2,by omega⟩
theorem Mk.mr (R:aL O W φ) (hal:cC W.nd qw Al):∀ (l:List Int) {s:Gs} {S:Int→Prop},Mk O W φ Al Ex s S→(∀ p ∈ l, ∃ i,S i∧(W.th i).k=4∧φ i=p) →
  ∃ S',Mk O W φ Al Ex (gT O.ar s l) S'∧MX s S (gT O.ar s l) S'∧(gT O.ar s l).ep=s.ep ∧
   ∀ i,S i→(W.th i).k=4→φ i ∈ l→(∀ v,(W.th i).fs[0]? = some v→v.1=3→S v.2)→∀ v,(W.th i).fs[1]? = some v→v.1=3→S' v.2
 | [],s,S,M,hl=>⟨S,M,MX.refl,rfl,fun i _ _ h=>by cases h⟩
 | p :: l,s,S,M,hl=>by
  obtain ⟨i,hi,k4,rfl⟩:=hl p (by simp);have hli:=M.sl i hi;have h2:=Wd.two R.hw hli (.inr (.inl k4));have hj0:(W.th i).fs[0]? = some (W.th i).fs[0]:=Le (by omega);have hj1:(W.th i).fs[1]? = some (W.th i).fs[1]:=Le (by omega);have ok0:=R.hw.tv i hli _ (List.mem_of_getElem? hj0);have ok1:=R.hw.tv i hli _ (List.mem_of_getElem? hj1);have l0:=R.fl i hli 0 _ hj0;have l1:=R.fl i hli 1 _ hj1;rw [show φ i+1+((0:Nat):Int)=φ i+1 by omega] at l0;rw [show φ i+1+((1:Nat):Int)=φ i+2 by omega] at l1;have step:∃ S1,Mk O W φ Al Ex (fu O.ar s (φ i)) S1∧MX s S (fu O.ar s (φ i)) S1∧(fu O.ar s (φ i)).ep=s.ep∧((∀ v,(W.th i).fs[0]? = some v→v.1=3→S v.2)→∀ v,(W.th i).fs[1]? = some v→v.1=3→S1 v.2):=by
   unfold fu;rw [l0,l1];have ha:=M.alive R ok0;by_cases hm:aY s (aD φ (W.th i).fs[0])=true
   ·rw [if_pos hm];obtain ⟨M1,X1,e1,_⟩:=M.mark R ok1 (fun h3=>hal i _ (M.al i hi) (.inr (.inr (.inl ⟨k4,by
     show (W.th i).fs[1]? = _
     rw [hj1];congr 1;exact Prod.ext h3 rfl,fun v hv h5=>by
     have hv':(W.th i).fs[0]? = some v:=hv;rw [hj0] at hv';cases hv'
     exact M.al _ (ha.1 hm h5)⟩))))
    exact ⟨_,M1,X1,e1,fun _ v hv h3=>by rw [hj1] at hv;cases hv;exact .inr ⟨h3,rfl⟩⟩
   ·rw [if_neg hm];exact ⟨S,M,MX.refl,rfl,fun h=>(hm (ha.2 (fun h3=>h _ hj0 h3))).elim⟩
  obtain ⟨S1,M1,X1,e1,k1⟩:=step;obtain ⟨S2,M2,X2,e2,k2⟩:=Mk.mr R hal l M1 (fun p hp=>by
   obtain ⟨k,h3,h4,h5⟩:=hl p (by simp [hp])
   exact ⟨k,X1.sub k h3,h4,h5⟩)
  have e:gT O.ar s (φ i :: l)=gT O.ar (fu O.ar s (φ i)) l:=rfl;rw [e];refine ⟨S2,M2,X1.trans X2,e2.trans e1,fun k hk k4' hkl hkey v hv h3=>?_⟩;rcases List.mem_cons.1 hkl with h | h
  ·have:=R.inj k i (M.sl k hk) hli h;subst this;exact X2.sub _ (k1 hkey v hv h3)
  ·exact k2 k (X1.sub k hk) k4' h (fun v hv h3=>X1.sub _ (hkey v hv h3)) v hv h3
theorem Mk.eL (R:aL O W φ) (hal:cC W.nd qw Al) (hqw:∀ e ∈ qw,W.dj e):∀ (m:List (Int × Int)) {s:Gs} {S:Int→Prop},Mk O W φ Al Ex s S→(∀ f ∈ m,f ∈ qw) →
  ∃ S',Mk O W φ Al Ex (wakeM aY kM s (m.map (bq φ))).1 S'∧MX s S (wakeM aY kM s (m.map (bq φ))).1 S'∧∀ f ∈ m,S f.1→S' f.2
 | [],s,S,M,hm=>⟨S,M,MX.refl,fun f h=>by cases h⟩
 | f :: m,s,S,M,hm=>by
  have hf:=hqw f (hm f (by simp));have okg:W.cI (3,f.1):=.inr (.inr (.inr ⟨rfl,hf.1⟩));have okt:W.cI (3,f.2):=.inr (.inr (.inr ⟨rfl,hf.2.2⟩));have ag:=M.alive R okg;have at_:=M.alive R okt;simp only [forall_const] at ag at_;rw [List.map_cons];unfold wakeM;rw [dC];dsimp only;by_cases hc:(aY s (aD φ (3,f.1)) && !aY s (aD φ (3,f.2)))=true
  ·rw [if_pos hc];rw [Bool.and_eq_true] at hc;have hg:=ag.1 hc.1;obtain ⟨M1,X1,e1,_⟩:=M.mark R okt (fun _=>hal f.1 _ (M.al _ hg) (.inr (.inr (.inr ⟨hf.2.1,by show (f.1,f.2) ∈ qw;exact hm f (by simp)⟩))));obtain ⟨S2,M2,X2,k2⟩:=Mk.eL R hal hqw m M1 (fun f hf=>hm f (by simp [hf]));refine ⟨S2,M2,X1.trans X2,fun f' hf' hs=>?_⟩;rcases List.mem_cons.1 hf' with rfl | h
   ·exact X2.sub _ (.inr ⟨rfl,rfl⟩)
   ·exact k2 f' h (X1.sub _ hs)
  ·rw [if_neg hc];obtain ⟨S2,M2,X2,k2⟩:=Mk.eL R hal hqw m M (fun f hf=>hm f (by simp [hf]));refine ⟨S2,M2,X2,fun f' hf' hs=>?_⟩;rcases List.mem_cons.1 hf' with rfl | h
   ·have h1:=ag.2 hs;rw [h1] at hc;simp at hc;exact X2.sub _ (at_.1 hc)
   ·exact k2 f' h hs
theorem rB:∀ {l m:List Bool},l.length=m.length→(∀ i,l.getD i false=true→m.getD i false=true)→cy m≤cy l∧(cy m=cy l→m=l)
 | [],[],_,_=>⟨Nat.le_refl _,fun _=>rfl⟩
 | a :: l,b :: m,hl,h=>by
  have ih:=rB (l:=l) (m:=m) (by simpa using hl) (fun i hi=>by have:=h (i+1);simpa using this (by simpa using hi));have h0:=h 0;simp only [List.getD_cons_zero] at h0;unfold cy at *;cases a <;> cases b <;> simp [List.filter_cons] at * <;> first | exact ih | (refine ⟨by omega,fun h=>by omega⟩)
 | [],b :: m,hl,_=>by simp at hl
 | a :: l,[],hl,_=>by simp at hl
theorem Mk.same (R:aL O W φ) (M:Mk O W φ Al Ex s S) (M':Mk O W φ Al Ex s' S') (X:MX s S s' S') (h1:s.st=[]) (h2:s'.st=[]):∀ k,S' k→S k:=by
 have hm:=X.m;unfold jM at hm;rw [h1,h2] at hm;simp only [List.length_nil,Nat.zero_add] at hm;have e:=(rB (l:=s.lv) (m:=s'.lv) (M.len.trans M'.len.symm) (fun i hi=>by
  rw [←eV] at hi ⊢;obtain ⟨k,hk,e⟩:=(M.at_ _).1 hi
  exact (M'.at_ _).2 ⟨k,X.sub k hk,e⟩)).2 hm
 intro k hk;have h3:ax s.lv (φ k)=true:=by rw [←e];exact (M'.at_ _).2 ⟨k,hk,rfl⟩
 obtain ⟨j,hj,ej⟩:=(M.at_ _).1 h3;rw [←R.inj j k (M.sl j hj) (M'.sl k hk) ej];exact hj
theorem vK {A:Ar}:∀ (n:Nat) {s:Gs},s.st=[]→jPops A n s=s
 | 0,s,h=>rfl
 | n+1,s,h=>by unfold jPops;rw [if_pos h]
theorem Mk.round (R:aL O W φ) (hal:cC W.nd qw Al) (hqw:∀ e ∈ qw,W.dj e) (M:Mk O W φ Al (fun _=>False) s S) (hm:jM s<2000) :
  ∃ S',Mk O W φ Al (fun _=>False) (df O.ar (qw.map (bq φ)) s) S'∧(∀ k,S k→S' k)∧jM (df O.ar (qw.map (bq φ)) s)≤cy s.lv∧((df O.ar (qw.map (bq φ)) s).st=[]→cC W.nd qw S'):=by
 obtain ⟨S1,M1,s1,e1,t1,f1⟩:=M.nI R hal 2000 hm;obtain ⟨S2,M2,X2,e2,k2⟩:=Mk.mr R hal (jPops O.ar 2000 s).ep M1 M1.ep;obtain ⟨S3,M3,X3,k3⟩:=Mk.eL R hal hqw qw M2 (fun f h=>h);have X:=X2.trans X3;have e:df O.ar (qw.map (bq φ)) s=(wakeM aY kM (gT O.ar (jPops O.ar 2000 s) (jPops O.ar 2000 s).ep) (qw.map (bq φ))).1:=rfl;rw [e];refine ⟨S3,M3,fun k hk=>X.sub k (s1 k hk),?_,fun hst=>?_⟩
 ·rw [X.m];unfold jM;rw [t1];simpa using f1
 ·have b1:=M1.same R M3 X t1 hst;have b2:∀ k,S3 k→S2 k:=fun k hk=>X2.sub k (b1 k hk);intro i j hi hl;have hi1:=b1 i hi;have L:uL W φ (jPops O.ar 2000 s) S1 i:=by
   rcases M1.done i hi1 with h | h | h
   ·exact h.elim
   ·rw [t1] at h;cases h
   ·exact h
  have up:∀ k,S1 k→S3 k:=X.sub;rcases hl with ⟨hk,hm⟩ | ⟨hk,hm⟩ | ⟨hk,hm,hkey⟩ | ⟨hk,hm⟩
  ·exact up _ (L.1 hk (3,j) hm rfl)
  ·exact up _ (L.2.1 hk (3,j) hm rfl)
  ·exact X3.sub _ (k2 i hi1 hk (L.2.2 hk) (fun v hv h3=>b1 _ (hkey v hv h3)) (3,j) hm rfl)
  ·exact k3 (i,j) hm (b2 i hi)
theorem Mk.drain (R:aL O W φ) (hal:cC W.nd qw Al) (hqw:∀ e ∈ qw,W.dj e):∀ (n:Nat) {s:Gs} {S:Int→Prop},Mk O W φ Al (fun _=>False) s S→jM s<2000→cy s.lv<n →
  ∃ S',Mk O W φ Al (fun _=>False) (eh O.ar (qw.map (bq φ)) n s) S'∧(∀ k,S k→S' k)∧(eh O.ar (qw.map (bq φ)) n s).st=[]∧cC W.nd qw S'
 | 0,s,S,M,hm,hn=>by omega
 | n+1,s,S,M,hm,hn=>by
  obtain ⟨S1,M1,s1,m1,c1⟩:=M.round R hal hqw hm;unfold eh;by_cases hst:(df O.ar (qw.map (bq φ)) s).st=[]
  ·rw [if_pos hst];exact ⟨S1,M1,s1,hst,c1 hst⟩
  ·rw [if_neg hst];have hpos:=List.length_pos_iff.2 hst;unfold jM at m1 hm;obtain ⟨S2,M2,s2,t2,c2⟩:=Mk.drain R hal hqw n M1 (by unfold jM;omega) (by omega);exact ⟨S2,M2,fun k hk=>s2 k (s1 k hk),t2,c2⟩
structure Js (O:Wo) (W:Wd) (φ:Int→Int) (s:Gs) (is:List Bool) (qw:List (Int × Int)):Prop where
 M:Mk O W φ (fun k=>ax is k=true) (fun _=>False) s (fun k=>ax is k=true)
 st:s.st=[]
 shut:cC W.nd qw fun k=>ax is k=true
 len:is.length=W.T.length
 ok:∀ e ∈ qw,W.dj e
theorem Mk.mq (M:Mk O W φ Al Ex s S) {Bl:Int→Prop} (h:∀ k,S k→Bl k):Mk O W φ Bl Ex s S:=⟨M.len,M.at_,M.sl,h,M.st,M.ep,M.done⟩
theorem Mk.qe (R:aL O W φ) (hqw:∀ e ∈ qw,W.dj e) {is:List Bool} (hlen:is.length=W.T.length) (hS:∀ k,S k↔ax is k=true)
  (M:Mk O W φ Al (fun _=>False) s S) (hm:jM s≤1280):Js O W φ (eh O.ar (qw.map (bq φ)) 2000 s) (W.cX qw is) qw:=by
 have M':=M.mq (Bl:=fun k=>b9 W.nd qw (fun k=>ax is k=true) k) (fun k hk=>b9.base ((hS k).1 hk));obtain ⟨S1,M1,s1,t1,c1⟩:=M'.drain R (b9.closed W.nd qw _) hqw 2000 (by omega) (by unfold jM at hm;omega);have e:S1=fun k=>ax (W.cX qw is) k=true:=by
  funext k
  refine propext ⟨fun hk=>?_,fun hk=>?_⟩
  ·have hl:=M1.sl k hk;exact c6.2 ⟨hl.1,by rw [hlen];exact hl.2.1,M1.al k hk⟩
  ·exact (c6.1 hk).2.2.least (fun j hj=>s1 j ((hS j).2 hj)) c1
 subst e;exact ⟨M1.mq (fun k hk=>hk),t1,c1,by unfold Wd.cX;rw [du,hlen],hqw⟩
theorem Js.m {is:List Bool} (h:Js O W φ s is qw) (hO:O.ok):jM s≤1280:=by
 unfold jM;rw [h.st];have:=Ab s.lv;have:=h.M.len;have:=hO.ha.h4;simp;omega
theorem sP (n:Nat):cy (List.replicate n false)=n:=by unfold cy;simp
theorem aL.Cz (R:aL O W φ):Js O W φ (nG O) (W.cX W.wait (W.first true)) W.wait:=by
 have hflen:(W.first true).length=W.T.length:=Wd.eK W true;have M0:Mk O W φ (fun _=>True) (fun _=>False) ⟨List.replicate O.ar.ws.length false,[],[]⟩ (fun _=>False):=
  ⟨by simp,fun p=>by
   constructor
   ·intro h;unfold ax at h;simp only [Ld,List.getElem?_replicate] at h;split at h <;> simp at h
   ·rintro ⟨_,h,_⟩;exact h.elim,fun _ h=>h.elim,fun _ h=>h.elim,(by intro p h;cases h),(by intro p h;cases h),fun _ h=>h.elim⟩
 obtain ⟨S1,M1,X1,e1,k1,b1⟩:=Mk.marks R W.roots M0 (fun v hv=>⟨R.hw.rv v hv,fun _=>trivial⟩);have hS1:∀ k,S1 k↔ax (W.first true) k=true:=fun k=>by
  rw [Wd.jy];constructor
  ·intro hk;have hl:=M1.sl k hk;refine ⟨hl.1,hl.2.1, .inr ?_⟩;rcases b1 k hk with h | h
   ·exact h.elim
   ·exact h
  ·rintro ⟨h0,h4,h5 | h5⟩
   ·cases h5.2.2
   ·exact k1 _ h5 rfl
 unfold nG;rw [R.wt,R.rt];refine M1.qe R R.hw.wv hflen hS1 ?_;rw [X1.m];unfold jM;dsimp only;rw [sP];have:=R.ho.ha.h4;simp;omega
theorem Js.ae (R:aL O W φ) {is:List Bool} (P:Js O W φ s is qw) {x g:Int} (hx:W.live x) (hg:W.live g) (hk:(W.th g).k=5) :
  Js O W φ (iE O.ar s (qw.map (bq φ)) (aD φ (3,x))).1 (W.cX qw (is.set x.toNat true)) (qw ++ [(g,x)]):=by
 have okx:W.cI (3,x):=.inr (.inr (.inr ⟨rfl,hx⟩));obtain ⟨M1,X1,e1,_⟩:=(P.M.mq (Bl:=fun _=>True) (fun _ _=>trivial)).mark R okx (fun _=>trivial);have hS1:∀ k,(ax is k=true∨((3:Int)=3∧k=x))↔ax (is.set x.toNat true) k=true:=fun k=>by
  rw [fM hx.1 (by rw [P.len];exact hx.2.1)];constructor
  ·rintro (h | ⟨_,h⟩)
   ·exact .inr h
   ·exact .inl h
  ·rintro (h | h)
   ·exact .inr ⟨rfl,h⟩
   ·exact .inl h
 have P2:=M1.qe R P.ok (by rw [List.length_set];exact P.len) hS1 (by rw [X1.m];exact P.m R.ho);have hxin:ax (W.cX qw (is.set x.toNat true)) x=true:=c6.2 ⟨hx.1,by rw [List.length_set,P.len];exact hx.2.1,b9.base ((hS1 x).1 (.inr ⟨rfl,rfl⟩))⟩;refine ⟨P2.M,P2.st,?_,P2.len,fun e he=>?_⟩
 ·intro a b ha hl;by_cases hb:b=x
  ·subst hb;exact hxin
  ·refine P2.shut a b ha ?_;rcases hl with h | h | h | ⟨h,h'⟩
   ·exact .inl h
   ·exact .inr (.inl h)
   ·exact .inr (.inr (.inl h))
   ·refine .inr (.inr (.inr ⟨h,?_⟩));rcases List.mem_append.1 h' with h4 | h4
    ·exact h4
    ·simp at h4;exact absurd h4.2 hb
 ·rcases List.mem_append.1 he with h | h
  ·exact P.ok e h
  ·rw [List.mem_singleton.1 h];exact ⟨hg,hk,hx⟩
theorem Js.alive (R:aL O W φ) {is:List Bool} (P:Js O W φ s is qw) {x:Int} (hx:W.live x):aY s (aD φ (3,x))=ax is x:=by
 have:=P.M.alive R (v:=(3,x)) (.inr (.inr (.inr ⟨rfl,hx⟩)));simp only [forall_const] at this;rw [Bool.eq_iff_iff];exact this
theorem Js.scan (R:aL O W φ):∀ (l:List It) {s:Gs} {is:List Bool} {qw:List (Int × Int)},Js O W φ s is qw→(∀ i ∈ l,W.dj i.1) →
  Js O W φ (scanM aY (iE O.ar) s (qw.map (bq φ)) (l.map (cS φ))).1 (scanM ax W.bx is qw l).1 (scanM ax W.bx is qw l).2.1 ∧
   (scanM aY (iE O.ar) s (qw.map (bq φ)) (l.map (cS φ))).2.1=(scanM ax W.bx is qw l).2.1.map (bq φ) ∧
   (scanM aY (iE O.ar) s (qw.map (bq φ)) (l.map (cS φ))).2.2.1=(scanM ax W.bx is qw l).2.2.1.map (cS φ)∧(scanM aY (iE O.ar) s (qw.map (bq φ)) (l.map (cS φ))).2.2.2=(scanM ax W.bx is qw l).2.2.2
 | [],s,is,qw,P,_=>⟨P,rfl,rfl,rfl⟩
 | i :: l,s,is,qw,P,hl=>by
  have hi:=hl i (by simp);have ea:aY s (cS φ i).1.1=ax is i.1.1:=by
   show aY s (bq φ i.1).1=_
   rw [dC];exact P.alive R hi.1
  simp only [List.map_cons,scanM];rw [ea];have e2:(cS φ i).2=i.2:=rfl;rw [e2];by_cases hc:(i.2.1 && !i.2.2 && ax is i.1.1)=true
  ·rw [if_pos hc,if_pos hc];have P1:=P.ae R hi.2.2 hi.1 hi.2.1;have e3:(cS φ i).1.2=aD φ (3,i.1.2):=by show (bq φ i.1).2=_;rw [dC]
   have e4:(cS φ i).1.1=aD φ (3,i.1.1):=by show (bq φ i.1).1=_;rw [dC]
   have eq1:(iE O.ar s (qw.map (bq φ)) (cS φ i).1.2).2.1 ++ [((cS φ i).1.1,(iE O.ar s (qw.map (bq φ)) (cS φ i).1.2).2.2)]=(qw ++ [(i.1.1,i.1.2)]).map (bq φ):=by
    rw [List.map_append]
    show qw.map (bq φ) ++ [((cS φ i).1.1,(cS φ i).1.2)]=_
    rfl
   rw [eq1,e3];obtain ⟨P2,h0,h1,h2⟩:=Js.scan R l P1 (fun j hj=>hl j (by simp [hj]));refine ⟨P2,h0,?_,rfl⟩;dsimp only;rw [h1];rfl
  ·rw [if_neg hc,if_neg hc];obtain ⟨P2,h0,h1,h2⟩:=Js.scan R l P (fun j hj=>hl j (by simp [hj]));refine ⟨P2,h0,?_,h2⟩;dsimp only;rw [h1];rfl
theorem Js.rounds (R:aL O W φ):∀ (n:Nat) (l:List It) {s:Gs} {is:List Bool} {qw:List (Int × Int)},Js O W φ s is qw→(∀ i ∈ l,W.dj i.1) →
  Js O W φ (roundsM aY (iE O.ar) n s (qw.map (bq φ)) (l.map (cS φ))).1 (roundsM ax W.bx n is qw l).1 (roundsM ax W.bx n is qw l).2.1 ∧
   (roundsM aY (iE O.ar) n s (qw.map (bq φ)) (l.map (cS φ))).2.1=(roundsM ax W.bx n is qw l).2.1.map (bq φ) ∧
   (roundsM aY (iE O.ar) n s (qw.map (bq φ)) (l.map (cS φ))).2.2=(roundsM ax W.bx n is qw l).2.2.map (cS φ)
 | 0,l,s,is,qw,P,hl=>⟨P,rfl,rfl⟩
 | n+1,l,s,is,qw,P,hl=>by
  obtain ⟨P1,h0,h1,h2⟩:=P.scan R l hl;have hl1:=me is qw hl;simp only [roundsM];rw [h2];by_cases hc:(scanM ax W.bx is qw l).2.2.2=true
  ·rw [if_pos hc,if_pos hc,h1,h0];exact Js.rounds R n _ P1 hl1
  ·rw [if_neg hc,if_neg hc];exact ⟨P1,h0,h1⟩
theorem aL.iZ (R:aL O W φ):Js O W φ (cm O).1 (W.pass true).1 (W.pass true).2.1∧(cm O).2.1=(W.pass true).2.1.map (bq φ)∧(cm O).2.2=(W.pass true).2.2.map (cS φ):=by
 have P0:=R.Cz;have e:bQ aY (nG O) O.rg=(bQ ax (W.cX W.wait (W.first true)) W.av).map (cS φ):=by
  unfold bQ;rw [R.rg,List.map_map,List.map_map];refine List.map_congr_left fun e he=>?_;have:=R.hw.gv e he
  show (bq φ e,!aY _ (bq φ e).2,false)=(bq φ e,!ax _ e.2,false)
  rw [show (bq φ e).2=aD φ (3,e.2) by rw [dC],P0.alive R this.2.2]
 have hlen:O.rg.length=W.av.length:=by rw [R.rg];simp
 unfold cm Wd.pass fJ;rw [e,hlen,R.wt];exact P0.rounds R _ _ (fun i hi=>by
  simp only [bQ,List.mem_map] at hi;obtain ⟨e,he,rfl⟩:=hi
  exact R.hw.gv e he)
end
end
section
def fx (sz f:Int→Int):List Int→Int→Int→Prop
 | [],a,b=>a=b
 | p :: l,a,b=>f p=a∧fx sz f l (a+sz p) b
theorem fx.le {sz f:Int→Int} (h0:∀ p,0≤sz p):∀ {l:List Int} {a b:Int},fx sz f l a b→a≤b
 | [],a,b,h=>by have h:a=b:=h;omega
 | p :: l,a,b,h=>by have:=fx.le h0 h.2;have:=h0 p;omega
theorem fx.mem {sz f:Int→Int} (h0:∀ p,0≤sz p):∀ {l:List Int} {a b:Int},fx sz f l a b→∀ p ∈ l,a≤f p∧f p+sz p≤b
 | q :: l,a,b,h,p,hp=>by
  rcases List.mem_cons.1 hp with rfl | hp
  ·have:=fx.le h0 h.2;have:=h.1;omega
  ·have:=fx.mem h0 h.2 p hp;have:=h0 q;omega
def dW (f:List Int) (p:Int):Int:=f.getD p.toNat 0
theorem mz {A:Ar} {lv:List Bool} {base:Int}:∀ {l:List Int} {t:List Int × Int},l.Nodup→(∀ p ∈ l,0≤p∧p<t.1.length) →
  fx (fun p=>1+(A.aj p).2.1) (dW (jPlan A lv base l t).1) (l.filter fun i=>ax lv i) (base+t.2) (base+(jPlan A lv base l t).2)∧(∀ q,0≤q→¬ q ∈ l→dW (jPlan A lv base l t).1 q=dW t.1 q)∧(jPlan A lv base l t).1.length=t.1.length
 | [],t,_,_=>⟨rfl,fun _ _ _=>rfl,rfl⟩
 | i :: l,t,hn,hr=>by
  rw [List.nodup_cons] at hn;have hi:=hr i (by simp);unfold jPlan;by_cases hc:ax lv i=true
  ·rw [if_pos hc,List.filter_cons,if_pos hc];obtain ⟨h1,h2,h3⟩:=mz (A:=A) (lv:=lv) (base:=base) (l:=l) (t:=(t.1.set i.toNat (base+t.2),t.2+(1+(A.aj i).2.1))) hn.2 (fun p hp=>by
    have:=hr p (by simp [hp]);simpa using this)
   refine ⟨⟨?_,?_⟩,fun q hq hqi=>?_,by rw [h3];simp⟩
   ·rw [h2 i hi.1 hn.1];unfold dW;dsimp only;rw [Ld,List.getElem?_set_self (by omega)]
    rfl
   ·have e:base+t.2+(1+(A.aj i).2.1)=base+(t.2+(1+(A.aj i).2.1)):=by omega
    rw [e];exact h1
   ·rw [List.mem_cons,not_or] at hqi;rw [h2 q hq hqi.2];unfold dW;dsimp only;rw [Ld,Ld,List.getElem?_set_ne (by omega)]
  ·rw [if_neg hc,List.filter_cons,if_neg hc];obtain ⟨h1,h2,h3⟩:=mz (A:=A) (lv:=lv) (base:=base) (l:=l) (t:=t) hn.2 (fun p hp=>hr p (by simp [hp]));exact ⟨h1,fun q hq hqi=>h2 q hq (fun h=>hqi (by simp [h])),h3⟩
def wd (A:Ar) (i:Int):Int:=A.ws.getD i.toNat 0
def sQ (sz:Int→Int) (n:Int):List Int→Int→Prop
 | [],_=>True
 | p :: l,a=>0≤a∧0≤p∧p+sz p≤n∧a+sz p≤n∧(∀ q ∈ l,a+sz p≤q∨q+sz q≤a)∧sQ sz n l (a+sz p)
theorem oI {A:Ar} {f:List Int} {p a:Int} (hf:dW f p=a) (h0:0≤a) (hp:0≤p) (h1:p+(1+(A.aj p).2.1)≤A.ws.length) (h2:a+(1+(A.aj p).2.1)≤A.ws.length) :
  (bA f A p).ws.length=A.ws.length∧(∀ x,0≤x→wd (bA f A p) x=if a≤x∧x<a+(1+(A.aj p).2.1) then wd A (p+(x-a)) else wd A x)∧(∀ x ∈ (bA f A p).ws,x ∈ A.ws)∧(bA f A p).nur=A.nur∧(bA f A p).yng=A.yng∧(bA f A p).grn=A.grn:=by
 have hn:=A.aU p;have hl:((A.ws.drop p.toNat).take (1+(A.aj p).2.1).toNat).length=(1+(A.aj p).2.1).toNat:=by simp;omega
 unfold dW at hf;have hle:a.toNat+((A.ws.drop p.toNat).take (1+(A.aj p).2.1).toNat).length≤A.ws.length:=by rw [hl];omega
 refine ⟨?_,fun x hx=>?_,fun x hx=>?_,rfl,rfl,rfl⟩
 ·unfold bA;rw [hf];exact dI hle
 ·unfold bA wd;rw [hf];dsimp only;rw [ju hle,hl];by_cases hc:a≤x∧x<a+(1+(A.aj p).2.1)
  ·rw [if_pos (by omega),if_pos hc];simp only [Ld];rw [List.getElem?_take,if_pos (by omega),List.getElem?_drop];congr 2;omega
  ·rw [if_neg (by omega),if_neg hc]
 ·unfold bA at hx;rw [hf] at hx;rcases nU hx with h | h
  ·exact h
  ·exact List.mem_of_mem_drop (List.mem_of_mem_take h)
theorem jC {A:Ar} {p:Int} (h:A.aS p=true):A.load p=wd A p:=by unfold Ar.load;rw [if_pos h];rfl
theorem qh {f:List Int} {sz:Int→Int}:∀ {l:List Int} {a b:Int} {A:Ar},fx sz (dW f) l a b→sQ sz A.ws.length l a→(∀ p ∈ l,A.aS p=true∧1+(A.aj p).2.1=sz p)→l.Nodup→(∀ p,0≤sz p) →
  (l.foldl (bA f) A).ws.length=A.ws.length∧(∀ x,0≤x→(x<a∨b≤x)→wd (l.foldl (bA f) A) x=wd A x)∧(∀ p ∈ l, ∀ j,0≤j→j<sz p→wd (l.foldl (bA f) A) (dW f p+j)=wd A (p+j)) ∧
   (∀ x ∈ (l.foldl (bA f) A).ws,x ∈ A.ws)∧(l.foldl (bA f) A).nur=A.nur∧(l.foldl (bA f) A).yng=A.yng∧(l.foldl (bA f) A).grn=A.grn
 | [],a,b,A,_,_,_,_,_=>⟨rfl,fun _ _ _=>rfl,fun p h=>by simp at h,fun _ h=>h,rfl,rfl,rfl⟩
 | p :: l,a,b,A,hs,hd,hz,hn,h0=>by
  obtain ⟨d0,dp,d1,d2,d3,d4⟩:=hd;have hp:=hz p (by simp);rw [List.nodup_cons] at hn;obtain ⟨k1,k2,k3,k4,k5,k6⟩:=oI (A:=A) (f:=f) (p:=p) (a:=a) hs.1 d0 dp (by rw [hp.2];exact d1) (by rw [hp.2];exact d2);rw [hp.2] at k2;have huse:∀ x,(bA f A p).aS x=A.aS x:=fun x=>by unfold Ar.aS Ar.aG Ar.aP;rw [k4,k5,k6]
  have hz':∀ q ∈ l,(bA f A p).aS q=true∧1+((bA f A p).aj q).2.1=sz q:=fun q hq=>by
   have h:=hz q (by simp [hq]);refine ⟨by rw [huse];exact h.1,?_⟩;have hq0:0≤q:=by
    have:=h.1;unfold Ar.aS at this;rw [Bool.or_eq_true,bV,c7] at this;omega
   have e:(bA f A p).load q=A.load q:=by
    rw [jC h.1,jC (by rw [huse];exact h.1),k2 q hq0,if_neg];have:=d3 q hq;have:=h0 q;have h1:=A.aU q;omega
   rw [cL e];exact h.2
  obtain ⟨m1,m2,m3,m4,m5,m6,m7⟩:=qh (f:=f) (sz:=sz) (l:=l) (a:=a+sz p) (b:=b) (A:=bA f A p) hs.2 (by rw [k1];exact d4) hz' hn.2 h0;have hle:=fx.le h0 hs.2;rw [List.foldl_cons];refine ⟨m1.trans k1,fun x hx hxx=>?_,fun q hq j hj hjs=>?_,fun x hx=>k3 x (m4 x hx),m5.trans k4,m6.trans k5,m7.trans k6⟩
  ·have:=h0 p;rw [m2 x hx (by omega),k2 x hx,if_neg (by omega)]
  ·rcases List.mem_cons.1 hq with rfl | hq
   ·rw [hs.1];rw [m2 (a+j) (by omega) (by omega),k2 (a+j) (by omega),if_pos (by omega)];congr 1;omega
   ·have h:=hz q (by simp [hq]);have hq0:0≤q:=by
     have:=h.1;unfold Ar.aS at this;rw [Bool.or_eq_true,bV,c7] at this;omega
    rw [m3 q hq j hj hjs,k2 (q+j) (by omega),if_neg];have:=d3 q hq;omega
def rC (s:Gs) (f:List Int) (b:Bool) (x:Int):Int:=if (b || !aY s x)=true then 3 else cx f x
theorem mA {s:Gs} {f:List Int} {b:Bool}:∀ (n:Nat) {A:Ar} (i:Int),A.ok→(∀ j:Int,0≤j→j<n→A.aS (i+j)=true∧br (rC s f b (A.load (i+j)))) →
  (jTurnN s f b n A i).ok∧(jTurnN s f b n A i).nur=A.nur∧(jTurnN s f b n A i).yng=A.yng∧(jTurnN s f b n A i).grn=A.grn∧(jTurnN s f b n A i).ws.length=A.ws.length ∧
   (∀ q,(jTurnN s f b n A i).load q=if i≤q∧q<i+n then rC s f b (A.load q) else A.load q)
 | 0,A,i,h,_=>⟨h,rfl,rfl,rfl,rfl,fun q=>by rw [if_neg (by omega)];rfl⟩
 | n+1,A,i,h,hr=>by
  have h0:=hr 0 (by omega) (by omega);rw [Int.add_zero] at h0;have e:jl s f b A i=A.store i (rC s f b (A.load i)):=rfl;have hok:(jl s f b A i).ok:=by rw [e];exact h.store _ _ h0.2
  have hld:∀ q,(jl s f b A i).load q=if q=i then rC s f b (A.load i) else A.load q:=fun q=>by
   rw [e,Ar.eF h];by_cases hq:q=i
   ·rw [if_pos ⟨hq,h0.1⟩,if_pos hq]
   ·rw [if_neg (fun h=>hq h.1),if_neg hq]
  have huse:∀ x,(jl s f b A i).aS x=A.aS x:=fun x=>by unfold Ar.aS Ar.aG Ar.aP;rw [e,Ar.cU,Ar.fg,Ar.dA]
  obtain ⟨m1,m2,m3,m4,m5,m6⟩:=mA (s:=s) (f:=f) (b:=b) n (A:=jl s f b A i) (i+1) hok (fun j h1 h2=>by
   have:=hr (1+j) (by omega) (by omega);rw [huse,hld,if_neg (by omega),show i+1+j=i+(1+j) by omega]
   exact this)
  unfold jTurnN;refine ⟨m1,m2.trans (by rw [e,Ar.cU]),m3.trans (by rw [e,Ar.fg]),m4.trans (by rw [e,Ar.dA]),m5.trans (by rw [e,Ar.kU]),fun q=>?_⟩;rw [m6 q];by_cases hq:q=i
  ·subst hq;rw [if_neg (by omega),if_pos (by omega),hld,if_pos rfl]
  ·rw [hld,if_neg hq];by_cases hc:i+1≤q∧q<i+1+n
   ·rw [if_pos hc,if_pos (by omega)]
   ·rw [if_neg hc,if_neg (by omega)]
end
section
section
variable {O:Wo} {W:Wd} {φ:Int→Int} {A B:Ar} {s:Gs} {is:List Bool} {f:List Int} {qw:List (Int × Int)}
theorem j9 {φ:Int→Int} {P:Int→Prop}:∀ {l:List Int},(∀ p ∈ l, ∃ i,P i∧φ i=p)→∃ m:List Int,m.map φ=l∧∀ i ∈ m,P i
 | [],_=>⟨[],rfl,by simp⟩
 | p :: l,h=>by
  obtain ⟨i,hi,e⟩:=h p (by simp);obtain ⟨m,hm,hP⟩:=j9 (l:=l) (fun q hq=>h q (by simp [hq]));refine ⟨i :: m,by simp [e,hm],fun k hk=>?_⟩;rcases List.mem_cons.1 hk with rfl | hk
  ·exact hi
  ·exact hP k hk
theorem nJ {φ:Int→Int}:∀ {l:List Int},(l.map φ).Nodup→l.Nodup
 | [],_=>List.nodup_nil
 | a :: l,h=>by
  rw [List.map_cons,List.nodup_cons] at h;rw [List.nodup_cons];exact ⟨fun ha=>h.1 (List.mem_map.2 ⟨a,ha,rfl⟩),nJ h.2⟩
theorem qU {sz f:Int→Int} (h0:∀ p,0≤sz p) {n nur b:Int} (hb:b≤n) (hn:0≤nur):∀ {l m:List Int} {a:Int},fx sz f (l ++ m) a b→nur≤a→(∀ p ∈ l,a≤p∧p+sz p≤n)→l.Pairwise (fun p q=>p+sz p≤q) →
  (∀ q ∈ m,0≤q∧q+sz q≤nur)→sQ sz n (l ++ m) a
 | [],[],a,_,_,_,_,_=>trivial
 | [],q :: m,a,hs,ha,hl,hp,hm=>by
  have hq:=hm q (by simp);have hle:=fx.le h0 hs.2;have h1:=h0 q;refine ⟨by omega,hq.1,by omega,by omega,fun r hr=>.inr (by have:=hm r (by simp [show r ∈ m from hr]);omega),?_⟩;exact qU h0 hb hn (l:=[]) (m:=m) hs.2 (by omega) (by simp) List.Pairwise.nil (fun r hr=>hm r (by simp [hr]))
 | p :: l,m,a,hs,ha,hl,hp,hm=>by
  have hpp:=hl p (by simp);have hle:=fx.le h0 hs.2;have h1:=h0 p;rw [List.pairwise_cons] at hp;refine ⟨by omega,by omega,hpp.2,by omega,fun r hr=>?_,?_⟩
  ·rcases List.mem_append.1 hr with h | h
   ·have:=hp.1 r h;left;omega
   ·right;have:=hm r h;omega
  ·exact qU h0 hb hn hs.2 (by omega) (fun r hr=>by have:=hp.1 r hr;have:=hl r (by simp [hr]);omega) hp.2 hm
theorem Ac (is:List Bool):eU is W.T=((((List.range W.T.length).map (Int.ofNat ·)).filter fun i=>ax is i).map fun i=>(W.th i).words).sum:=by
 rw [ji];unfold eU;congr 1;apply List.ext_getElem
 ·simp
 ·intro k h1 h2;simp only [List.length_mapIdx] at h1;simp only [List.getElem_mapIdx,List.getElem_map,List.getElem_range];have e1:W.th (Int.ofNat k)=W.T[k]:=by
   unfold Wd.th;rw [Ld,show (Int.ofNat k).toNat=k from rfl,Le h1];rfl
  have e2:ax is (Int.ofNat k)=is.getD k false:=eV is k;rw [e1,e2]
theorem fx.sum {sz f:Int→Int}:∀ {l:List Int} {a b:Int},fx sz f l a b→b=a+(l.map sz).sum
 | [],a,b,h=>by have h:a=b:=h;simp [h]
 | p :: l,a,b,h=>by
  have:=fx.sum h.2;simp only [List.map_cons,List.sum_cons];omega
theorem fx.iJ {sz:Int→Int} {φ g:Int→Int}:∀ {l:List Int} {a b:Int},fx sz g (l.map φ) a b→(∀ i ∈ l,(A.aj (g (φ i))).2.2=0∧1+(A.aj (g (φ i))).2.1=sz (φ i))→Tile A (l.map fun i=>g (φ i)) a b
 | [],a,b,h,_=>h
 | i :: l,a,b,h,ht=>by
  have h1:=ht i (by simp);refine ⟨h.1,h1.1,?_⟩;have:=fx.iJ h.2 (fun k hk=>ht k (by simp [hk]));have e:a+sz (φ i)=g (φ i)+1+(A.aj (g (φ i))).2.1:=by have:=h.1;omega
  rw [←e];exact this
def cY (f:List Int) (φ:Int→Int) (i:Int):Int:=dW f (φ i)
theorem sR {v:Vl} {N:Int} (hok:W.cI v) (hN:v.1=3→0≤cY f φ v.2∧cY f φ v.2≤1280):cx f (aD φ v)=aD (cY f φ) v:=by
 by_cases h3:v.1=3
 ·have:=hN h3;rw [bI φ h3,bI _ h3];unfold cx;rw [if_pos (by omega),show (4*φ v.2+1)/4=φ v.2 by omega]
  show gP (cY f φ v.2)=_
  unfold gP;rw [IntKind.wrap_i64];omega
 ·unfold cx;rw [if_neg (fun h=>h3 ((fG hok).1 h))];exact j8 h3
structure Tn (O:Wo) (W:Wd) (φ:Int→Int) (s:Gs) (f:List Int) (is:List Bool):Prop where
 live:∀ i,ax is i=true→W.live i
 al:∀ v,W.cI v→(aY s (aD φ v)=true↔(v.1=3→ax is v.2=true))
 rng:∀ i,ax is i=true→0≤cY f φ i∧cY f φ i≤1280
theorem Tn.br (T:Tn O W φ s f is) {v:Vl} (hok:W.cI v) (hs:v.1=3→ax is v.2=true):br (aD (cY f φ) v):=by
 unfold Proofs.YtjifdalflepcoacGreat.br;rcases hok with h | h | h | h
 ·have e:aD (cY f φ) v=2:=by simp [aD,h.1]
  rw [e];decide
 ·have e:aD (cY f φ) v=4*v.2:=by simp [aD,h.1]
  have:=h.2;unfold cA at this;rw [e];omega
 ·have e:aD (cY f φ) v=3:=by simp [aD,h.1]
  rw [e];decide
 ·rw [bI _ h.1];have:=T.rng _ (hs h.1);omega
def jD (W:Wd) (is:List Bool) (i:Int):Bool:=decide ((W.th i).k=4) && !bJ is ((W.th i).fs.getD 0 (0,0))
def lE (W:Wd) (is:List Bool) (i:Int) (v:Vl):Vl:=if (jD W is i || !bJ is v)=true then (2,0) else v
theorem Tn.fd (T:Tn O W φ s f is) {i:Int} {v:Vl} (hok:W.cI v):rC s f (jD W is i) (aD φ v)=aD (cY f φ) (lE W is i v)∧Proofs.YtjifdalflepcoacGreat.br (aD (cY f φ) (lE W is i v)):=by
 have ha:=T.al v hok;rw [←dS] at ha;have ea:aY s (aD φ v)=bJ is v:=Bool.eq_iff_iff.2 ha;unfold rC lE;rw [ea];by_cases hc:(jD W is i || !bJ is v)=true
 ·rw [if_pos hc,if_pos hc,jA];exact ⟨rfl,jN⟩
 ·rw [if_neg hc,if_neg hc];have hs:v.1=3→ax is v.2=true:=by
   rw [←dS];cases h:bJ is v
   ·rw [h] at hc;simp at hc
   ·rfl
  exact ⟨sR (N:=0) hok (fun h3=>T.rng _ (hs h3)),T.br hok hs⟩
theorem yI (h:W.ok) (hcl:cC W.nd qw fun k=>ax is k=true) {i:Int} (hl:W.live i) (hb:ax is i=true):lB W is i=(W.th i).fs.map (lE W is i):=by
 have shut:∀ j,gZ W.nd qw (fun k=>ax is k=true) i j→ax is j=true:=fun j hj=>hcl i j hb hj;rw [ki hl.1 hb];have hf:=h.tk i hl;have hs:=bP hf;by_cases k4:(W.th i).k=4
 ·obtain ⟨a,b,e⟩:=iK (Wd.two h hl (.inr (.inl k4)));rw [e];simp only [List.getD_cons_zero,List.getD_cons_succ,List.map_cons,List.map_nil];have e0:(W.th i).fs.getD 0 (0,0)=a:=by rw [e];rfl
  cases hk:bJ is a
  ·have:jD W is i=true:=by unfold jD;rw [e0,hk];simp [k4]
   rw [if_pos ⟨k4,rfl⟩];simp [lE,this]
  ·have hb':jD W is i=false:=by unfold jD;rw [e0,hk];simp
   rw [if_neg (fun h=>by cases h.2),if_neg (fun h=>by cases h.2)];have h2:bJ is b=true:=dS.2 fun h3=>shut _ (.inr (.inr (.inl ⟨k4,by
    show (W.th i).fs[1]? = _
    rw [e];show some b=_;congr 1;exact Prod.ext h3 rfl,fun v hv h5=>by
    have hv':(W.th i).fs[0]? = some v:=hv;rw [e] at hv';have:a=v:=by simpa using hv'
    subst this
    exact dS.1 hk h5⟩)))
   simp [lE,hb',hk,h2]
 ·have hb':jD W is i=false:=by unfold jD;simp [k4]
  rw [if_neg (fun h=>k4 h.1)];by_cases k3:(W.th i).k=3
  ·obtain ⟨a,b,e⟩:=iK (Wd.two h hl (.inl k3));rw [e];simp only [List.getD_cons_zero,List.getD_cons_succ,List.map_cons,List.map_nil];have h2:bJ is b=true:=dS.2 fun h3=>shut _ (.inr (.inl ⟨k3,by
    show (W.th i).fs[1]? = _
    rw [e];show some b=_;congr 1;exact Prod.ext h3 rfl⟩))
   cases hk:bJ is a
   ·rw [if_pos ⟨k3,rfl⟩];simp [lE,hb',hk,h2]
   ·rw [if_neg (fun h=>by cases h.2)];simp [lE,hb',hk,h2]
  ·rw [if_neg (fun h=>k3 h.1)];by_cases k12:(W.th i).k=1∨(W.th i).k=2
   ·symm
    rw [List.map_congr_left (g:=id),List.map_id];intro v hv;have:bJ is v=true:=dS.2 fun h3=>shut _ (.inl ⟨k12,by show ((3,v.2):Vl) ∈ (W.th i).fs;rw [←h3];exact hv⟩);simp [lE,hb',this]
   ·have k5:(W.th i).k=5:=by omega
    rw [k5] at hf;simp [bs] at hf;have:(W.th i).fs=[]:=hf;rw [this];rfl
theorem Tn.turns (R:aL O W φ) (T:Tn O W φ s f is):∀ (l:List Int) {A:Ar},l.Nodup→(∀ i ∈ l,ax is i=true)→A.ok→A.nur=O.ar.nur→A.yng=O.ar.yng→A.grn=O.ar.grn→A.ws.length=O.ar.ws.length →
  (∀ i ∈ l, ∀ j:Int,0≤j→j≤(W.th i).fs.length→A.load (φ i+j)=O.ar.load (φ i+j)) →
  ((l.map φ).foldl (dK s f) A).ok∧((l.map φ).foldl (dK s f) A).nur=O.ar.nur∧((l.map φ).foldl (dK s f) A).yng=O.ar.yng∧((l.map φ).foldl (dK s f) A).grn=O.ar.grn∧((l.map φ).foldl (dK s f) A).ws.length=O.ar.ws.length ∧
   (∀ i ∈ l,((l.map φ).foldl (dK s f) A).load (φ i)=O.ar.load (φ i)∧∀ (j:Nat) (v:Vl),(W.th i).fs[j]? = some v→((l.map φ).foldl (dK s f) A).load (φ i+1+j)=aD (cY f φ) (lE W is i v)) ∧
   (∀ k,W.live k→¬ k ∈ l→∀ j:Int,0≤j→j≤(W.th k).fs.length→((l.map φ).foldl (dK s f) A).load (φ k+j)=A.load (φ k+j))
 | [],A,_,_,h0,h1,h2,h3,h4,_=>⟨h0,h1,h2,h3,h4,by simp,fun _ _ _ _ _ _=>rfl⟩
 | i :: l,A,hn,hb,h0,h1,h2,h3,h4,hA=>by
  rw [List.nodup_cons] at hn;have hbi:=hb i (by simp);have hl:=T.live i hbi;have hth:=R.th i hl;have hAi:=hA i (by simp);have hA0:=hAi 0 (by omega) (by omega);rw [Int.add_zero] at hA0;have eth:A.aj (φ i)=((W.th i).k,((W.th i).fs.length:Int),0):=by rw [g7 hA0,hth]
  have fld:∀ (j:Nat) (v:Vl),(W.th i).fs[j]? = some v→A.load (φ i+1+j)=aD φ v:=fun j v hv=>by
   have hj:=(List.getElem?_eq_some_iff.1 hv).1;rw [Int.add_assoc,hAi (1+(j:Int)) (by omega) (by omega),←Int.add_assoc];exact R.fl i hl j v hv
  have hbrk:(decide ((A.aj (φ i)).1=4) && !aY s (A.load (φ i+1)))=jD W is i:=by
   rw [eth];unfold jD;by_cases k4:(W.th i).k=4
   ·obtain ⟨a,b,e⟩:=iK (Wd.two R.hw hl (.inr (.inl k4)));have hj0:(W.th i).fs[0]? = some a:=by rw [e];rfl
    have:=fld 0 a hj0;rw [show φ i+1+((0:Nat):Int)=φ i+1 by omega] at this;have ok0:=R.hw.tv i hl a (List.mem_of_getElem? hj0);rw [this,Bool.eq_iff_iff.2 ((T.al a ok0).trans dS.symm),e];simp
   ·simp [k4]
  have eT:dK s f A (φ i)=jTurnN s f (jD W is i) (W.th i).fs.length A (φ i+1):=by
   unfold dK;rw [hbrk,eth];simp
  have use:∀ q,A.aS q=O.ar.aS q:=fun q=>by unfold Ar.aS Ar.aG Ar.aP;rw [h1,h2,h3]
  have huse:∀ {k:Int},W.live k→∀ j:Int,0≤j→j≤(W.th k).fs.length→O.ar.aS (φ k+j)=true:=fun hk j h5 h6=>R.use hk h5 h6;obtain ⟨m1,m2,m3,m4,m5,m6⟩:=mA (s:=s) (f:=f) (b:=jD W is i) (W.th i).fs.length (A:=A) (φ i+1) h0 (fun j hj0 hj1=>by
   refine ⟨by rw [use,Int.add_assoc];exact huse hl _ (by omega) (by omega),?_⟩;have hv:(W.th i).fs[j.toNat]? = some (W.th i).fs[j.toNat]:=Le (by omega);have:=fld _ _ hv;rw [show ((j.toNat:Nat):Int)=j by omega] at this;rw [this];have:=T.fd (i:=i) (R.hw.tv i hl _ (List.mem_of_getElem? hv))
   rw [this.1];exact this.2)
  rw [←eT] at m1 m2 m3 m4 m5 m6;have ae:∀ k,W.live k→k≠i→∀ j:Int,0≤j→j≤(W.th k).fs.length→(dK s f A (φ i)).load (φ k+j)=A.load (φ k+j):=fun k hk hne j h5 h6=>by
   rw [m6,if_neg];have:=R.apart hk hl hne;omega
  obtain ⟨n1,n2,n3,n4,n5,n6,n7⟩:=Tn.turns R T l (A:=dK s f A (φ i)) hn.2 (fun k hk=>hb k (by simp [hk])) m1 (m2.trans h1) (m3.trans h2) (m4.trans h3) (m5.trans h4) (fun k hk j h5 h6=>by
   have hne:k≠i:=fun e=>hn.1 (e ▸ hk);rw [ae k (T.live k (hb k (by simp [hk]))) hne j h5 h6]
   exact hA k (by simp [hk]) j h5 h6)
  rw [List.map_cons,List.foldl_cons];refine ⟨n1,n2,n3,n4,n5,fun k hk=>?_,fun k hk hkl j h5 h6=>?_⟩
  ·rcases List.mem_cons.1 hk with rfl | hk
   ·constructor
    ·have:=n7 k hl hn.1 0 (by omega) (by omega);rw [Int.add_zero] at this;rw [this,m6,if_neg (by omega),hA0]
    ·intro j v hv;have hj:=(List.getElem?_eq_some_iff.1 hv).1;have:=n7 k hl hn.1 (1+(j:Int)) (by omega) (by omega);rw [←Int.add_assoc] at this;rw [this,m6,if_pos (by omega),fld j v hv];exact (T.fd (R.hw.tv k hl v (List.mem_of_getElem? hv))).1
   ·exact n6 k hk
  ·rw [List.mem_cons,not_or] at hkl;rw [n7 k hk hkl.2 j h5 h6,ae k hk hkl.1 j h5 h6]
end
end
section
section
variable {O:Wo} {W:Wd} {φ:Int→Int}
theorem Wd.xp (W:Wd) (h2:¬ eU (W.pass true).1 W.T > W.grow):W.cut true=(0,W.after true):=by
 unfold Wd.cut;rw [if_neg (fun h'=>by cases h'.1),if_neg h2]
theorem Wd.sS (W:Wd) (h2:eU (W.pass true).1 W.T > W.grow):W.cut true=(3,W):=by
 unfold Wd.cut;rw [if_neg (fun h'=>by cases h'.1),if_pos h2]
structure Pl (O:Wo) (W:Wd) (φ:Int→Int) (is:List Bool) (N:List Int):Prop where
 eq:N.map φ=bY O
 nd:N.Nodup
 nm:∀ i,i ∈ N↔ax is i=true
 sit:fx (fun p=>1+(O.ar.aj p).2.1) (dW (dy O).1) (bY O) O.ar.nur (O.ar.nur+(dy O).2)
 sum:(dy O).2=eU is W.T
 slid:(dy O).2≤(O.ar.ws.length:Int)-O.ar.nur→sQ (fun p=>1+(O.ar.aj p).2.1) O.ar.ws.length (bY O) O.ar.nur
theorem mB (R:aL O W φ):(kN O).Nodup:=by
 unfold kN;rw [List.nodup_append];refine ⟨R.tz.nodup,R.ty.nodup,fun a ha b hb=>?_⟩;have h1:=R.tz.mem a ha;have h2:=R.ty.mem b hb;have h3:=O.ar.aU b;have:=R.ho.ha.h1;omega
theorem Tile.Ba {A:Ar} {l:List Int} {a b:Int} (h:Tile A l a b):l.Pairwise fun p q=>p+(1+(A.aj p).2.1)≤q:=
 h.apart.imp fun h=>by omega
theorem aL.yJ (R:aL O W φ):Pl O W φ (W.pass true).1 ((j9 (φ:=φ) (P:=fun i=>ax (W.pass true).1 i=true) (l:=bY O) (fun p hp=>by
  have:=(List.mem_filter.1 hp).2
  exact (R.iZ.1.M.at_ p).1 this)).choose):=by
 obtain ⟨hN,hP⟩:=(j9 (φ:=φ) (P:=fun i=>ax (W.pass true).1 i=true) (l:=bY O) (fun p hp=>by
  have:=(List.mem_filter.1 hp).2
  exact (R.iZ.1.M.at_ p).1 this)).choose_spec
 generalize (j9 (φ:=φ) (P:=fun i=>ax (W.pass true).1 i=true) (l:=bY O) (fun p hp=>by
  have:=(List.mem_filter.1 hp).2
  exact (R.iZ.1.M.at_ p).1 this)).choose=N at hN hP
 have P:=R.iZ.1;have hnd:=mB R;have htn:(bY O).Nodup:=hnd.filter _;have hok:=R.ho.ha;have b1:=hok.h1;have b2:=hok.h2;have b3:=hok.h3;have rng:∀ p ∈ kN O,0≤p∧p<(List.replicate O.ar.ws.length (0:Int)).length:=fun p hp=>by
  rw [List.length_replicate];have hf:=O.ar.aU p;rcases List.mem_append.1 hp with h | h
  ·have:=R.tz.mem p h;omega
  ·have:=R.ty.mem p h;omega
 have inA:∀ i,W.live i→φ i ∈ kN O:=fun i hi=>by
  unfold kN;rw [List.mem_append];cases ho:(W.th i).aP
  ·exact .inr (R.iny i hi ho)
  ·exact .inl (R.ino i hi ho)
 have nm:∀ i,i ∈ N↔ax (W.pass true).1 i=true:=fun i=>by
  constructor
  ·exact hP i
  ·intro hb;have hl:=P.M.sl i hb;have:φ i ∈ bY O:=List.mem_filter.2 ⟨inA i hl,(P.M.at_ _).2 ⟨i,hb,rfl⟩⟩;rw [←hN] at this;obtain ⟨k,hk,e⟩:=List.mem_map.1 this;rw [←R.inj k i (P.M.sl k (hP k hk)) hl e];exact hk
 have hNn:N.Nodup:=nJ (by rw [hN];exact htn);obtain ⟨s1,s2,s3⟩:=mz (A:=O.ar) (lv:=(cm O).1.lv) (base:=O.ar.nur) (t:=(List.replicate O.ar.ws.length 0,0)) hnd rng;rw [Int.add_zero] at s1;have hsum:(dy O).2=eU (W.pass true).1 W.T:=by
  have h1:=s1.sum;rw [Ac];have h2:(((kN O).filter fun i=>ax (cm O).1.lv i).map fun p=>1+(O.ar.aj p).2.1)=N.map fun i=>(W.th i).words:=by
   show (bY O).map _=_
   rw [←hN,List.map_map];refine List.map_congr_left fun i hi=>?_;have:=R.th i (P.M.sl i (hP i hi));simp only [Function.comp];rw [this];rfl
  rw [h2] at h1;have h3:N.Perm (((List.range W.T.length).map (Int.ofNat ·)).filter fun i=>ax (W.pass true).1 i):=by
   rw [List.perm_ext_iff_of_nodup hNn ((jh _).filter _)];intro i;rw [nm,List.mem_filter];constructor
   ·intro h;have hl:=P.M.sl i h;exact ⟨List.mem_map.2 ⟨i.toNat,by rw [List.mem_range];have:=hl.2.1;have:=hl.1;omega,by have:=hl.1;show ((i.toNat:Nat):Int)=i;omega⟩,h⟩
   ·exact fun h=>h.2
  have h4:=mi (h3.map fun i=>(W.th i).words)
  show (dy O).2=_
  rw [←h4];unfold dy;omega
 refine ⟨hN,hNn,nm,s1,hsum,fun hle=>?_⟩;have et:bY O=(O.ar.aT.2.filter fun i=>ax (cm O).1.lv i) ++ (O.ar.aT.1.filter fun i=>ax (cm O).1.lv i):=by unfold bY kN;rw [List.filter_append]
 have s1':fx (fun p=>1+(O.ar.aj p).2.1) (dW (dy O).1) (bY O) O.ar.nur (O.ar.nur+(dy O).2):=s1;rw [et] at s1' ⊢;refine qU (fun p=>by have:=O.ar.aU p;omega) (n:=O.ar.ws.length) (b:=O.ar.nur+(dy O).2) (nur:=O.ar.nur) (by omega) (by omega) s1' (Int.le_refl _) (fun p hp=>?_) (R.tz.Ba.filter _) (fun q hq=>?_)
 ·have:=R.tz.mem p (List.mem_filter.1 hp).1;omega
 ·have:=R.ty.mem q (List.mem_filter.1 hq).1;omega
theorem aL.Bb (R:aL O W φ) (hfull:¬ eU (W.pass true).1 W.T > W.grow) :
  (dL O).1=0∧∃ (N:List Int) (ψ:Int→Int),N.map φ=bY O∧(dL O).2.ar.aT=([],N.map ψ)∧(∀ i ∈ N,(W.after true).live i)∧aL (dL O).2 (W.after true) ψ:=by
 have hsy:=R.sy;have hso:=R.so;have hnur:=R.nur;have hlen:=R.len;obtain ⟨P,hq,hI⟩:=R.iZ;have PL:=R.yJ;generalize Exists.choose _=N at PL;obtain ⟨m,hfst,hcnt,hits⟩:=Wd.iH R.hw true;have hallN:(dy O).2≤(O.ar.ws.length:Int)-O.ar.nur:=by rw [PL.sum];omega
 have e1:dL O=(0,⟨((jm O).cut (dy O).2.toNat).clear,O.cd.map fun _=>false,O.rt.map (cx (dy O).1),
   (bz aY fw (cm O).1 (cm O).2.2).map (ct (dy O).1),(bC aY fw (cm O).1 (cm O).2.1).map (ct (dy O).1)⟩):=by unfold dL;rw [if_neg (by rw [PL.sum];omega)]
 rw [e1];have hokA:=R.hw.after (major:=true) (by omega);have hokO:=R.ho.ha;have b1:=hokO.h1;have b2:=hokO.h2;have b3:=hokO.h3;have b4:=hokO.h4;have h0:∀ p,0≤(fun p=>1+(O.ar.aj p).2.1) p:=fun p=>by have:=O.ar.aU p;dsimp only;omega
 have hall0:=fx.le h0 PL.sit;have hsl:=PL.slid hallN;have hsit:=PL.sit;generalize hf:(dy O).1=f at *;generalize hall:(dy O).2=all at *;generalize hs:(cm O).1=s at *;generalize his:(W.pass true).1=is at *;have lvN:∀ {i},i ∈ N→W.live i:=fun hi=>P.M.sl _ ((PL.nm _).1 hi);have thN:∀ {i},i ∈ N→(O.ar.aj (φ i))=((W.th i).k,((W.th i).fs.length:Int),0):=fun hi=>R.th _ (lvN hi);have place:∀ {i},i ∈ N→(O.ar.nur:Int)≤cY f φ i∧cY f φ i+(1+(W.th i).fs.length)≤O.ar.nur+all:=fun {i} hi=>by
  have:=fx.mem h0 hsit (φ i) (by rw [←PL.eq];exact List.mem_map.2 ⟨i,hi,rfl⟩);rw [thN hi] at this;exact this
 have T:Tn O W φ s f is:=⟨fun i hi=>P.M.sl i hi,fun v hv=>P.M.alive R hv,fun i hi=>by have:=place ((PL.nm i).2 hi);omega⟩;obtain ⟨t1,t2,t3,t4,t5,t6,-⟩:=T.turns R N PL.nd (fun i hi=>(PL.nm i).1 hi) hokO rfl rfl rfl rfl (fun _ _ _ _ _=>rfl);have eT:(N.map φ).foldl (dK s f) O.ar=dE O:=by rw [PL.eq];unfold dE;rw [hs,hf]
 rw [eT] at t1 t2 t3 t4 t5 t6;generalize hTd:dE O=B0 at *;have use0:∀ q,B0.aS q=O.ar.aS q:=fun q=>by unfold Ar.aS Ar.aG Ar.aP;rw [t2,t3,t4]
 have hus:∀ {i},i ∈ N→∀ j:Int,0≤j→j≤(W.th i).fs.length→B0.aS (φ i+j)=true:=fun hi j h1 h2=>by rw [use0];exact R.use (lvN hi) h1 h2
 obtain ⟨u1,u2,u3,u4,u5,u6,u7⟩:=qh (f:=f) (sz:=fun p=>1+(O.ar.aj p).2.1) (l:=bY O) (A:=B0) hsit (by rw [t5];exact hsl) (fun p hp=>by
  rw [←PL.eq] at hp;obtain ⟨i,hi,rfl⟩:=List.mem_map.1 hp;have h1:=hus hi 0 (by omega) (by omega);rw [Int.add_zero] at h1;refine ⟨h1,?_⟩
  rw [cL (t6 i hi).1]) ((mB R).filter _) h0
 have eS:(bY O).foldl (bA f) B0=jm O:=by unfold jm;rw [hTd,hf]
 rw [eS] at u1 u2 u3 u4 u5 u6 u7;generalize hSd:jm O=Bs at *;obtain ⟨B,hB⟩:∃ B,(Bs.cut all.toNat).clear=B:=⟨_,rfl⟩;rw [hB];have bn:B.nur=O.ar.nur:=by rw [←hB];exact u5.trans t2
 have by_:B.yng=0:=by rw [←hB];rfl
 have bg:(B.grn:Int)=O.ar.nur+all:=by
  rw [←hB]
  show ((Bs.nur+all.toNat:Nat):Int)=_
  rw [u5,t2];omega
 have bw:B.ws=Bs.ws:=by rw [←hB];rfl
 have blen:B.ws.length=O.ar.ws.length:=by rw [bw,u1,t5]
 have okB:B.ok:=by
  refine ⟨by rw [by_];exact Nat.zero_le _,by rw [bn];omega,by rw [blen];omega,by rw [blen];exact b4,fun x hx=>?_⟩;rw [bw] at hx;exact t1.hw x (u4 x hx)
 have oldB:∀ x:Int,(O.ar.nur:Int)≤x→x<O.ar.nur+all→B.aP x=true:=fun x h1 h2=>by rw [Proofs.YtjifdalflepcoacGreat.c7,bn,bg];exact ⟨h1,h2⟩
 have ldB:∀ {i},i ∈ N→∀ j:Int,0≤j→j≤(W.th i).fs.length→B.load (cY f φ i+j)=B0.load (φ i+j):=fun {i} hi j h1 h2=>by
  have hp:=place hi;have ho:=oldB (cY f φ i+j) (by omega) (by omega);have hu:B.aS (cY f φ i+j)=true:=by unfold Ar.aS;rw [ho];simp
  have:=u3 (φ i) (by rw [←PL.eq];exact List.mem_map.2 ⟨i,hi,rfl⟩) j h1 (by rw [thN hi];dsimp only;omega);rw [jC hu,jC (hus hi j h1 h2)];have e2:wd B (cY f φ i+j)=wd Bs (cY f φ i+j):=by unfold wd;rw [bw]
  rw [e2];exact this
 have thB:∀ {i},i ∈ N→B.aj (cY f φ i)=((W.th i).k,((W.th i).fs.length:Int),0):=fun {i} hi=>by
  have h1:=ldB hi 0 (by omega) (by omega);rw [Int.add_zero,Int.add_zero,(t6 i hi).1] at h1;rw [g7 h1];exact thN hi
 have lv:∀ {i},(W.after true).live i↔i ∈ N:=fun {i}=>by rw [Wd.i7 R.hw,his,PL.nm]
 have isN:∀ {i},i ∈ N→ax is i=true:=fun hi=>(PL.nm _).1 hi;have tha:∀ {i},i ∈ N→(W.after true).th i=dv is i.toNat (W.th i):=fun {i} hi=>by rw [←his];exact Wd.iI (lvN hi).1 (lvN hi).2.1
 have olda:∀ {i},i ∈ N→((W.after true).th i).aP=true:=fun {i} hi=>by
  rw [tha hi,(kX (by rw [dN (lvN hi).1];exact isN hi)).2]
 have clen:∀ {i},i ∈ N→(dv is i.toNat (W.th i)).fs.length=(W.th i).fs.length:=fun {i} hi=>jz (by rw [dN (lvN hi).1];exact isN hi) (R.hw.tk i (lvN hi));have hth:B.aT=([],N.map (cY f φ)):=by
  refine Tile.aT okB (by rw [by_];rfl) ?_;rw [bn,bg];have:=fx.iJ (A:=B) (φ:=φ) (l:=N) (by rw [PL.eq];exact hsit) (fun i hi=>by
   have:=thB hi;unfold cY at this;rw [this];dsimp only;rw [thN hi]
   exact ⟨rfl,rfl⟩)
  exact this
 have tz:Tile B B.aT.2 B.nur B.grn:=by
  rw [hth,bn,bg];exact fx.iJ (A:=B) (φ:=φ) (l:=N) (by rw [PL.eq];exact hsit) (fun i hi=>by
   have:=thB hi;unfold cY at this;rw [this];dsimp only;rw [thN hi]
   exact ⟨rfl,rfl⟩)
 have inj:∀ i j,i ∈ N→j ∈ N→cY f φ i=cY f φ j→i=j:=fun i j hi hj e=>by
  have:=tz.nodup;rw [hth] at this;exact kL this hi hj e
 have nowV:∀ {v:Vl},W.cI v→(v.1=3→v.2 ∈ N)→cx f (aD φ v)=aD (cY f φ) v:=fun hv h=>sR (N:=0) hv (fun h3=>by have:=place (h h3);omega);have nowE:∀ {e:Int × Int},e.1 ∈ N→e.2 ∈ N→ct f (bq φ e)=bq (cY f φ) e:=fun {e} h1 h2=>by
  rw [dC,dC];unfold ct;dsimp only;rw [nowV (v:=(3,e.1)) (.inr (.inr (.inr ⟨rfl,lvN h1⟩))) (fun _=>h1),nowV (v:=(3,e.2)) (.inr (.inr (.inr ⟨rfl,lvN h2⟩))) (fun _=>h2)]
 have hrg:(bz aY fw s (cm O).2.2).map (ct f)=(W.after true).av.map (bq (cY f φ)):=by
  rw [hI]
  show _=(bz ax eR (W.pass true).1 (W.pass true).2.2).map _
  rw [his];have itx:∀ i ∈ (W.pass true).2.2,W.dj i.1∧(i.2.1=false→ax is i.1.2=true):=by
   intro i hi;have h1:(i.1,i.2.1) ∈ (W.pass true).2.2.map (fun i=>(i.1,i.2.1)):=List.mem_map.2 ⟨i,hi,rfl⟩;rw [hits] at h1;obtain ⟨e,he',e2⟩:=List.mem_map.1 h1;have e3:e=i.1:=congrArg (fun p:(Int × Int) × Bool=>p.1) e2;have e4:(!ax (W.cX W.wait (W.first true)) e.2)=i.2.1:=congrArg (fun p:(Int × Int) × Bool=>p.2) e2;have hgv:=R.hw.gv e he';rw [e3] at hgv e4;exact ⟨hgv,fun hd=>hfst _ (by rw [hd] at e4;simpa using e4)⟩
  generalize (W.pass true).2.2=l at itx;unfold bz
  induction l with
  | nil=>rfl
  | cons i l ih=>
   have hi:=itx i (by simp);have ih:=ih (fun j hj=>itx j (by simp [hj]));have ea:aY s (cS φ i).1.1=ax is i.1.1:=by
    show aY _ (bq φ i.1).1=_
    rw [dC];exact P.alive R hi.1.1
   simp only [List.map_cons,List.filter_cons,ea];have e2:(cS φ i).2=i.2:=rfl;rw [e2];by_cases hc:(!i.2.1 && ax is i.1.1)=true
   ·rw [if_pos hc,if_pos hc];simp only [List.map_cons];simp only [Bool.and_eq_true,Bool.not_eq_true'] at hc;rw [ih];congr 1;exact nowE ((PL.nm _).2 hc.2) ((PL.nm _).2 (hi.2 hc.1))
   ·rw [if_neg hc,if_neg hc];exact ih
 have hwt:(bC aY fw s (cm O).2.1).map (ct f)=(W.after true).wait.map (bq (cY f φ)):=by
  rw [hq]
  show _=(bC ax eR (W.pass true).1 (W.pass true).2.1).map _
  rw [his];have hok:=P.ok;have hsh:∀ f ∈ (W.pass true).2.1,ax is f.1=true→ax is f.2=true:=fun f hf h=>P.shut f.1 f.2 h (.inr (.inr (.inr ⟨(hok f hf).2.1,hf⟩)));clear hcnt
  revert hok hsh
  generalize (W.pass true).2.1=mm;unfold bC;intro hok hsh
  induction mm with
  | nil=>rfl
  | cons g mm ih=>
   have ih:=ih (fun g hg=>hok g (by simp [hg])) (fun g hg=>hsh g (by simp [hg]));have hg:=hok g (by simp);have ea:aY s (bq φ g).1=ax is g.1:=by rw [dC];exact P.alive R hg.1
   simp only [List.map_cons,List.filter_cons,ea];by_cases hc:ax is g.1=true
   ·rw [if_pos hc,if_pos hc];simp only [List.map_cons];rw [ih];congr 1;exact nowE ((PL.nm _).2 hc) ((PL.nm _).2 (hsh g (by simp) hc))
   ·rw [if_neg hc,if_neg hc];exact ih
 have hrt:O.rt.map (cx f)=W.roots.map (aD (cY f φ)):=by
  rw [R.rt,List.map_map];refine List.map_congr_left fun v hv=>?_;refine nowV (R.hw.rv v hv) (fun h3=>(PL.nm _).2 (m.first _ ?_));have hl:=Wd.bh (R.hw.rv v hv) h3;exact Wd.jy.2 ⟨hl.1,hl.2.1, .inr (by rw [←h3];exact hv)⟩
 have hE64:∀ e,(W.after true).dj e→qK (bq (cY f φ) e):=fun e he=>by
  have h1:=place (lv.1 he.1);have h2:=place (lv.1 he.2.2);constructor
  ·show br (4*cY f φ e.1+1);unfold br;omega
  ·show br (4*cY f φ e.2+1);unfold br;omega
 refine ⟨rfl,N,cY f φ,PL.eq,hth,fun i hi=>lv.2 hi,⟨⟨okB,?_,fun x hx=>?_,fun e he=>?_,fun e he=>?_,?_,by simpa using R.ho.hc⟩,hokA,by rw [hth];exact (by rw [by_];rfl),tz,fun i j hi hj e=>inj i j (lv.1 hi) (lv.1 hj) e,fun p hp=>?_,fun i hi ho=>?_,fun i hi ho=>?_,fun i hi=>?_,fun i hi j v hv=>?_,
  hrt,hrg,hwt,?_,?_,by rw [List.length_map];exact R.cl,fun i hi ho v hv h3 hy=>?_⟩⟩
 ·show (O.rt.map _).length=12
  rw [List.length_map];exact R.ho.h12
 ·have hx':x ∈ O.rt.map (cx f):=hx;rw [hrt] at hx';obtain ⟨v,hv,rfl⟩:=List.mem_map.1 hx';exact T.br (R.hw.rv v hv) (fun h3=>m.first _ (by
   have hl:=Wd.bh (R.hw.rv v hv) h3
   exact Wd.jy.2 ⟨hl.1,hl.2.1, .inr (by rw [←h3];exact hv)⟩))
 ·have he':e ∈ (bz aY fw s (cm O).2.2).map (ct f):=he;rw [hrg] at he';obtain ⟨g,hg,rfl⟩:=List.mem_map.1 he';exact hE64 g (hokA.gv g hg)
 ·have he':e ∈ (bC aY fw s (cm O).2.1).map (ct f):=he;rw [hwt] at he';obtain ⟨g,hg,rfl⟩:=List.mem_map.1 he';exact hE64 g (hokA.wv g hg)
 ·show ((bz aY fw s (cm O).2.2).map (ct f)).length+((bC aY fw s (cm O).2.1).map (ct f)).length≤24
  rw [hrg,hwt,List.length_map,List.length_map];exact hokA.hq
 ·have hp':p ∈ B.aT.1∨p ∈ B.aT.2:=hp;rw [hth] at hp';dsimp only at hp';rcases hp' with h | h
  ·cases h
  ·obtain ⟨i,hi,rfl⟩:=List.mem_map.1 h;exact ⟨i,lv.2 hi,rfl⟩
 ·rw [olda (lv.1 hi)] at ho;cases ho
 ·show cY f φ i ∈ B.aT.2
  rw [hth];exact List.mem_map.2 ⟨i,lv.1 hi,rfl⟩
 ·have hb:=lv.1 hi
  show B.aj _=_
  rw [thB hb,tha hb,kW,clen hb]
 ·have hb:=lv.1 hi;rw [tha hb] at hv;have hj:=(List.getElem?_eq_some_iff.1 hv).1;rw [clen hb] at hj
  show B.load _=_
  rw [Int.add_assoc,ldB hb (1+(j:Int)) (by omega) (by omega),←Int.add_assoc];have hv':(lB W is i)[j]? = some v:=hv;rw [yI R.hw P.shut (lvN hb) (isN hb),List.getElem?_map] at hv';have e2:(W.th i).fs[j]? = some (W.th i).fs[j]:=Le hj;rw [e2] at hv';simp only [Option.map_some,Option.some.injEq] at hv';rw [←hv'];exact (t6 i hb).2 j _ e2
 ·show (B.nur:Int)=W.most
  rw [bn];exact R.nur
 ·show (B.ws.length:Int)=W.most+W.grow
  rw [blen];exact R.len
 ·have hl3:(W.after true).live v.2:=Wd.bh (hokA.tv i hi v hv) h3;rw [olda (lv.1 hl3)] at hy;cases hy
theorem aL.major (R:aL O W φ):(dL O).1=(W.cut true).1∧∃ ψ,aL (dL O).2 (W.cut true).2 ψ:=by
 by_cases hfull:eU (W.pass true).1 W.T > W.grow
 ·have hsy:=R.sy;have hso:=R.so;have hnur:=R.nur;have hlen:=R.len;have PL:=R.yJ;generalize Exists.choose _=N at PL;have e1:dL O=(3,O):=by unfold dL;rw [if_pos (by rw [PL.sum];omega)]
  rw [e1,W.sS hfull];exact ⟨rfl,φ,R⟩
 ·obtain ⟨e,-,ψ,-,-,-,R'⟩:=R.Bb hfull;rw [W.xp hfull];exact ⟨e,ψ,R'⟩
end
end
section
def Wo.ba (O:Wo) (k:Int):Int:=O.rt.getD k.toNat 0
def Wo.jG (O:Wo) (r x:Int):Wo:={ O with rt:=O.rt.set r.toNat x }
def Wo.room (O:Wo) (n:Int):Int × Wo:=
 if n≤(O.ar.nur:Int)-O.ar.yng then (0,O)
 else if (O.ar.yng:Int)≤(O.ar.ws.length:Int)-O.ar.grn then gQ O else dL O
def storesA (A:Ar) (p:Int):List Int→Ar
 | []=>A
 | x :: l=>storesA (A.store p x) (p+1) l
def Wo.lay (P:Wo) (r k:Int) (fr:List Int):Wo:=
 { P with ar:=storesA (P.ar.make k fr.length).2 ((P.ar.make k fr.length).1+1) (fr.map P.ba),rt:=P.rt.set r.toNat (gP (P.ar.make k fr.length).1) }
def Wo.bR (O:Wo) (r k:Int) (fr:List Int):Int × Wo:=
 if (O.room (1+fr.length)).1=0 then (0,(O.room (1+fr.length)).2.lay r k fr) else O.room (1+fr.length)
def Wo.jP (O:Wo) (x:Int):Bool:=decide ((O.ar.a8 x).2.2.2=0) && decide ((O.ar.a8 x).2.1=5)
def Wo.ic (O:Wo) (a b:Int):Int × Wo:=
 if (O.ar.a8 (O.ba a)).2.2.2≠0 then ((O.ar.a8 (O.ba a)).2.2.2,O)
 else if O.jP (O.ba b)=false then (2,O)
 else if 24≤O.rg.length+O.wt.length then (3,O)
 else (0, { O with rg:=O.rg ++ [(O.ba b,O.ba a)] })
def Wo.pop (O:Wo) (r a:Int):Int × Wo:=
 if O.jP (O.ba a)=false then (2,O)
 else match popW O.wt (O.ba a) with
  | none=>(4,O)
  | some q=>(0, { O with wt:=q.2,rt:=O.rt.set r.toNat q.1 })
def Wo.gU (O:Wo) (r:Int) (q:Int × Int):Int × Wo:=if q.2=0 then (0,O.jG r q.1) else (q.2,O)
def Wo.pt (O:Wo) (x:Int):Int × Int:=
 if (O.ar.a8 x).2.2.2=0∧(O.ar.a8 x).2.1=5 then (4*(O.ar.a8 x).2.2.1,2) else (4*(O.ar.a8 x).2.2.1,(O.ar.a8 x).2.2.2)
def Wo.step (O:Wo) (x:St):Int × Wo:=
 if x.k=1 then (0,O.jG x.r (4*x.n))
 else if x.k=2 then (0,O.jG x.r 2)
 else if x.k=3 then (0,O.jG x.r (O.ba x.a))
 else if x.k=4 then O.bR x.r 1 [x.a,x.b]
 else if x.k=5 then O.bR x.r 2 (List.replicate x.n.toNat x.a)
 else if x.k=6 then O.bR x.r 3 [x.a,x.b]
 else if x.k=7 then O.bR x.r 4 [x.a,x.b]
 else if x.k=8 then O.bR x.r 5 []
 else if x.k=9 then O.ic x.a x.b
 else if x.k=10 then O.pop x.r x.a
 else if x.k=11 then O.gU x.r (O.ar.get (O.ba x.a) x.i)
 else if x.k=12 then O.set (O.ba x.a) x.i (O.ba x.b)
 else if x.k=13 then O.gU x.r (O.pt (O.ba x.a))
 else if x.k=14 then (0,O.jG x.r (4*if O.ba x.a=O.ba x.b then 1 else 0))
 else if x.k=15 then gQ O
 else dL O
def Wo.do (O:Wo) (x:St):Int × Wo:=if aX x=0 then O.step x else (aX x,O)
theorem sT (A:Ar):∀ (l:List Int) (p:Int),(storesA A p l).nur=A.nur∧(storesA A p l).yng=A.yng∧(storesA A p l).grn=A.grn∧(storesA A p l).ws.length=A.ws.length:=by
 intro l
 induction l generalizing A with
 | nil=>intro p;exact ⟨rfl,rfl,rfl,rfl⟩
 | cons x l ih=>
  intro p;obtain ⟨h1,h2,h3,h4⟩:=ih (A.store p x) (p+1);exact ⟨h1.trans (A.cU p x),h2.trans (A.fg p x),h3.trans (A.dA p x),h4.trans (A.kU p x)⟩
theorem vL {A:Ar} (h:A.ok):∀ (l:List Int) (p:Int),(∀ x ∈ l,br x)→(storesA A p l).ok:=by
 intro l
 induction l generalizing A with
 | nil=>intro p _;exact h
 | cons x l ih=>intro p hx;exact ih (h.store p x (hx x (by simp))) (p+1) fun y hy=>hx y (by simp [hy])
theorem xq (A:Ar) (p x q:Int):(A.store p x).aS q=A.aS q:=by
 unfold Ar.aS Ar.aG Ar.aP;rw [A.fg,A.cU,A.dA]
theorem sU {A:Ar} (h:A.ok):∀ (l:List Int) (p:Int),(∀ x ∈ l,br x)→(∀ j:Nat,j<l.length→A.aS (p+j)=true)→∀ q:Int,(storesA A p l).load q=if p≤q∧q<p+l.length then l.getD (q-p).toNat 0 else A.load q:=by
 intro l
 induction l generalizing A with
 | nil=>intro p _ _ q;rw [if_neg (fun h=>by have h2:=h.2;simp only [List.length_nil] at h2;omega)];rfl
 | cons x l ih=>
  intro p hx hu q;have hp:A.aS p=true:=by have:=hu 0 (by simp);simpa using this
  show (storesA (A.store p x) (p+1) l).load q=_
  rw [ih (h.store p x (hx x (by simp))) (p+1) (fun y hy=>hx y (by simp [hy])) (fun j hj=>by
   rw [xq];have:=hu (j+1) (by simp;omega)
   rwa [show p+((j+1:Nat):Int)=p+1+(j:Int) by omega] at this) q,Ar.eF h]
  simp only [List.length_cons];by_cases c:q=p
  ·subst c;rw [if_neg (by omega),if_pos ⟨rfl,hp⟩,if_pos (by omega)];simp
  ·rw [if_neg (c:=q=p∧_) (fun h=>c h.1)];by_cases c2:p+1≤q∧q<p+1+l.length
   ·rw [if_pos c2,if_pos (by omega),show (q-p).toNat=(q-(p+1)).toNat+1 by omega]
    rfl
   ·rw [if_neg c2,if_neg (by omega)]
section
variable {O:Wo} {W:Wd} {φ:Int→Int}
theorem aL.ba (R:aL O W φ) {k:Int} (hk:bD k=true):O.ba k=aD φ (W.rt k):=by
 have h12:=R.hw.hr;simp only [bD,Bool.and_eq_true,decide_eq_true_eq] at hk;unfold Wo.ba Wd.rt;rw [R.rt];simp only [Ld,List.getElem?_map];rw [Le (by omega)];rfl
theorem aL.room (R:aL O W φ) (n:Int):(O.room n).1=(W.room n).1∧∃ ψ,aL (O.room n).2 (W.room n).2 ψ:=by
 have h1:=R.sy;have h2:=R.so;have h3:=R.nur;have h4:=R.len;unfold Wo.room Wd.room;by_cases c:n≤(O.ar.nur:Int)-O.ar.yng
 ·rw [if_pos c,if_neg (by omega)];exact ⟨rfl,φ,R⟩
 ·rw [if_neg c,if_pos (c:=n > W.most-W.aG) (by omega)];by_cases c2:(O.ar.yng:Int)≤(O.ar.ws.length:Int)-O.ar.grn
  ·rw [if_pos c2,show decide (W.aG > W.grow-W.cH)=false from decide_eq_false (by omega)];exact aL.minor R
  ·rw [if_neg c2,show decide (W.aG > W.grow-W.cH)=true from decide_eq_true (by omega)];exact aL.major R
theorem Wd.Ad (W:Wd) {n:Int} (h:(W.room n).1≠0):(W.room n).2=W:=by
 unfold Wd.room at *;split
 ·rename_i c;rw [if_pos c] at h;unfold Wd.cut at *;split
  ·rfl
  ·rename_i c1;rw [if_neg c1] at h;split
   ·rfl
   ·rename_i c2;rw [if_neg c2] at h;exact (h rfl).elim
 ·rfl
theorem uM {x:Int} (h0:0≤x) (h1:x≤1000000):gP x=4*x+1:=IntWalk.i64_in _ (by omega)
theorem aL.lay {P:Wo} {V:Wd} {ψ:Int→Int} (R:aL P V ψ) {k r:Int} {fr:List Int} (hf:bs k fr.length=true) (hr:1+(fr.length:Int)≤(P.ar.nur:Int)-P.ar.yng) (hk:∀ x ∈ fr,bD x=true) :
  aL (P.lay r k fr) (V.put r k (fr.map V.rt)) (kJ V.T.length P.ar.yng ψ):=by
 have ha:=R.ho.ha;have a1:=ha.h1;have a2:=ha.h2;have a3:=ha.h3;have a4:=ha.h4;obtain ⟨m1,m2,m3,m4,m5,m6,m7⟩:=Ar.vv ha ⟨hf,hr⟩;have e1:(P.ar.make k fr.length).1=(P.ar.yng:Int):=by rw [Ar.oS ⟨hf,hr⟩]
 have hmo:=ha.make k fr.length;have hl:fr.map P.ba=fr.map (fun x=>aD ψ (V.rt x)):=List.map_congr_left fun x hx=>R.ba (hk x hx);have hR:∀ x ∈ fr.map P.ba,br x:=fun x hx=>by
  rw [hl] at hx;obtain ⟨y,hy,rfl⟩:=List.mem_map.1 hx;exact pn R (Wd.g5 R.hw _)
 have hU:∀ j:Nat,j<(fr.map P.ba).length→(P.ar.make k fr.length).2.aS ((P.ar.yng:Int)+1+j)=true:=fun j hj=>by
  rw [List.length_map] at hj;unfold Ar.aS Ar.aG;rw [Bool.or_eq_true];left;simp;omega
 have SK:=sT (P.ar.make k fr.length).2 (fr.map P.ba) ((P.ar.yng:Int)+1);have SL:=sU hmo (fr.map P.ba) ((P.ar.yng:Int)+1) hR hU;have hlen:((fr.map V.rt).length:Int)=fr.length:=by simp
 unfold Wo.lay;rw [e1,uM (by omega) (by omega)];refine R.put (vL hmo _ _ hR) (SK.1.trans m5) (SK.2.2.1.trans m6) (SK.2.2.2.trans m7) (by rw [SK.2.1,hlen];exact m4) (fun q hq=>?_) ?_ (fun j v hv=>?_) (fun v hv=>?_) (by rw [List.length_map];exact hf)
 ·rw [SL q,if_neg,m1 q hq];rintro ⟨h1,h2⟩;simp only [List.length_map] at h2;have:P.ar.aG q=false:=by
   cases hy:P.ar.aG q
   ·rfl
   ·have:=Proofs.YtjifdalflepcoacGreat.bV.1 hy;omega
  have h3:P.ar.aP q=true:=by unfold Ar.aS at hq;rw [this] at hq;exact hq
  have:=Proofs.YtjifdalflepcoacGreat.c7.1 h3;omega
 ·unfold Ar.aj;rw [SL,if_neg (by omega),m2,wQ hf,hlen]
 ·rw [List.getElem?_map] at hv;cases hj:fr[j]? with
  | none=>rw [hj] at hv;cases hv
  | some y=>
   rw [hj] at hv;simp only [Option.map_some,Option.some.injEq] at hv;have hjl:=(List.getElem?_eq_some_iff.1 hj).1;rw [SL,if_pos (by rw [List.length_map];omega),hl,show ((P.ar.yng:Int)+1+(j:Int)-((P.ar.yng:Int)+1)).toNat=j by omega];simp only [Ld,List.getElem?_map,hj,Option.map_some,Option.getD_some,hv]
 ·obtain ⟨y,hy,rfl⟩:=List.mem_map.1 hv;exact Wd.g5 R.hw _
theorem aL.bR (R:aL O W φ) {k r:Int} {fr:List Int} (hf:bs k fr.length=true) (hk:∀ x ∈ fr,bD x=true) :
  (O.bR r k fr).1=(W.bR r k fr).1∧∃ ψ,aL (O.bR r k fr).2 (W.bR r k fr).2 ψ:=by
 have hfl:=bP hf;obtain ⟨e,ψ,R2⟩:=R.room (1+fr.length);have hro:=R.hw.room (1+fr.length) (by omega);unfold Wo.bR Wd.bR;by_cases c:(W.room (1+fr.length)).1=0
 ·rw [if_pos c,if_pos (e.trans c)];refine ⟨rfl,_,R2.lay hf ?_ hk⟩;have:=hro.2 c;have:=R2.sy;have:=R2.nur;omega
 ·rw [if_neg c,if_neg (by rw [e];exact c)];rw [Wd.Ad W c] at R2;exact ⟨e,ψ,R2⟩
theorem Wd.dX {k:Int} (hok:W.ok):W.aj k<0↔(W.rt k).1≠3:=by
 unfold Wd.aj;by_cases h3:(W.rt k).1=3
 ·rw [if_pos h3];have:=(Wd.bh (Wd.g5 hok k) h3).1;constructor
  ·intro;omega
  ·intro h;exact (h h3).elim
 ·rw [if_neg h3];exact ⟨fun _=>h3,fun _=>by omega⟩
theorem aL.jP (R:aL O W φ) {k:Int} (hk:bD k=true):O.jP (O.ba k)=false↔W.guard k<0:=by
 unfold Wo.jP;rw [R.ba hk,R.a8 (Wd.g5 R.hw k)];unfold Wd.guard;by_cases h3:(W.rt k).1=3
 ·have et:W.aj k=(W.rt k).2:=if_pos h3;have hlv:=Wd.bh (Wd.g5 R.hw k) h3;have:=hlv.1;rw [if_pos h3,et];by_cases c:(W.th (W.rt k).2).k=5
  ·rw [if_neg (by omega)];simp [c];omega
  ·rw [if_pos (.inr c)];simp [c]
 ·rw [if_neg h3,if_pos (.inl ((Wd.dX R.hw).2 h3))];simp
theorem sV {g:Int} (hg:W.live g) (hinj:∀ i j,W.live i→W.live j→φ i=φ j→i=j):∀ (l:List (Int × Int)),(∀ e ∈ l,W.dj e)→popW (l.map (bq φ)) (4*φ g+1)=(popW l g).map fun r=>(4*φ r.1+1,r.2.map (bq φ))
 | [],_=>rfl
 | e :: l,h=>by
  have ih:=sV hg hinj l fun x hx=>h x (by simp [hx]);have he:=(h e (by simp)).1;rw [List.map_cons];unfold popW;by_cases c:e.1=g
  ·rw [if_pos c,if_pos (by unfold bq;dsimp only;rw [c])];rfl
  ·rw [if_neg c,if_neg (by unfold bq;dsimp only;intro hh;exact c (hinj _ _ he hg (by omega))),ih];cases popW l g <;> rfl
theorem aL.CB (R:aL O W φ) {wt:List (Int × Int)} (h1:∀ e ∈ wt,e ∈ W.wait) (h2:wt.length≤W.wait.length):aL { O with wt:=wt.map (bq φ) } { W with wait:=wt } φ:=by
 have e1:O.wt.length=W.wait.length:=by rw [R.wt];simp
 refine ⟨⟨R.ho.ha,R.ho.h12,R.ho.hR,R.ho.hg,fun x hx=>?_,?_,R.ho.hc⟩,?_,R.ty,R.tz,R.inj,R.onto,R.iny,R.ino,R.th,R.fl,R.rt,R.rg,rfl,R.nur,R.len,R.cl,R.card⟩
 ·obtain ⟨e,he,rfl⟩:=List.mem_map.1 hx;refine R.ho.hw _ ?_;rw [R.wt];exact List.mem_map.2 ⟨e,h1 e he,rfl⟩
 ·have:=R.ho.hq
  show O.rg.length+(wt.map _).length≤24
  rw [List.length_map];omega
 ·have h:=R.hw;refine ⟨h.hr,h.rv,h.tk,h.tv,h.gv,fun x hx=>h.wv x (h1 x hx),?_,h.m1,h.m2,h.g1,h.g2,h.uy,h.uo⟩;have:=h.hq
  show W.av.length+wt.length≤24
  omega
theorem aL.pop (R:aL O W φ) {x:St} (hk:bD x.a=true):(O.pop x.r x.a).1=(W.pop x).1∧∃ ψ,aL (O.pop x.r x.a).2 (W.pop x).2 ψ:=by
 unfold Wo.pop Wd.pop;by_cases c:W.guard x.a<0
 ·rw [if_pos c,if_pos ((R.jP hk).2 c)];exact ⟨rfl,φ,R⟩
 ·rw [if_neg c,if_neg (fun h=>c ((R.jP hk).1 h))];have hg:=Wd.mf R.hw c;have e:O.ba x.a=4*φ (W.guard x.a)+1:=by
   rw [R.ba hk];have hne:¬ (W.aj x.a<0∨(W.th (W.aj x.a)).k≠5):=fun h=>by unfold Wd.guard at c;rw [if_pos h] at c;omega
   have h3:(W.rt x.a).1=3:=Decidable.byContradiction fun h=>hne (.inl ((Wd.dX R.hw).2 h));have:W.guard x.a=(W.rt x.a).2:=by unfold Wd.guard;rw [if_neg hne];unfold Wd.aj;rw [if_pos h3]
   rw [this,bI φ h3]
  rw [e,R.wt,sV hg.1 R.inj _ R.hw.wv];cases hp:popW W.wait (W.guard x.a) with
  | none=>exact ⟨rfl,φ,R⟩
  | some q=>
   have hm:=kE hp;have R2:=R.CB (wt:=q.2) hm.2.1 (by omega);have hv:({ W with wait:=q.2 }:Wd).cI (3,q.1):=.inr (.inr (.inr ⟨rfl,(R.hw.wv _ hm.1).2.2⟩));have R3:=R2.cB hv x.r;exact ⟨rfl,φ,R3⟩
theorem aL.do (R:aL O W φ) (x:St):(O.do x).1=(W.do x).1∧∃ ψ,aL (O.do x).2 (W.do x).2 ψ:=by
 unfold Wo.do Wd.do
 by_cases hc:¬ aX x=0
 ·rw [if_neg hc,if_neg hc];exact ⟨rfl,φ,R⟩
 have hc:aX x=0:=Decidable.not_not.1 hc;rw [if_pos hc,if_pos hc];have hu:=aI hc;have ok:∀ k,W.cI (W.rt k):=fun k=>Wd.g5 R.hw k;unfold Wo.step Wd.step;by_cases k1:x.k=1
 ·rw [if_pos k1,if_pos k1];exact ⟨rfl,φ,R.cB (Wd.iU (hu.2.2.2.2.1 k1).1 (hu.2.2.2.2.1 k1).2) _⟩
 rw [if_neg k1,if_neg k1];by_cases k2:x.k=2
 ·rw [if_pos k2,if_pos k2];exact ⟨rfl,φ,R.cB (v:=(0,0)) (.inl ⟨rfl,rfl⟩) _⟩
 rw [if_neg k2,if_neg k2];by_cases k3:x.k=3
 ·rw [if_pos k3,if_pos k3];have ha:bD x.a=true:=hu.2.2.1 (by rw [k3];rfl);rw [R.ba ha];exact ⟨rfl,φ,R.cB (ok _) _⟩
 rw [if_neg k3,if_neg k3];by_cases k4:x.k=4
 ·rw [if_pos k4,if_pos k4];have ha:bD x.a=true:=hu.2.2.1 (by rw [k4];rfl);have hb:bD x.b=true:=hu.2.2.2.1 (by rw [k4];rfl);exact R.bR rfl (by simp [ha,hb])
 rw [if_neg k4,if_neg k4];by_cases k5:x.k=5
 ·rw [if_pos k5,if_pos k5];have ha:bD x.a=true:=hu.2.2.1 (by rw [k5];rfl);have h5:=hu.2.2.2.2.2 k5;refine R.bR ?_ fun y hy=>by rw [(List.mem_replicate.1 hy).2];exact ha
  simp [bs];omega
 rw [if_neg k5,if_neg k5];by_cases k6:x.k=6
 ·rw [if_pos k6,if_pos k6];have ha:bD x.a=true:=hu.2.2.1 (by rw [k6];rfl);have hb:bD x.b=true:=hu.2.2.2.1 (by rw [k6];rfl);exact R.bR rfl (by simp [ha,hb])
 rw [if_neg k6,if_neg k6];by_cases k7:x.k=7
 ·rw [if_pos k7,if_pos k7];have ha:bD x.a=true:=hu.2.2.1 (by rw [k7];rfl);have hb:bD x.b=true:=hu.2.2.2.1 (by rw [k7];rfl);exact R.bR rfl (by simp [ha,hb])
 rw [if_neg k7,if_neg k7];by_cases k8:x.k=8
 ·rw [if_pos k8,if_pos k8];exact R.bR rfl (by simp)
 rw [if_neg k8,if_neg k8];by_cases k9:x.k=9
 ·rw [if_pos k9,if_pos k9];have ha:bD x.a=true:=hu.2.2.1 (by rw [k9];rfl);have hb:bD x.b=true:=hu.2.2.2.1 (by rw [k9];rfl);unfold Wo.ic Wd.ic;have tA:=R.a8 (ok x.a);rw [←R.ba ha] at tA;by_cases h3:¬ (W.rt x.a).1=3
  ·rw [if_neg h3] at tA;rw [tA,if_pos (by decide),if_pos (.inl ((Wd.dX R.hw).2 h3))];exact ⟨rfl,φ,R⟩
  have h3:(W.rt x.a).1=3:=Decidable.not_not.1 h3;rw [if_pos h3] at tA;rw [tA];dsimp only;rw [if_neg (show ¬ (0:Int)≠0 by decide)];by_cases c:W.guard x.b<0
  ·rw [if_pos ((R.jP hb).2 c),if_pos (.inr c)];exact ⟨rfl,φ,R⟩
  have hna:¬ W.aj x.a<0:=fun h=>(Wd.dX R.hw).1 h h3;have n1:¬ O.jP (O.ba x.b)=false:=fun h=>c ((R.jP hb).1 h);have n2:¬ (W.aj x.a<0∨W.guard x.b<0):=fun h=>by rcases h with h | h;exact hna h;exact c h
  rw [if_neg n1,if_neg n2];have e1:O.rg.length=W.av.length:=by rw [R.rg];simp
  have e2:O.wt.length=W.wait.length:=by rw [R.wt];simp
  rw [e1,e2];by_cases c2:24≤W.av.length+W.wait.length
  ·rw [if_pos c2,if_pos c2];exact ⟨rfl,φ,R⟩
  rw [if_neg c2,if_neg c2];have hg:=Wd.mf R.hw c;have hla:=Wd.dT R.hw hna;have hE:W.dj (W.guard x.b,W.aj x.a):=⟨hg.1,hg.2.1,hla⟩;have eA:O.ba x.a=4*φ (W.aj x.a)+1:=by rw [R.ba ha,bI φ h3];unfold Wd.aj;rw [if_pos h3]
  have eB:O.ba x.b=4*φ (W.guard x.b)+1:=by
   rw [R.ba hb];have hne:¬ (W.aj x.b<0∨(W.th (W.aj x.b)).k≠5):=fun h=>by unfold Wd.guard at c;rw [if_pos h] at c;omega
   have h3:(W.rt x.b).1=3:=Decidable.byContradiction fun h=>hne (.inl ((Wd.dX R.hw).2 h));have:W.guard x.b=(W.rt x.b).2:=by unfold Wd.guard;rw [if_neg hne];unfold Wd.aj;rw [if_pos h3]
   rw [this,bI φ h3]
  refine ⟨rfl,φ,?_⟩;rw [eA,eB];exact aL.ic R hE (by omega)
 rw [if_neg k9,if_neg k9];by_cases k10:x.k=10
 ·rw [if_pos k10,if_pos k10];exact R.pop (hu.2.2.1 (by rw [k10];rfl))
 rw [if_neg k10,if_neg k10];have h3t:∀ k,(W.rt k).1=3→W.aj k=(W.rt k).2:=fun k h=>if_pos h;have hfc:(if (W.rt x.a).1≠3∨(W.th (W.rt x.a).2).k=5 then (2:Int) else if x.i<0∨((W.th (W.rt x.a).2).fs.length:Int)≤x.i then 1 else 0)=W.cP x:=by
  unfold Wd.cP;by_cases h3:(W.rt x.a).1=3
  ·have hna:¬ W.aj x.a<0:=fun h=>(Wd.dX R.hw).1 h h3;rw [h3t _ h3];rw [h3t _ h3] at hna;by_cases c:(W.th (W.rt x.a).2).k=5
   ·rw [if_pos (.inr c),if_pos (.inr c)]
   ·have n1:¬ ((W.rt x.a).1≠3∨(W.th (W.rt x.a).2).k=5):=fun h=>by rcases h with h | h;exact h h3;exact c h
    have n2:¬ ((W.rt x.a).2<0∨(W.th (W.rt x.a).2).k=5):=fun h=>by rcases h with h | h;exact hna h;exact c h
    rw [if_neg n1,if_neg n2]
  ·rw [if_pos (.inl h3),if_pos (.inl ((Wd.dX R.hw).2 h3))]
 by_cases k11:x.k=11
 ·rw [if_pos k11,if_pos k11];have ha:bD x.a=true:=hu.2.2.1 (by rw [k11];rfl);rw [R.ba ha,R.get (ok x.a)];unfold Wo.gU Wd.get;rw [←hfc];by_cases c1:(W.rt x.a).1≠3∨(W.th (W.rt x.a).2).k=5
  ·simp only [if_pos c1];exact ⟨rfl,φ,R⟩
  ·simp only [if_neg c1];by_cases c2:x.i<0∨((W.th (W.rt x.a).2).fs.length:Int)≤x.i
   ·simp only [if_pos c2];exact ⟨rfl,φ,R⟩
   ·simp only [if_neg c2];have h3:(W.rt x.a).1=3:=Decidable.byContradiction fun h=>c1 (.inl h);rw [h3t _ h3];refine ⟨rfl,φ,R.cB ?_ _⟩;refine R.hw.tv _ (Wd.bh (ok x.a) h3) _ ?_;have hl:x.i.toNat<(W.th (W.rt x.a).2).fs.length:=by omega
    rw [Ld,Le hl];exact List.getElem_mem _
 rw [if_neg k11,if_neg k11];by_cases k12:x.k=12
 ·rw [if_pos k12,if_pos k12];have ha:bD x.a=true:=hu.2.2.1 (by rw [k12];rfl);have hb:bD x.b=true:=hu.2.2.2.1 (by rw [k12];rfl);rw [R.ba ha,R.ba hb];obtain ⟨s1,s2,s3⟩:=aL.set R (ok x.a) (ok x.b) x.i;unfold Wd.set;rw [hfc] at s1;by_cases c:W.cP x=0
  ·rw [if_pos c];have h3:(W.rt x.a).1=3:=Decidable.byContradiction fun h=>by rw [←hfc,if_pos (.inl h)] at c;cases c
   rw [h3t _ h3];exact ⟨s1.trans c,φ,s3 (s1.trans c)⟩
  ·rw [if_neg c];rw [s2 (by rw [s1];exact c)];exact ⟨s1,φ,R⟩
 rw [if_neg k12,if_neg k12];by_cases k13:x.k=13
 ·rw [if_pos k13,if_pos k13];have ha:bD x.a=true:=hu.2.2.1 (by rw [k13];rfl);unfold Wo.pt Wd.len;rw [R.ba ha,R.a8 (ok x.a)];by_cases h3:(W.rt x.a).1=3
  ·have hna:¬ W.aj x.a<0:=fun h=>(Wd.dX R.hw).1 h h3;have hlv:=Wd.bh (ok x.a) h3;rw [if_pos h3];by_cases c:(W.th (W.rt x.a).2).k=5
   ·have n2:W.aj x.a<0∨(W.th (W.aj x.a)).k=5:=.inr (by rw [h3t _ h3];exact c);rw [if_pos n2];dsimp only;rw [if_pos ⟨rfl,c⟩];exact ⟨rfl,φ,R⟩
   ·have n2:¬ (W.aj x.a<0∨(W.th (W.aj x.a)).k=5):=fun h=>by rcases h with h | h;exact hna h;rw [h3t _ h3] at h;exact c h
    rw [if_neg n2];dsimp only;rw [if_neg (fun h=>c h.2)];unfold Wo.gU;rw [if_pos rfl,h3t _ h3];have hfl:=(bP (R.hw.tk _ hlv)).2;have hbg:cA=1152921504606846976:=rfl;have hn1:-cA≤((W.th (W.rt x.a).2).fs.length:Int):=by omega
    have hn2:((W.th (W.rt x.a).2).fs.length:Int)<cA:=by omega
    exact ⟨rfl,φ,R.cB (Wd.iU hn1 hn2) _⟩
  ·have n2:W.aj x.a<0∨(W.th (W.aj x.a)).k=5:=.inl ((Wd.dX R.hw).2 h3);rw [if_neg h3,if_pos n2];exact ⟨rfl,φ,R⟩
 rw [if_neg k13,if_neg k13];by_cases k14:x.k=14
 ·rw [if_pos k14,if_pos k14];have ha:bD x.a=true:=hu.2.2.1 (by rw [k14];rfl);have hb:bD x.b=true:=hu.2.2.2.1 (by rw [k14];rfl);rw [R.ba ha,R.ba hb];unfold Wd.same;have key:(aD φ (W.rt x.a)=aD φ (W.rt x.b))↔W.rt x.a=W.rt x.b:=by
   refine ⟨fun h=>?_,fun h=>by rw [h]⟩;have h1:=ok x.a;have h2:=ok x.b;generalize W.rt x.a=u at *;generalize W.rt x.b=v at *;obtain ⟨u1,u2⟩:=u;obtain ⟨v1,v2⟩:=v;unfold aD at h;rcases h1 with a | a | a | a <;> rcases h2 with b | b | b | b
   all_goals (obtain ⟨a1,a2⟩:=a;obtain ⟨b1,b2⟩:=b;dsimp only at a1 a2 b1 b2 h;subst a1;subst b1)
   all_goals simp at h
   all_goals first | omega | skip
   ·rw [a2,b2]
   ·rw [show u2=v2 by omega]
   ·rw [a2,b2]
   ·rw [R.inj _ _ a2 b2 (by omega)]
  by_cases c:W.rt x.a=W.rt x.b
  ·rw [if_pos (key.2 c),if_pos c];exact ⟨rfl,φ,R.cB (Wd.iU (n:=1) (by decide) (by decide)) _⟩
  ·rw [if_neg (fun h=>c (key.1 h)),if_neg c];exact ⟨rfl,φ,R.cB (Wd.iU (n:=0) (by decide) (by decide)) _⟩
 rw [if_neg k14,if_neg k14];by_cases k15:x.k=15
 ·rw [if_pos k15,if_pos k15];exact aL.minor R
 ·rw [if_neg k15,if_neg k15];exact aL.major R
end
end
section
open Go.RowKit
structure HH where
 p:Nat
 a:WH
def HH.Own (h:HH) (k:Nat):Prop:=k=h.p∨h.a.Own k
structure bj (w:World) (h:HH) (O:Wo):Prop where
 hp:ah w h.p [.pointer (some ⟨h.a.p,0,none⟩)] 71
 H:bp w h.a O
def a6 (w:World) (h:HH) (w':World) (O:Wo):Prop:=∃ h',bj w' h' O∧h'.p=h.p∧ab h.Own w w'∧∀ k,h'.Own k→h.Own k∨w.heap.size≤k
section
variable {w w':World} {h:HH} {O O':Wo}
theorem bj.Bc (B:bj w h O):¬ h.a.Own h.p:=fun h1=>by
 obtain ⟨c,T,hc,hT⟩:=B.H.bB h1;rcases hT with rfl | rfl | rfl | rfl | rfl | rfl | rfl <;> exact hc.ne B.hp (by decide) rfl
theorem bj.bU (B:bj w h O) {k:Nat} (hk:h.Own k):k<w.heap.size:=by
 rcases hk with rfl | hk
 ·exact B.hp.lt
 ·exact B.H.bU hk
theorem bj.ae {S:Nat→Prop} (B:bj w h O) (k:ab S w w') (hn:∀ b,h.Own b→¬ S b):bj w' h O:=⟨k.ak B.hp (hn _ (.inl rfl)),B.H.ae k (fun b hb=>hn b (.inr hb))⟩
theorem bj.same (B:bj w h O) (k:ab (fun _=>False) w w'):bj w' h O:=B.ae k (fun _ _ h=>h)
theorem a6.same (B:bj w h O) (k:ab (fun _=>False) w w'):a6 w h w' O:=⟨h,B.same k,rfl,k.mono (fun _ _ h=>h.elim),fun k hk=>.inl hk⟩
theorem a6.qV (B:bj w h O) (t:fK w h.a w' O'):a6 w h w' O':=by
 obtain ⟨h',H',e',k',o'⟩:=t;refine ⟨⟨h.p,h'⟩,⟨?_,H'⟩,rfl,k'.mono (fun b _ hb=>.inr hb),fun k hk=>?_⟩
 ·have:=k'.ak B.hp B.Bc;rw [←e'] at this;exact this
 ·rcases hk with hk | hk
  ·exact .inl (.inl hk)
  ·exact (o' k hk).imp (fun h=>.inr h) id
theorem a6.aW {w1:World} (k:ab (fun _=>False) w w1) (t:a6 w1 h w' O'):a6 w h w' O':=by
 obtain ⟨h1,H1,e1,k1,o1⟩:=t;exact ⟨h1,H1,e1,(k.mono (fun _ _ h=>h.elim)).trans k1,fun b hb=>(o1 b hb).imp id (fun h=>Nat.le_trans k.size h)⟩
theorem bj.Bd (B:bj w h O) (t:jO w h.a w' O'):bj w' h O'∧ab h.Own w w':=by
 have kk:=t.2.mono (fun k _ hk=>hk.own);exact ⟨⟨kk.ak B.hp B.Bc,t.1⟩,kk.mono (fun b _ hb=>.inr hb)⟩
theorem bj.zx (B:bj w h O) {g o cap k:Nat} {x:Int} (e:h.a.ro=.slice (some ⟨g,o,none⟩) 12 cap) (hk:k<12) (hx:br x) :
  bj (w.setCell ⟨g,o+k,none⟩ (.int .i64 x)) h (O.jG k x)∧ab h.Own w (w.setCell ⟨g,o+k,none⟩ (.int .i64 x)):=by
 have h12:=B.H.ok.h12;obtain ⟨H',k'⟩:=B.H.fN (k:=k) (x:=x) (by rw [h12];exact e) (by rw [h12];exact hk) hx;have kk:ab h.a.Own w (w.setCell ⟨g,o+k,none⟩ (.int .i64 x)):=k'.mono (fun b _ hb=>.inr (.inr (.inr (.inr hb))));refine ⟨⟨kk.ak B.hp B.Bc,?_⟩,kk.mono (fun b _ hb=>.inr hb)⟩;unfold Wo.jG;rw [Int.toNat_natCast];exact H'
theorem bj.pc (B:bj w h O):w.cell? ⟨h.p,0,none⟩=some (.pointer (some ⟨h.a.p,0,none⟩))∧h.p<w.heap.size:=⟨B.hp.cell 0,B.hp.lt⟩
theorem bj.roots (B:bj w h O):∃ g o cap,h.a.ro=.slice (some ⟨g,o,none⟩) 12 cap∧ai h.a.ro g∧w.cell? ⟨h.a.p,0,none⟩=some (.pointer (some ⟨h.a.pa,0,none⟩))∧w.cell? ⟨h.a.p,3,none⟩=some (.slice (some ⟨g,o,none⟩) 12 cap)∧h.a.p<w.heap.size ∧
  g<w.heap.size∧(∀ k,w.frozen? ⟨g,k,none⟩=false)∧∀ k:Nat,k<12→w.cell? ⟨g,o+k,none⟩=some (.int .i64 (O.ba k)):=by
 have h12:=B.H.ok.h12;obtain ⟨g',o',cap',hro,hown,hgl,q3,fz,rcs⟩:=B.H.roots;rw [h12] at hro q3;refine ⟨g',o',cap',hro,hown,B.H.dZ.1,q3,B.H.hp.lt,hgl,fz,fun k hk=>?_⟩;have:=rcs k (by omega);unfold Wo.ba;rw [Int.toNat_natCast];exact this
theorem kj (h:O.ok) (k:Int):br (O.ba k):=by
 unfold Wo.ba;rw [Ld];by_cases hk:k.toNat<O.rt.length
 ·rw [Le hk];exact h.hR _ (List.getElem_mem hk)
 ·rw [List.getElem?_eq_none (by omega)];unfold br;decide
def Ae (w:World) (n o:Int) (e:Ending) (w':World):Prop:=
 ∃ h:HH,e=.returned (.tuple #[.pointer (some ⟨h.p,0,none⟩), .agg #[.int .i64 0, .int .i64 0]])∧bj w' h (Wo.new n o)∧ab (fun _=>False) w w'∧∀ k,h.Own k→w.heap.size≤k
theorem sW (n o:Int) (w:World) (h:Ar.fits n o=true) :
  Calls Tryz.prog 30 #[.int .i64 n, .int .i64 o] w fun e w'=>Ae w n o e w':=by
 go_enter Tryz.func30,Tryz.ntmps30;go_wp2_with fail;refine (yh n o _ h).mono ?_;rintro e w1 ⟨h,rfl,H1,k1,o1⟩;have aw:ah w1 w.heap.size [.int .i64 0, .int .i64 0] 28:=k1.ak (ah.newAt _ rfl rfl) (fun h=>h);have ka0:=(Kz w).alloc (.cells #[.int .i64 0, .int .i64 0] 28);have HK:=Hz (ka0.trans k1);have HA:=Hz H1;have HB:=Hz aw;have HO:Hid (∀ k,h.Own k→w.heap.size+1≤k):=fun k hk=>by have:=o1 k hk;simpa using this
 clear H1 k1 o1 aw ka0;generalize hb0:w.heap.size=b0 at HB HO ⊢;have HSB:=Hz (Nat.le_of_eq hb0);have HB0:=Hz hb0.symm;clear hb0;go_upto_region 2 with (fail)
 have kb:=(Kz w1).alloc (.cells #[.int .i64 0, .int .i64 0] 28);have d0:(w1.alloc (.cells #[.int .i64 0, .int .i64 0] 28)).cell? ⟨w1.heap.size,0,none⟩=some (.int .i64 0):=(ah.new w1 [.int .i64 0, .int .i64 0] 28).cell 0;have dl:w1.heap.size<(w1.alloc (.cells #[.int .i64 0, .int .i64 0] 28)).heap.size:=by simp
 have HK2:=Hz (HK.out.trans kb);have HA2:=Hz (HA.out.ae kb (fun _ _ h=>h));have HB2:=Hz (kb.ak HB.out (fun h=>h));clear kb HK HA HB;generalize w1.alloc (.cells #[.int .i64 0, .int .i64 0] 28)=w2 at *;have f0:=HB2.out.free 0;have f1:=HB2.out.free 1;have c0:=HB2.out.cell 0;have c1:=HB2.out.cell 1;have cl:=HB2.out.lt;simp only [Lz,Ls] at c0 c1;go_wp2_with fail;have set:=((ab.refl (·=b0) w2).setCell (p:=⟨b0,0,none⟩) (.inl rfl) (.int .i64 0)).setCell (p:=⟨b0,1,none⟩) (.inl rfl) (.int .i64 0);have ka:=(Kz ((w2.setCell ⟨b0,0,none⟩ (.int .i64 0)).setCell ⟨b0,1,none⟩ (.int .i64 0))).alloc (.cells #[.pointer (some ⟨h.p,0,none⟩)] 71);have hbN:=((HB2.out.aO 0 (.int .i64 0)).aO 1 (.int .i64 0)).alloc (.cells #[.pointer (some ⟨h.p,0,none⟩)] 71);have x0':=hbN.cell 0;have x1':=hbN.cell 1;simp only [List.set_cons_zero,List.set_cons_succ,Lz,Ls] at x0' x1';refine bodyPost_ret (v:=.tuple #[.pointer (some ⟨w2.heap.size,0,none⟩), .agg #[.int .i64 0, .int .i64 0]]) (by simp [results,Tryz.results30,go_sem,x0',x1']) rfl ?_;refine ⟨⟨w2.heap.size,h⟩,rfl,⟨ah.newAt _ (by simp) rfl,(HA2.out.ae set (fun b hb e=>by have:=HO.out b hb;omega)).ae ka (fun _ _ h=>h)⟩,?_,fun k hk=>?_⟩
 ·refine (HK2.out.then set (fun k hk=>.inr ?_)).trans ka;rw [hk];exact HSB.out
 ·rcases hk with rfl | hk
  ·exact HK2.out.size
  ·have:=HO.out k hk;have:=HSB.out;have:=HB0.out;omega
theorem Af (n o:Int) (w:World) (h:Ar.fits n o=false) :
  Calls Tryz.prog 30 #[.int .i64 n, .int .i64 o] w fun e w'=>e=.returned (.tuple #[.pointer none, .agg #[.int .i64 1, .int .i64 (-1)]])∧ab (fun _=>False) w w':=by
 go_enter Tryz.func30,Tryz.ntmps30;go_wp2_with fail;refine (zR n o _ h).mono ?_;rintro e w1 ⟨rfl,hk⟩;have ka0:=(Kz w).alloc (.cells #[.int .i64 0, .int .i64 0] 28);have aw:ah w1 w.heap.size [.int .i64 0, .int .i64 0] 28:=hk.ak (ah.newAt _ rfl rfl) (fun h=>h);have HK:=Hz (ka0.trans hk);have HB:=Hz aw;clear hk aw ka0;generalize hb0:w.heap.size=b0 at HB ⊢;have HSB:=Hz (Nat.le_of_eq hb0);clear hb0;go_upto_region 2 with (fail)
 have kb:=(Kz w1).alloc (.cells #[.int .i64 1, .int .i64 (-1)] 28);have hn:=ah.new w1 [.int .i64 1, .int .i64 (-1)] 28;have d0:(w1.alloc (.cells #[.int .i64 1, .int .i64 (-1)] 28)).cell? ⟨w1.heap.size,0,none⟩=some (.int .i64 1):=hn.cell 0;have d1:(w1.alloc (.cells #[.int .i64 1, .int .i64 (-1)] 28)).cell? ⟨w1.heap.size,1,none⟩=some (.int .i64 (-1)):=hn.cell 1;have dl:w1.heap.size<(w1.alloc (.cells #[.int .i64 1, .int .i64 (-1)] 28)).heap.size:=by simp
 have HK2:=Hz (HK.out.trans kb);have HB2:=Hz (kb.ak HB.out (fun h=>h));clear kb HK HB hn;generalize w1.alloc (.cells #[.int .i64 1, .int .i64 (-1)] 28)=w2 at *;have f0:=HB2.out.free 0;have f1:=HB2.out.free 1;have c0:=HB2.out.cell 0;have c1:=HB2.out.cell 1;have cl:=HB2.out.lt;simp only [Lz,Ls] at c0 c1;go_wp2_with fail;refine ay (.free 1 (.pure 0 (.run 2 (.swi [] (.fin))))) [2] (fun w'=>w'.cell? ⟨w1.heap.size,0,none⟩=some (.int .i64 1)∧w'.cell? ⟨w1.heap.size,1,none⟩=some (.int .i64 (-1))) (by kernel_rfl) (by kernel_rfl) ⟨d0,d1⟩ ?_
 iterate 2 ((first | refine au rfl rfl fun K hK=>?_ | refine aq rfl rfl fun K hK=>?_ | refine aF rfl rfl fun K hK=>?_ | refine az rfl rfl fun K hK=>?_ | refine aE rfl rfl fun K hK=>?_);go_simp;refine hK _ ?_;clear hK K)
 refine aJ rfl rfl rfl (fun K hK=>?_);unfold aC;go_simp;refine hK _ _ ?_;clear hK K;refine aH (fun _=>True) trivial (aB ?_);go_wp2_with fail;have hbN:=(HB2.out.aO 0 (.int .i64 1)).aO 1 (.int .i64 (-1));have x0':=hbN.cell 0;have x1':=hbN.cell 1;simp only [List.set_cons_zero,List.set_cons_succ,Lz,Ls] at x0' x1';refine bodyPost_ret (v:=.tuple #[.pointer none, .agg #[.int .i64 1, .int .i64 (-1)]]) (by simp [results,Tryz.results30,go_sem,c0,c1,x0',x1']) rfl ⟨rfl,?_⟩;exact (HK2.out.drew.setCell (p:=⟨b0,0,none⟩) (.inr HSB.out) _).setCell (p:=⟨b0,1,none⟩) (.inr HSB.out) _
end
end
end Go.Proofs.YtjifdalflepcoacGreat
