/-
  Parts of the proof, merged: what the functions do, and plain laws.
-/
import Derived.Test.YtjifdalflepcoabGDesP2
import Derived.Test.YtjifdalflepcoabGDesP3
import Derived.Test.YtjifdalflepcoabGDesP1
import Derived.Test.YtjifdalflepcoabGDesP0
import Derived.Laws.EntriesVeiled
import Derived.Lib.AppendZeros
set_option maxHeartbeats 16000000
set_option maxRecDepth 100000
set_option linter.unusedVariables false
set_option linter.unusedSimpArgs false
namespace Go.Proofs.Ytjifdalflepcoab
section
open Go.RowKit
theorem Wd.mA {W:Wd} {major:Bool} (h:(W.cut major).1≠0):(W.cut major).2=W:=by
 unfold Wd.cut at h ⊢;split
 ·rfl
 ·rename_i h1;rw [if_neg h1] at h;split
  ·rfl
  ·rename_i h2;rw [if_neg h2] at h;exact (h rfl).elim
end
section
open Go.RowKit
theorem Rd.qY {w:World} {ao:Option Addr} {l:List Nat} (h:Rd w ao (l.map fun (k:Nat)=>Value.int .i64 (k:Int))) (i:Nat) (hi:i<l.length) :
  ∃ g o,ao=some ⟨g,o,none⟩∧g<w.heap.size∧w.cell? ⟨g,o+i,none⟩=some (.int .i64 ((l.getD i 0:Nat):Int)):=by
 obtain ⟨g,o,rfl,hg,hc⟩:=h (by intro e;simp at e;subst e;simp at hi);refine ⟨g,o,rfl,hg,?_⟩;rw [hc i (by simpa using hi)];simp [List.getD,hi]
theorem aC.step {w w1 w2:World} {h h1:RW} {W':Wd} (ep:h1.p=h.p) (k:aa h.Own w w1) (o:∀ b,h1.Own b→h.Own b∨w.heap.size≤b) (t:aC w1 h1 w2 W'):aC w h w2 W':=by
 obtain ⟨h2,H2,e2,k2,o2⟩:=t;refine ⟨h2,H2,e2.trans ep,k.then k2 (fun b hb=>?_),fun b hb=>?_⟩
 ·rcases o b hb with h | h
  ·exact .inl h
  ·exact .inr h
 ·rcases o2 b hb with h | h
  ·exact o b h
  ·exact .inr (Nat.le_trans k.size h)
theorem Wd.jX (W:Wd) (n:Int):(W.room n).2.T.length=W.T.length:=by
 unfold Wd.room;split
 ·unfold Wd.cut;split
  ·rfl
  ·split
   ·rfl
   ·exact Wd.gF
 ·rfl
theorem Wd.qi {W:Wd} {n:Int} (h:n > W.most-W.aI):W.room n=W.cut (decide (W.aI > W.grow-W.aY)):=by unfold Wd.room;rw [if_pos h]
theorem Wd.qj {W:Wd} {n:Int} (h:¬ n > W.most-W.aI):W.room n=(0,W):=by unfold Wd.room;rw [if_neg h]
section
variable {w:World} {h:RW} {W:Wd}
theorem i7 (r:Nat) (kd:Int) (l:List Nat) (ao:Option Addr) (cap:Nat) (H:aK w h W) (hT:W.T.length≤90000) (hr:r<12) (hl:∀ k ∈ l,k<12) (hf:aW kd l.length=true)
  (hs:Sl w 3 1 (.slice ao l.length cap) l.length (l.map fun (k:Nat)=>Value.int .i64 (k:Int))) :
  Calls Try.prog 104 #[.pointer (some ⟨h.p,0,none⟩), .int .i64 r, .int .i64 kd, .slice ao l.length cap] w fun e w'=>e=.returned (.int .i64 (W.bO r kd (l.map fun (k:Nat)=>(k:Int))).1)∧aC w h w' (W.bO r kd (l.map fun (k:Nat)=>(k:Int))).2:=by
 have HH:=Hz H;have HF:=Hz hf;have hl12:=(bs hf).2.2.2;have HLL:=Hz hl;have HS:=Hz hs;have hok:=H.ok;have HOK:=Hz hok;have g1:=hok.g1;have g2:=hok.g2;have uo:=hok.uo;have uy:=hok.uy;have m1:=hok.m1;have m2:=hok.m2;have y0:0≤W.aI:=bV _ _;have z0:0≤W.aY:=bV _ _;have HN:=Hz (show ∀ c,(W.room (1+(l.length:Int))).1=c→c≠0→W.bO r kd (l.map fun (k:Nat)=>(k:Int))=(c,W) from fun c hc h0=>by
  unfold Wd.bO
  rw [List.length_map,if_neg (by rw [hc];exact h0),hc])
 have HY:=Hz (show (W.room (1+(l.length:Int))).1=0→W.bO r kd (l.map fun (k:Nat)=>(k:Int))=(0,(W.room (1+(l.length:Int))).2.put r kd ((l.map fun (k:Nat)=>(k:Int)).map (W.room (1+(l.length:Int))).2.rt)) from fun h0=>by
  unfold Wd.bO
  rw [List.length_map,if_pos h0])
 have hw1:IntKind.i64.wrap (1+(l.length:Int))=1+l.length:=IntWalk.i64_in _ (by omega);have hw2:IntKind.i64.wrap (W.most-W.aI)=W.most-W.aI:=IntWalk.i64_in _ (by omega);have hw3:IntKind.i64.wrap (W.grow-W.aY)=W.grow-W.aY:=IntWalk.i64_in _ (by omega);clear H hf hl hs hok;go_enter Try.func104,Try.ntmps104;go_wp2_with fail;refine (kI HH.out (by omega)).mono ?_;rintro e w1 ⟨rfl,hk⟩;have H1:=Hz (HH.out.same hk);have K1:=Hz hk;clear hk;obtain ⟨-,-,-,-,c4,c5⟩:=H1.out.cells;have pl:=H1.out.hp.lt;obtain ⟨b,hb⟩:∃ b,decide (W.most-W.aI<1+(l.length:Int))=b:=⟨_,rfl⟩;go_upto_region 3 with (fail)
 refine cY (fun i=>Nat.blt 22 i && Nat.blt i 31) (fun s wx=>s 30=.bool b∧wx=w1) ?_ ?_
 ·intro K hK;go_wp2_with fail;refine ⟨by kernel_rfl,?_⟩;exact ⟨rfl,rfl⟩
 intro u wx hR;obtain ⟨e30,rfl⟩:=hR;have e30:u 30=.bool b:=e30;simp (maxSteps:=2000000) only [da,overL,List.toList_toArray,Nat.blt,Nat.beq,Nat.ble,Nat.reduceAdd,Bool.or_false,Bool.false_or,Bool.or_true,Bool.true_or,Bool.and_true,Bool.true_and,Bool.and_false,Bool.false_and,cond_true,cond_false];rw [e30];clear e30;rename_i K3 hK3;refine hK3 _ _ ?_;refine cY (fun i=>Nat.beq 12 i || (Nat.blt 30 i && Nat.blt i 43)) (fun s wx=>aC w h wx (W.room (1+(l.length:Int))).2∧(W.room (1+(l.length:Int))).1=0) ?_ ?_
 ·intro K hK;by_cases hroom:1+(l.length:Int) > W.most-W.aI
  ·obtain rfl:b=true:=by rw [←hb];simpa using hroom
   clear hb;have hrc:=Wd.qi hroom;clear hroom;obtain ⟨mj,hmj⟩:∃ b,decide (W.aI > W.grow-W.aY)=b:=⟨_,rfl⟩;rw [hmj] at hrc;have HRC:=Hz hrc;have hdm:decide (W.grow-W.aY<W.aI)=mj:=by simpa using hmj
   clear hrc hmj;go_wp2_with fail;refine (mz mj H1.out (by omega)).mono ?_;rintro e w2 ⟨rfl,hto⟩;have TO:=Hz (aC.aN K1.out hto);clear hto c4 c5 pl;by_cases h0:(W.cut mj).1=0
   ·have HR0:=Hz (show (W.room (1+(l.length:Int))).1=0 by rw [HRC.out];exact h0);rw [h0];clear h0;go_wp2_with fail;refine ⟨by kernel_rfl,?_⟩;exact ⟨by rw [HRC.out];exact TO.out,HR0.out⟩
   ·have HE:=Hz (HN.out _ (by rw [HRC.out]) h0);have HC:=Hz (Wd.mA h0);have hd2:((W.cut mj).1 != 0)=true:=by simpa using h0
    clear h0;generalize (W.cut mj).1=cc at *;go_wp2_with fail;go_ret;exact ⟨by rw [HE.out];rfl,by rw [HE.out];have:=TO.out;rw [HC.out] at this;exact this⟩
  ·obtain rfl:b=false:=by rw [←hb];simpa using hroom
   clear hb;have HRY:=Hz (Wd.qj hroom);clear hroom;go_wp2_with fail;refine ⟨by kernel_rfl,?_⟩;exact ⟨by rw [HRY.out];exact aC.same HH.out K1.out,by rw [HRY.out]⟩
 ·intro u wx hR;obtain ⟨⟨h2,H2,ep,hk2,ho2⟩,h0⟩:=hR;have HE:=Hz (show W.bO r kd (l.map fun (k:Nat)=>(k:Int))=(0,(W.room (1+(l.length:Int))).2.put r kd (l.map fun (j:Nat)=>(W.room (1+(l.length:Int))).2.rt (j:Int))) by rw [HY.out h0,List.map_map];rfl);have HRO:=Hz (Wd.ok.room HOK.out (1+l.length) (by omega));have hrm:=HRO.out.2 h0;have hTl:(W.room (1+(l.length:Int))).2.T.length≤90000:=by rw [Wd.jX];exact hT
  have HPK:=Hz (HRO.out.1.put (r:=r) (k:=kd) (l:=l.map fun (j:Nat)=>(W.room (1+(l.length:Int))).2.rt (j:Int)) (by rw [List.length_map];exact HF.out) (fun v hv=>by
   obtain ⟨j,hj,rfl⟩:=List.mem_map.1 hv
   exact Wd.eS H2.ok (j:Int)) (by rw [List.length_map];exact hrm))
  simp (maxSteps:=2000000) only [da,overL,List.toList_toArray,Nat.blt,Nat.beq,Nat.ble,Nat.reduceAdd,Bool.or_false,Bool.false_or,Bool.or_true,Bool.true_or,Bool.and_true,Bool.true_and,Bool.and_false,Bool.false_and,cond_true,cond_false];have S2:=Hz (HS.out.ae hk2 (fun b hb e=>by
   obtain ⟨_,c,hc⟩:=HS.out.own hb;obtain ⟨_,c',T,hc',hT⟩:=HH.out.aX e;refine hc.ne hc' ?_ rfl
   rcases hT with rfl | rfl | rfl | rfl <;> decide))
  have K2:=Hz hk2;have O2:=Hz ho2;have H2:=Hz H2;rw [←ep];have EP:=Hz ep;clear hk2 ho2 h0 HN HY HRO c4 c5 pl hw2 hw3 ep;generalize (W.room (1+(l.length:Int))).2=W2 at *;obtain ⟨iv,hi,hz0,hz1,hz2⟩:=bB du;have Vi:=Hz hi;have Vz0:=Hz hz0;have Vz1:=Hz hz1;have Vz2:=Hz hz2;clear hi hz0 hz1 hz2;obtain ⟨it,hi,hz0,hz1,hz2⟩:=bB n6;have Ti:=Hz hi;have Tz0:=Hz hz0;have Tz1:=Hz hz1;have Tz2:=Hz hz2;clear hi hz0 hz1 hz2;go_wp2_with fail;generalize hwb:wx.alloc (.cells #[.int .i64 kd, .slice none 0 0, .bool false, .bool false] 161)=wb;have KB:=Hz (show aa (fun _=>False) wx wb by rw [←hwb];exact (aa.refl _ _).alloc _);have TB:=Hz (show ah wb wx.heap.size [.int .i64 kd, .slice none 0 0, .bool false, .bool false] 161 by rw [←hwb];exact ah.newAt _ rfl rfl);have HB:=Hz (H2.out.same KB.out);have SB:=Hz (S2.out.ae KB.out (fun _ _ h=>h));have OB:=Hz (fun b hb=>(H2.out.aX (k:=b) hb).1);have SO:=Hz (fun b hb=>(S2.out.own (k:=b) hb).1);have ZB:=Hz (show wb.heap.size=wx.heap.size+1 by rw [←hwb];simp);have ZK:=Hz K2.out.size;clear hwb;obtain ⟨tb,htb⟩:∃ n,wx.heap.size=n:=⟨_,rfl⟩;rw [htb] at TB OB SO ZB;rw [htb];have HTB:=Hz htb;clear htb;go_loopw [14] (fun u wr=>∃ (k:Nat) (fo:Option Addr) (fc:Nat),k≤l.length∧u=.int .i64 k∧aa (·=tb) wb wr∧ah wr tb [.int .i64 kd, .slice fo k fc, .bool false, .bool false] 161∧Sl wr 78 2 (.slice fo k fc) k (au ((l.take k).map fun (j:Nat)=>W2.rt (j:Int)))∧∀ b,ag (.slice fo k fc) b→tb+1≤b) (fun u _=>l.length-(intOf u).toNat)
  case atStart=>exact ⟨0,none,0,Nat.zero_le _,rfl,aa.refl _ _,TB.out,Sl.nil _ _ _,fun b hb=>(bJ hb).elim⟩
  case round=>
   obtain ⟨k,fo,fc,hk,rfl,hK,hB,hS,hO⟩:=hrel;have KR:=Hz hK;have BR:=Hz hB;have FS:=Hz hS;have FO:=Hz hO;have HR:=Hz (HB.out.ae hK (fun b hb e=>by have:=OB.out b hb;omega));have SR:=Hz (SB.out.ae hK (fun b hb e=>by have:=SO.out b hb;omega));have b1:=hB.cell 1;have bl:=hB.lt;have bf:=hB.free 1;simp only [Lz,Ls] at b1;clear hK hB hS hO;by_cases hlt:k<l.length
   ·obtain ⟨_,_,e',rdl,-,-⟩:=SR.out.rd;cases e';obtain ⟨gl,ol,rfl,hgl,l0⟩:=rdl.qY k hlt;have hm:=HLL.out (l.getD k 0) (by rw [Ld,Le hlt];exact List.getElem_mem _);have htk:((l.take (k+1)).map fun (j:Nat)=>W2.rt (j:Int))=((l.take k).map fun (j:Nat)=>W2.rt (j:Int)) ++ [W2.rt ((l.getD k 0:Nat):Int)]:=by
     rw [List.take_add_one,Le hlt,List.map_append,Ld,Le hlt];rfl
    generalize l.getD k 0=m at *;obtain ⟨g,o,rc,erv,hg,r0,r1⟩:=HR.out.root hm;have hrl:W2.roots.length=12:=HR.out.ok.hr;obtain ⟨-,c1,-,-,-,-⟩:=HR.out.cells;have pl:=HR.out.hp.lt;rw [erv,hrl] at c1;have HTK:=Hz htk;have hmi:(m:Int)<12:=by omega
    generalize W2.rt (m:Int)=v at *;obtain ⟨v1,v2⟩:=v;dsimp only at r0 r1;obtain ⟨L,hL⟩:∃ L,((l.take k).map fun (j:Nat)=>W2.rt (j:Int))=L:=⟨_,rfl⟩;rw [hL] at FS;have HT2:=Hz (show ((l.take (k+1)).map fun (j:Nat)=>W2.rt (j:Int))=L ++ [(v1,v2)] by rw [HTK.out,hL]);clear rdl htk HTK hL erv hrl;go_wp2_with fail;refine aq (.free 0 (.free 2 (.free 3 (.free 4 (.free 6 (.free 7 (.free 8 (.pure 1 (.pure 5 (.pure 9 (.free 10 (.pure 11 (.run 12 (.run 13 (.swi [15] (.free 14 (.run 15 (.swi [] (.fin))))))))))))))))))) [13,14,15] (fun w'=>w'.cell? ⟨tb,1,none⟩=some (.slice fo k fc)∧w'.cell? ⟨h2.p,1,none⟩=some (.slice (some ⟨g,o,none⟩) 12 rc)∧w'.cell? ⟨gl,ol+k,none⟩=some (.int .i64 m)∧w'.cell? ⟨g,o+m*2,none⟩=some (.int .i64 v1)∧w'.cell? ⟨g,o+m*2+1,none⟩=some (.int .i64 v2)) (by kernel_rfl) (by kernel_rfl) ⟨b1,c1,l0,r0,r1⟩ ?_
    iterate 12 ((first | refine ak rfl rfl fun K hK=>?_ | refine aj rfl rfl fun K hK=>?_ | refine ay rfl rfl fun K hK=>?_ | refine av rfl rfl fun K hK=>?_ | refine ax rfl rfl fun K hK=>?_);go_simp;refine hK _ ?_;clear hK K)
    refine aZ rfl rfl (fun K hK=>?_);unfold aM;go_simp;have hka:aa (fun _=>False) wr ((wr.alloc (.cells #[.int .i64 v1, .int .i64 v2] 78)).drew):=((Kz wr).alloc (.cells #[.int .i64 v1, .int .i64 v2] 78)).drew;have hcc:∀ (a:Nat) (q:Nat),a<wr.heap.size→((wr.alloc (.cells #[.int .i64 v1, .int .i64 v2] 78)).drew).cell? ⟨a,q,none⟩=wr.cell? ⟨a,q,none⟩:=fun a q ha=>World.cell?_of_block (w:=wr) (a:=⟨a,q,none⟩) (hka.block a ha (fun h=>h));refine hK _ _ (fun hg'=>⟨(hcc _ _ bl).trans b1,(hcc _ _ pl).trans c1,(hcc _ _ hgl).trans l0,(hcc _ _ hg).trans r0,(hcc _ _ hg).trans r1⟩) ?_;clear hK K hcc;refine aG rfl rfl rfl (fun K hK=>?_);refine cy (.tmp 53) (.tmp 64) 69 rfl 78 iv (.agg #[.int .i64 0, .int .i64 0]) 2 16 Try.underlying69 Vi.out Vz0.out Vz1.out Vz2.out rfl (by decide) _ k (au L) rfl (FS.out.ae hka (fun _ _ h=>h)) ⟨wr.heap.size,0,none⟩ 1 1 [.int .i64 v1, .int .i64 v2] rfl rfl (bq wr 78 #[.int .i64 v1, .int .i64 v2]) (by intro u hu;simp at hu;rcases hu with rfl | rfl <;> rfl) (by unfold maxLen;omega) (by omega) ?_;intro v2' w2 hs2 hk2 ho2;refine hK _ _ ?_;clear hK K;obtain ⟨ao2,ac2,rfl,-,-,-⟩:=hs2.rd;have hno:∀ b,ag (.slice fo k fc) b→b≠tb:=fun b hb e=>by have:=FO.out b hb;omega
    have hb2:=hk2.ai (hka.ai BR.out (fun h=>h)) (fun hb=>hno _ hb rfl);have KN:aa (·=tb) wb w2:=(KR.out.trans (hka.mono (fun _ _ h=>h.elim))).then hk2 (fun j hj=>.inr (by have:=FO.out j hj;rw [ZB.out];exact this));have hoN:∀ b,ag (.slice ao2 (k+1) ac2) b→tb+1≤b:=fun b hb=>by
     rcases ho2 b hb with h1 | h1
     ·exact FO.out b h1
     ·have:=BR.out.lt;first | omega | (simp at h1;omega)
    have x1:=hb2.cell 1;have xl:=hb2.lt;have xf:=hb2.free 1;simp only [Lz,Ls] at x1;have KN2:=Hz (KN.setCell (p:=⟨tb,1,none⟩) (.inl rfl) (.slice ao2 (k+1) ac2));have BN:=Hz (show ah (w2.setCell ⟨tb,1,none⟩ (.slice ao2 (k+1) ac2)) tb [.int .i64 kd, .slice ao2 (k+1) ac2, .bool false, .bool false] 161 by simpa using hb2.aF 1 (.slice ao2 (k+1) ac2));have SN:=Hz (show Sl (w2.setCell ⟨tb,1,none⟩ (.slice ao2 (k+1) ac2)) 78 2 (.slice ao2 (k+1) ac2) (k+1) (au (L ++ [(v1,v2)])) by
     have e2:au (L ++ [(v1,v2)])=au L ++ [.int .i64 v1, .int .i64 v2]:=by simp [au]
     rw [e2]
     exact hs2.ae ((aa.refl (·=tb) w2).setCell (p:=⟨tb,1,none⟩) (.inl rfl) (.slice ao2 (k+1) ac2)) (fun b hb e=>by have:=hoN b hb;omega))
    have ON:=Hz hoN;clear hs2 hk2 ho2 hka hno hb2 KN hoN b1 c1 l0 r0 r1 bl pl bf;refine aE (fun _=>True) trivial ?_
    iterate 1 ((first | refine ak rfl rfl fun K hK=>?_ | refine aj rfl rfl fun K hK=>?_);go_simp;refine hK _ ?_;clear hK K)
    refine aG rfl rfl rfl (fun K hK=>?_);unfold aM;go_simp;refine hK _ _ ?_;clear hK K;refine aE (fun _=>True) trivial (aA ?_);clear x1 xl xf;go_wp2_with fail;go_roundw
    case rel=>exact ⟨k+1,ao2,ac2,hlt,by go_num,KN2.out,BN.out,by rw [HT2.out];exact SN.out,ON.out⟩
    case measure=>simp [intOf];omega
   ·obtain rfl:k=l.length:=by omega
    rw [List.take_length] at FS;have HPO:=Hz (show (W2.put r kd (l.map fun (j:Nat)=>W2.rt (j:Int))).ok from HPK.out);have hlen:(l.map fun (j:Nat)=>W2.rt (j:Int)).length=l.length:=List.length_map _;have HLN:=Hz hlen;clear hlen;obtain ⟨g,o,rc,erv,hg,-,-⟩:=HR.out.root hr;have hrl:W2.roots.length=12:=HR.out.ok.hr;obtain ⟨no,nc,eth,-⟩:=HR.out.ht.nth;obtain ⟨c0,c1,-,-,-,-⟩:=HR.out.cells;have pl:=HR.out.hp.lt;have hrs:=HR.out.hr;rw [erv,hrl] at c1 hrs;rw [eth] at c0;have RS:=Hz hrs;have ERV:=Hz erv;have HRL:=Hz hrl;have ETH:=Hz eth;clear erv hrl eth hrs;go_wp2_with fail;have h12:(r:Int)<12:=by omega
    have h12':¬ (12:Int)≤(r:Int):=by omega
    have h12n:¬ (12:Nat)≤r:=by omega
    refine aq (.free 0 (.free 1 (.free 2 (.free 4 (.free 5 (.free 6 (.free 7 (.pure 3 (.pure 8 (.free 9 (.free 10 (.free 11 (.run 12 (.swi [] (.fin))))))))))))))) [12] (fun w'=>w'.cell? ⟨h2.p,0,none⟩=some (.slice no W2.T.length nc)∧w'.cell? ⟨h2.p,1,none⟩=some (.slice (some ⟨g,o,none⟩) 12 rc)) (by kernel_rfl) (by kernel_rfl) ⟨c0,c1⟩ ?_
    iterate 12 ((first | refine ak rfl rfl fun K hK=>?_ | refine aj rfl rfl fun K hK=>?_ | refine ay rfl rfl fun K hK=>?_ | refine av rfl rfl fun K hK=>?_ | refine ax rfl rfl fun K hK=>?_);go_simp;refine hK _ ?_;clear hK K)
    refine aG rfl rfl rfl (fun K hK=>?_);refine aS 78 (.tmp 78) (.tmp 77) rfl rfl g o 12 rc r (au W2.roots) 78 (.int .i64 3) (.int .i64 W2.T.length) rfl rfl (RS.out.ae (Kz wr).drew (fun _ _ h=>h)) hr (by kernel_rfl) rfl rfl ?_;intro w3 hs3 hk3 hz3;refine hK _ _ ?_;clear hK K;refine aE (fun _=>True) trivial (aA ?_);have hkw:aa (·=g) wr w3:=((Kz wr).drew.mono (fun _ _ h=>h.elim)).trans hk3;have KW:=Hz hkw;obtain ⟨_,cg,hcg⟩:=RS.out.own (k:=g) rfl;have ne:∀ {b:Nat} {c:List Value} {T:TypeId},ah wr b c T→T≠78→¬ b=g:=fun hb hT e=>hb.ne hcg hT e;have HP3:=hkw.ai HR.out.hp (ne HR.out.hp (by decide));have BR3:=hkw.ai BR.out (ne BR.out (by decide));obtain ⟨cs,hsT1,hRT⟩:=H2.out.ht;have hsT:=(hsT1.ae KB.out (fun _ _ h=>h)).ae KR.out (fun b hb e=>by have:=OB.out b (.inr (.inl hb));omega);have hsT3:=hsT.ae hkw (fun b hb=>by obtain ⟨_,c,hc⟩:=hsT.own hb;exact ne hc (by decide));have hgo:ag h2.rv g:=by rw [ERV.out];rfl
    have hgt:=OB.out g (.inr (.inr (.inl hgo)));have FS3:=FS.out.ae hkw (fun b hb e=>by have:=FO.out b hb;omega);rw [ETH.out] at hsT3;have c0:=HP3.cell 0;have pl:=HP3.lt;have t0:=BR3.cell 0;have t1:=BR3.cell 1;have t2:=BR3.cell 2;have t3:=BR3.cell 3;have bl:=BR3.lt;simp only [Lz,Ls] at c0 t0 t1 t2 t3;rw [ETH.out] at c0;have RS3:=Hz hs3;have HP3:=Hz HP3;have BR3:=Hz BR3;have TS3:=Hz hsT3;have RT:=Hz hRT;have FS3:=Hz FS3;have TS:=Hz hsT;have GO:=Hz hgo;have HGT:=Hz hgt;clear hkw hcg ne hsT hsT3 hRT hs3 hk3 hz3 b1 bf c1 hg h12 h12' h12n hgo hgt;go_wp2_with fail;refine aq (.free 0 (.free 1 (.free 2 (.free 3 (.pure 4 (.pure 5 (.run 6 (.run 7 (.swi [10] (.free 8 (.free 9 (.run 10 (.swi [] (.fin)))))))))))))) [7,8,9,10] (fun w'=>w'.cell? ⟨h2.p,0,none⟩=some (.slice no W2.T.length nc)∧w'.cell? ⟨tb,0,none⟩=some (.int .i64 kd)∧w'.cell? ⟨tb,1,none⟩=some (.slice fo l.length fc)∧w'.cell? ⟨tb,2,none⟩=some (.bool false)∧w'.cell? ⟨tb,3,none⟩=some (.bool false)) (by kernel_rfl) (by kernel_rfl) ⟨c0,t0,t1,t2,t3⟩ ?_
    iterate 6 ((first | refine ak rfl rfl fun K hK=>?_ | refine aj rfl rfl fun K hK=>?_ | refine eE rfl rfl _ (fun w' hG=>by obtain ⟨c0,t0,t1,t2,t3⟩:=hG;exact gC (cs:=[_,_,_,_]) rfl (by decide +kernel) rfl (ab (by assumption) (ab (by assumption) (ab (by assumption) (ab (by assumption) aO))))) (fun K hK=>?_) | refine ay rfl rfl fun K hK=>?_ | refine av rfl rfl fun K hK=>?_ | refine ax rfl rfl fun K hK=>?_);go_simp;refine hK _ ?_;clear hK K)
    refine aZ rfl rfl (fun K hK=>?_);unfold aM;go_simp;have hka:aa (fun _=>False) w3 ((w3.alloc (.cells #[.int .i64 kd, .slice fo l.length fc, .bool false, .bool false] 161)).drew):=((Kz w3).alloc (.cells #[.int .i64 kd, .slice fo l.length fc, .bool false, .bool false] 161)).drew;refine hK _ _ (fun hg=>⟨(hka.ai HP3.out (fun h=>h)).cell 0 |>.trans (by simp [ETH.out]),(hka.ai BR3.out (fun h=>h)).cell 0,(hka.ai BR3.out (fun h=>h)).cell 1,(hka.ai BR3.out (fun h=>h)).cell 2,(hka.ai BR3.out (fun h=>h)).cell 3⟩) ?_;clear hK K;refine aG rfl rfl rfl (fun K hK=>?_);refine cy (.tmp 83) (.tmp 85) 147 rfl 161 it (.agg #[.int .i64 0, .slice none 0 0, .bool false, .bool false]) 4 40 Try.underlying147 Ti.out Tz0.out Tz1.out Tz2.out rfl (by decide) _ W2.T.length cs rfl (TS3.out.ae hka (fun _ _ h=>h)) ⟨w3.heap.size,0,none⟩ 1 1 [.int .i64 kd, .slice fo l.length fc, .bool false, .bool false] rfl rfl (bq w3 161 #[.int .i64 kd, .slice fo l.length fc, .bool false, .bool false]) (by intro u hu;simp at hu;rcases hu with rfl | rfl | rfl <;> rfl) (by unfold maxLen;omega) (by omega) ?_;intro v4 w4 hs4 hk4 ho4;refine hK _ _ ?_;clear hK K;obtain ⟨vo4,vc4,rfl,-,-,-⟩:=hs4.rd;have nTV:∀ {b:Nat} {c:List Value} {T:TypeId},ah w3 b c T→T≠161→¬ ag (.slice no W2.T.length nc) b:=fun hb hT e=>by
     obtain ⟨_,c',hc'⟩:=TS3.out.own e;exact hb.ne hc' hT rfl
    have HP4:=Hz (hk4.ai (hka.ai HP3.out (fun h=>h)) (nTV HP3.out (by decide)));have RS4:=Hz ((RS3.out.ae hka (fun _ _ h=>h)).ae hk4 (fun b hb e=>by obtain ⟨_,c,hc⟩:=RS3.out.own hb;exact nTV hc (by decide) e));have FS4:=Hz ((FS3.out.ae hka (fun _ _ h=>h)).ae hk4 (fun b hb e=>by obtain ⟨_,c,hc⟩:=FS3.out.own hb;exact nTV hc (by decide) e));have TS4:=Hz hs4;have K13:=Hz (show aa (fun b=>ag h2.rv b∨ag h2.tv b∨b=h2.p) wx w3 from ((KB.out.mono (fun _ _ h=>h.elim)).then KR.out (fun b hb=>.inr (by rw [HTB.out,hb];exact Nat.le_refl _))).then KW.out (fun b hb=>.inl (.inl (hb ▸ GO.out))));have K14:=Hz ((K13.out.then hka (fun _ h=>h.elim)).then hk4 (fun b hb=>.inl (.inr (.inl (by rw [ETH.out];exact hb)))));have O4:=Hz (show ∀ b,ag (.slice vo4 (W2.T.length+1) vc4) b→ag h2.tv b∨wx.heap.size≤b from fun b hb=>by
     rcases ho4 b hb with h1 | h1
     ·exact .inl (by rw [ETH.out];exact h1)
     ·have:=K13.out.size;exact .inr (by first | omega | (simp at h1;omega)))
    have x0:=HP4.out.cell 0;have xl:=HP4.out.lt;have xf:=HP4.out.free 0;simp only [Lz] at x0;clear hs4 hk4 ho4 hka c0 t0 t1 t2 t3 bl pl;refine aE (fun _=>True) trivial ?_
    iterate 2 ((first | refine ak rfl rfl fun K hK=>?_ | refine aj rfl rfl fun K hK=>?_);go_simp;refine hK _ ?_;clear hK K)
    refine aG rfl rfl rfl (fun K hK=>?_);unfold aM;go_simp;refine hK _ _ ?_;clear hK K;refine aE (fun _=>True) trivial (aA ?_);clear x0 xl xf;go_wp2_with fail;go_ret;refine ⟨by rw [HE.out];rfl,?_⟩;rw [HE.out];have hnp:∀ {b:Nat} {c:List Value} {T:TypeId},ah w4 b c T→T≠150→¬ b=h2.p:=fun hb hT=>hb.ne HP4.out hT;have hset:=(aa.refl (·=h2.p) w4).setCell (p:=⟨h2.p,0,none⟩) (.inl rfl) (.slice vo4 (W2.T.length+1) vc4);have hlen:=HLN.out;have hput:=H2.out.n5 (w':=(w4.setCell ⟨h2.p,0,none⟩ (.slice vo4 (W2.T.length+1) vc4))) (r:=r) (kd:=kd) (l:=(l.map fun (j:Nat)=>W2.rt (j:Int))) (tv:=.slice vo4 (W2.T.length+1) vc4) (fv:=.slice fo l.length fc) (fo:=fo) (fc:=fc) (cs:=cs) (by rw [hlen]) (by simpa using HP4.out.aF 0 (.slice vo4 (W2.T.length+1) vc4)) RT.out (by rw [hlen];exact TS4.out.ae hset (fun b hb e=>by obtain ⟨_,c,hc⟩:=TS4.out.own hb;exact hnp hc (by decide) e))
     (by rw [ERV.out,HRL.out];exact RS4.out.ae hset (fun b hb e=>by obtain ⟨_,c,hc⟩:=RS4.out.own hb;exact hnp hc (by decide) e)) (by rw [hlen];exact FS4.out.ae hset (fun b hb e=>by obtain ⟨_,c,hc⟩:=FS4.out.own hb;exact hnp hc (by decide) e))
     (fun b hb=>by have:=FO.out b hb;rw [HTB.out];omega) (K14.out.then hset (fun b hb=>.inl (.inr (.inr hb)))) O4.out HPO.out
    have:=aC.step EP.out K2.out O2.out hput
    first | exact this | exact this.to_same (aa.refl _ _).drew | skip
end
end
section
open Go.RowKit
theorem mW:(Try.prog.info? 188).map (fun i=>(i.zero,i.size,i.bytes))=some (some (.agg #[.int .i64 0, .slice none 0 0, .bool false, .bool false]),4,40):=by kernel_rfl
theorem Wd.pq {W:Wd} {n:Int} (h:(W.room n).1≠0):(W.room n).2=W:=by
 unfold Wd.room at h ⊢;split
 ·rename_i hc;rw [if_pos hc] at h;exact Wd.mA h
 ·rfl
section
variable {w:World} {h:bZ} {W:Wd}
theorem hH (r:Nat) (kd:Int) (l:List Nat) (ao:Option Addr) (cap:Nat) (H:aJ w h W) (hT:W.T.length≤90000) (hr:r<12) (hl:∀ k ∈ l,k<12) (hf:aW kd l.length=true)
  (hs:Sl w 3 1 (.slice ao l.length cap) l.length (fx l)) :
  Calls Try.prog 96 #[.pointer (some ⟨h.p,0,none⟩), .int .i64 r, .int .i64 kd, .slice ao l.length cap] w fun e w'=>e=.returned (.int .i64 (W.bO r kd (l.map fun (k:Nat)=>(k:Int))).1)∧aL w h w' (W.bO r kd (l.map fun (k:Nat)=>(k:Int))).2:=by
 have HH:=Hz H;have HF:=Hz hf;have hl12:=(bs hf).2.2.2;have HLL:=Hz hl;have HS:=Hz hs;have hok:=H.ok;have HOK:=Hz hok;have g1:=hok.g1;have g2:=hok.g2;have uo:=hok.uo;have uy:=hok.uy;have m1:=hok.m1;have m2:=hok.m2;have HN:=Hz (show ∀ c,(W.room (1+(l.length:Int))).1=c→c≠0→W.bO r kd (l.map fun (k:Nat)=>(k:Int))=(c,W) from fun c hc h0=>by
  unfold Wd.bO
  rw [List.length_map,if_neg (by rw [hc];exact h0),hc])
 have HY:=Hz (show (W.room (1+(l.length:Int))).1=0→W.bO r kd (l.map fun (k:Nat)=>(k:Int))=(0,(W.room (1+(l.length:Int))).2.put r kd ((l.map fun (k:Nat)=>(k:Int)).map (W.room (1+(l.length:Int))).2.rt)) from fun h0=>by
  unfold Wd.bO
  rw [List.length_map,if_pos h0])
 have HRM:=Hz (rC (1+(l.length:Int)) H (by omega) (by omega) (by omega));clear H hf hl hs hok;go_enter Try.func96,Try.ntmps96;go_wp2_with fail;refine HRM.out.mono ?_;rintro e w1 ⟨rfl,hto⟩;have TO:=Hz hto;clear hto HRM;by_cases h0:(W.room (1+(l.length:Int))).1=0
 case neg=>
  have HE:=Hz (HN.out _ rfl h0);have HC:=Hz (Wd.pq h0);have hd2:((W.room (1+(l.length:Int))).1 != 0)=true:=by simpa using h0
  clear h0;generalize (W.room (1+(l.length:Int))).1=cc at *;go_wp2_with fail;go_ret;exact ⟨by rw [HE.out];rfl,by rw [HE.out];have:=TO.out;rw [HC.out] at this;exact this⟩
 obtain ⟨h2,H2,ep,hk2,ho2⟩:=TO.out;have HE:=Hz (show W.bO r kd (l.map fun (k:Nat)=>(k:Int))=(0,(W.room (1+(l.length:Int))).2.put r kd (l.map fun (j:Nat)=>(W.room (1+(l.length:Int))).2.rt (j:Int))) by rw [HY.out h0,List.map_map];rfl);have HRO:=Hz (Wd.ok.room HOK.out (1+l.length) (by omega));have hrm:=HRO.out.2 h0;have hTl:(W.room (1+(l.length:Int))).2.T.length≤90000:=by rw [Wd.jX];exact hT
 have HPK:=Hz (HRO.out.1.put (r:=r) (k:=kd) (l:=l.map fun (j:Nat)=>(W.room (1+(l.length:Int))).2.rt (j:Int)) (by rw [List.length_map];exact HF.out) (fun v hv=>by
  obtain ⟨j,hj,rfl⟩:=List.mem_map.1 hv
  exact Wd.eS H2.ok (j:Int)) (by rw [List.length_map];exact hrm))
 have S2:=Hz (HS.out.ae hk2 (fun b hb e=>by
  obtain ⟨_,c,hc⟩:=HS.out.own hb;obtain ⟨_,c',T,hc',hT⟩:=HH.out.aX e;refine hc.ne hc' ?_ rfl
  rcases hT with rfl | rfl | rfl | rfl <;> decide))
 have K2:=Hz hk2;have O2:=Hz ho2;have H2:=Hz H2;rw [h0];rw [←ep];have EP:=Hz ep;clear hk2 ho2 h0 HN HY HRO TO ep hrm;generalize (W.room (1+(l.length:Int))).2=W2 at *;obtain ⟨iv,hi,hz0,hz1,hz2⟩:=bB du;have Vi:=Hz hi;have Vz0:=Hz hz0;have Vz1:=Hz hz1;have Vz2:=Hz hz2;clear hi hz0 hz1 hz2;obtain ⟨it,hi,hz0,hz1,hz2⟩:=bB mW;have Ti:=Hz hi;have Tz0:=Hz hz0;have Tz1:=Hz hz1;have Tz2:=Hz hz2;clear hi hz0 hz1 hz2;go_wp2_with fail;generalize hwb:w1.alloc (.cells #[.int .i64 kd, .slice none 0 0, .bool false, .bool false] 188)=wb;have KB:=Hz (show aa (fun _=>False) w1 wb by rw [←hwb];exact (aa.refl _ _).alloc _);have TB:=Hz (show ah wb w1.heap.size [.int .i64 kd, .slice none 0 0, .bool false, .bool false] 188 by rw [←hwb];exact ah.newAt _ rfl rfl);have HB:=Hz (H2.out.same KB.out);have SB:=Hz (S2.out.ae KB.out (fun _ _ h=>h));have OB:=Hz (fun b hb=>(H2.out.aX (k:=b) hb).1);have SO:=Hz (fun b hb=>(S2.out.own (k:=b) hb).1);have ZB:=Hz (show wb.heap.size=w1.heap.size+1 by rw [←hwb];simp);have ZK:=Hz K2.out.size;clear hwb;obtain ⟨tb,htb⟩:∃ n,w1.heap.size=n:=⟨_,rfl⟩;rw [htb] at TB OB SO ZB;rw [htb];have HTB:=Hz htb;clear htb;go_loopw [25] (fun u wr=>∃ (k:Nat) (fo:Option Addr) (fc:Nat),k≤l.length∧u=.int .i64 k∧aa (·=tb) wb wr∧ah wr tb [.int .i64 kd, .slice fo k fc, .bool false, .bool false] 188∧Sl wr 78 2 (.slice fo k fc) k (au ((l.take k).map fun (j:Nat)=>W2.rt (j:Int)))∧∀ b,ag (.slice fo k fc) b→tb+1≤b) (fun u _=>l.length-(intOf u).toNat)
 case atStart=>exact ⟨0,none,0,Nat.zero_le _,rfl,aa.refl _ _,TB.out,Sl.nil _ _ _,fun b hb=>(bJ hb).elim⟩
 case round=>
  obtain ⟨k,fo,fc,hk,rfl,hK,hB,hS,hO⟩:=hrel;have KR:=Hz hK;have BR:=Hz hB;have FS:=Hz hS;have FO:=Hz hO;have HR:=Hz (HB.out.ae hK (fun b hb e=>by have:=OB.out b hb;omega));have SR:=Hz (SB.out.ae hK (fun b hb e=>by have:=SO.out b hb;omega));have b1:=hB.cell 1;have bl:=hB.lt;have bf:=hB.free 1;simp only [Lz,Ls] at b1;clear hK hB hS hO;by_cases hlt:k<l.length
  ·obtain ⟨_,_,e',rdl,-,-⟩:=SR.out.rd;cases e';obtain ⟨gl,ol,rfl,hgl,l0⟩:=rdl.qY k hlt;have hm:=HLL.out (l.getD k 0) (by rw [Ld,Le hlt];exact List.getElem_mem _);have htk:((l.take (k+1)).map fun (j:Nat)=>W2.rt (j:Int))=((l.take k).map fun (j:Nat)=>W2.rt (j:Int)) ++ [W2.rt ((l.getD k 0:Nat):Int)]:=by
    rw [List.take_add_one,Le hlt,List.map_append,Ld,Le hlt];rfl
   generalize l.getD k 0=m at *;obtain ⟨g,o,rc,erv,hg,r0,r1⟩:=HR.out.root hm;have hrl:W2.roots.length=12:=HR.out.ok.hr;obtain ⟨-,c1,-⟩:=HR.out.cells;have pl:=HR.out.hp.lt;rw [erv,hrl] at c1;have HTK:=Hz htk;have hmi:(m:Int)<12:=by omega
   generalize W2.rt (m:Int)=v at *;obtain ⟨v1,v2⟩:=v;dsimp only at r0 r1;obtain ⟨L,hL⟩:∃ L,((l.take k).map fun (j:Nat)=>W2.rt (j:Int))=L:=⟨_,rfl⟩;rw [hL] at FS;have HT2:=Hz (show ((l.take (k+1)).map fun (j:Nat)=>W2.rt (j:Int))=L ++ [(v1,v2)] by rw [HTK.out,hL]);clear rdl htk HTK hL erv hrl;go_wp2_with fail;refine aq (.free 0 (.free 2 (.free 3 (.free 4 (.free 6 (.pure 1 (.pure 5 (.free 7 (.pure 8 (.run 9 (.run 10 (.swi [12] (.free 11 (.run 12 (.swi [] (.fin)))))))))))))))) [10,11,12] (fun w'=>w'.cell? ⟨tb,1,none⟩=some (.slice fo k fc)∧w'.cell? ⟨h2.p,1,none⟩=some (.slice (some ⟨g,o,none⟩) 12 rc)∧w'.cell? ⟨g,o+m*2,none⟩=some (.int .i64 v1)∧w'.cell? ⟨g,o+m*2+1,none⟩=some (.int .i64 v2)) (by kernel_rfl) (by kernel_rfl) ⟨b1,c1,r0,r1⟩ ?_
   iterate 9 ((first | refine ak rfl rfl fun K hK=>?_ | refine aj rfl rfl fun K hK=>?_ | refine ay rfl rfl fun K hK=>?_ | refine av rfl rfl fun K hK=>?_ | refine ax rfl rfl fun K hK=>?_);go_simp;refine hK _ ?_;clear hK K)
   refine aZ rfl rfl (fun K hK=>?_);unfold aM;go_simp;have hka:aa (fun _=>False) wr ((wr.alloc (.cells #[.int .i64 v1, .int .i64 v2] 78)).drew):=((Kz wr).alloc (.cells #[.int .i64 v1, .int .i64 v2] 78)).drew;have hcc:∀ (a:Nat) (q:Nat),a<wr.heap.size→((wr.alloc (.cells #[.int .i64 v1, .int .i64 v2] 78)).drew).cell? ⟨a,q,none⟩=wr.cell? ⟨a,q,none⟩:=fun a q ha=>World.cell?_of_block (w:=wr) (a:=⟨a,q,none⟩) (hka.block a ha (fun h=>h));refine hK _ _ (fun hg'=>⟨(hcc _ _ bl).trans b1,(hcc _ _ pl).trans c1,(hcc _ _ hg).trans r0,(hcc _ _ hg).trans r1⟩) ?_;clear hK K hcc;refine aG rfl rfl rfl (fun K hK=>?_);refine cy (.tmp 30) (.tmp 38) 69 rfl 78 iv (.agg #[.int .i64 0, .int .i64 0]) 2 16 Try.underlying69 Vi.out Vz0.out Vz1.out Vz2.out rfl (by decide) _ k (au L) rfl (FS.out.ae hka (fun _ _ h=>h)) ⟨wr.heap.size,0,none⟩ 1 1 [.int .i64 v1, .int .i64 v2] rfl rfl (bq wr 78 #[.int .i64 v1, .int .i64 v2]) (by intro u hu;simp at hu;rcases hu with rfl | rfl <;> rfl) (by unfold maxLen;omega) (by omega) ?_;intro v2' w2 hs2 hk2 ho2;refine hK _ _ ?_;clear hK K;obtain ⟨ao2,ac2,rfl,-,-,-⟩:=hs2.rd;have hno:∀ b,ag (.slice fo k fc) b→b≠tb:=fun b hb e=>by have:=FO.out b hb;omega
   have hb2:=hk2.ai (hka.ai BR.out (fun h=>h)) (fun hb=>hno _ hb rfl);have KN:aa (·=tb) wb w2:=(KR.out.trans (hka.mono (fun _ _ h=>h.elim))).then hk2 (fun j hj=>.inr (by have:=FO.out j hj;rw [ZB.out];exact this));have hoN:∀ b,ag (.slice ao2 (k+1) ac2) b→tb+1≤b:=fun b hb=>by
    rcases ho2 b hb with h1 | h1
    ·exact FO.out b h1
    ·have:=BR.out.lt;first | omega | (simp at h1;omega)
   have x1:=hb2.cell 1;have xl:=hb2.lt;have xf:=hb2.free 1;simp only [Lz,Ls] at x1;have KN2:=Hz (KN.setCell (p:=⟨tb,1,none⟩) (.inl rfl) (.slice ao2 (k+1) ac2));have BN:=Hz (show ah (w2.setCell ⟨tb,1,none⟩ (.slice ao2 (k+1) ac2)) tb [.int .i64 kd, .slice ao2 (k+1) ac2, .bool false, .bool false] 188 by simpa using hb2.aF 1 (.slice ao2 (k+1) ac2));have SN:=Hz (show Sl (w2.setCell ⟨tb,1,none⟩ (.slice ao2 (k+1) ac2)) 78 2 (.slice ao2 (k+1) ac2) (k+1) (au (L ++ [(v1,v2)])) by
    have e2:au (L ++ [(v1,v2)])=au L ++ [.int .i64 v1, .int .i64 v2]:=by simp [au]
    rw [e2]
    exact hs2.ae ((aa.refl (·=tb) w2).setCell (p:=⟨tb,1,none⟩) (.inl rfl) (.slice ao2 (k+1) ac2)) (fun b hb e=>by have:=hoN b hb;omega))
   have ON:=Hz hoN;clear hs2 hk2 ho2 hka hno hb2 KN hoN b1 c1 l0 r0 r1 bl pl bf;refine aE (fun _=>True) trivial ?_
   iterate 1 ((first | refine ak rfl rfl fun K hK=>?_ | refine aj rfl rfl fun K hK=>?_);go_simp;refine hK _ ?_;clear hK K)
   refine aG rfl rfl rfl (fun K hK=>?_);unfold aM;go_simp;refine hK _ _ ?_;clear hK K;refine aE (fun _=>True) trivial (aA ?_);clear x1 xl xf;go_wp2_with fail;go_roundw
   case rel=>exact ⟨k+1,ao2,ac2,hlt,by go_num,KN2.out,BN.out,by rw [HT2.out];exact SN.out,ON.out⟩
   case measure=>simp [intOf];omega
  ·obtain rfl:k=l.length:=by omega
   rw [List.take_length] at FS;have HLN:=Hz (show (l.map fun (j:Nat)=>W2.rt (j:Int)).length=l.length from List.length_map _);obtain ⟨g,o,rc,erv,hg,-,-⟩:=HR.out.root hr;have hrl:W2.roots.length=12:=HR.out.ok.hr;obtain ⟨no,nc,eth⟩:=HR.out.tv;obtain ⟨c0,c1,-⟩:=HR.out.cells;have pl:=HR.out.hp.lt;have hrs:=HR.out.hr;rw [erv,hrl] at c1 hrs;rw [eth] at c0;have RS:=Hz hrs;have ERV:=Hz erv;have HRL:=Hz hrl;have ETH:=Hz eth;clear erv hrl eth hrs;go_wp2_with fail;have h12:(r:Int)<12:=by omega
   have h12':¬ (12:Int)≤(r:Int):=by omega
   have h12n:¬ (12:Nat)≤r:=by omega
   refine aq (.free 0 (.free 1 (.free 2 (.free 4 (.free 5 (.free 6 (.free 7 (.pure 3 (.pure 8 (.free 9 (.free 10 (.free 11 (.run 12 (.swi [] (.fin))))))))))))))) [12] (fun w'=>w'.cell? ⟨h2.p,0,none⟩=some (.slice no W2.T.length nc)∧w'.cell? ⟨h2.p,1,none⟩=some (.slice (some ⟨g,o,none⟩) 12 rc)) (by kernel_rfl) (by kernel_rfl) ⟨c0,c1⟩ ?_
   iterate 12 ((first | refine ak rfl rfl fun K hK=>?_ | refine aj rfl rfl fun K hK=>?_ | refine ay rfl rfl fun K hK=>?_ | refine av rfl rfl fun K hK=>?_ | refine ax rfl rfl fun K hK=>?_);go_simp;refine hK _ ?_;clear hK K)
   refine aG rfl rfl rfl (fun K hK=>?_);refine aS 78 (.tmp 53) (.tmp 52) rfl rfl g o 12 rc r (au W2.roots) 78 (.int .i64 3) (.int .i64 W2.T.length) rfl rfl (RS.out.ae (Kz wr).drew (fun _ _ h=>h)) hr (by kernel_rfl) rfl rfl ?_;intro w3 hs3 hk3 hz3;refine hK _ _ ?_;clear hK K;refine aE (fun _=>True) trivial (aA ?_);have hkw:aa (·=g) wr w3:=((Kz wr).drew.mono (fun _ _ h=>h.elim)).trans hk3;have KW:=Hz hkw;obtain ⟨_,cg,hcg⟩:=RS.out.own (k:=g) rfl;have ne:∀ {b:Nat} {c:List Value} {T:TypeId},ah wr b c T→T≠78→¬ b=g:=fun hb hT e=>hb.ne hcg hT e;have HP3:=hkw.ai HR.out.hp (ne HR.out.hp (by decide));have BR3:=hkw.ai BR.out (ne BR.out (by decide));obtain ⟨cs,hsT1,hRT⟩:=H2.out.ht;have hsT:=(hsT1.ae KB.out (fun _ _ h=>h)).ae KR.out (fun b hb e=>by have:=OB.out b (.inr (.inl hb));omega);have hsT3:=hsT.ae hkw (fun b hb=>by obtain ⟨_,c,hc⟩:=hsT.own hb;exact ne hc (by decide));have hgo:ag h2.rv g:=by rw [ERV.out];rfl
   have hgt:=OB.out g (.inr (.inr (.inl hgo)));have FS3:=FS.out.ae hkw (fun b hb e=>by have:=FO.out b hb;omega);rw [ETH.out] at hsT3;have c0:=HP3.cell 0;have pl:=HP3.lt;have t0:=BR3.cell 0;have t1:=BR3.cell 1;have t2:=BR3.cell 2;have t3:=BR3.cell 3;have bl:=BR3.lt;simp only [Lz,Ls] at c0 t0 t1 t2 t3;rw [ETH.out] at c0;have RS3:=Hz hs3;have HP3:=Hz HP3;have BR3:=Hz BR3;have TS3:=Hz hsT3;have RT:=Hz hRT;have FS3:=Hz FS3;have TS:=Hz hsT;have GO:=Hz hgo;have HGT:=Hz hgt;clear hkw hcg ne hsT hsT3 hRT hs3 hk3 hz3 b1 bf c1 hg h12 h12' h12n hgo hgt;go_wp2_with fail;refine aq (.free 0 (.free 1 (.free 2 (.free 3 (.pure 4 (.pure 5 (.run 6 (.run 7 (.swi [10] (.free 8 (.free 9 (.run 10 (.swi [] (.fin)))))))))))))) [7,8,9,10] (fun w'=>w'.cell? ⟨h2.p,0,none⟩=some (.slice no W2.T.length nc)∧w'.cell? ⟨tb,0,none⟩=some (.int .i64 kd)∧w'.cell? ⟨tb,1,none⟩=some (.slice fo l.length fc)∧w'.cell? ⟨tb,2,none⟩=some (.bool false)∧w'.cell? ⟨tb,3,none⟩=some (.bool false)) (by kernel_rfl) (by kernel_rfl) ⟨c0,t0,t1,t2,t3⟩ ?_
   iterate 6 ((first | refine ak rfl rfl fun K hK=>?_ | refine aj rfl rfl fun K hK=>?_ | refine eE rfl rfl _ (fun w' hG=>by obtain ⟨c0,t0,t1,t2,t3⟩:=hG;exact gC (cs:=[_,_,_,_]) rfl (by decide +kernel) rfl (ab (by assumption) (ab (by assumption) (ab (by assumption) (ab (by assumption) aO))))) (fun K hK=>?_) | refine ay rfl rfl fun K hK=>?_ | refine av rfl rfl fun K hK=>?_ | refine ax rfl rfl fun K hK=>?_);go_simp;refine hK _ ?_;clear hK K)
   refine aZ rfl rfl (fun K hK=>?_);unfold aM;go_simp;have hka:aa (fun _=>False) w3 ((w3.alloc (.cells #[.int .i64 kd, .slice fo l.length fc, .bool false, .bool false] 188)).drew):=((Kz w3).alloc (.cells #[.int .i64 kd, .slice fo l.length fc, .bool false, .bool false] 188)).drew;refine hK _ _ (fun hg=>⟨(hka.ai HP3.out (fun h=>h)).cell 0 |>.trans (by simp [ETH.out]),(hka.ai BR3.out (fun h=>h)).cell 0,(hka.ai BR3.out (fun h=>h)).cell 1,(hka.ai BR3.out (fun h=>h)).cell 2,(hka.ai BR3.out (fun h=>h)).cell 3⟩) ?_;clear hK K;refine aG rfl rfl rfl (fun K hK=>?_);refine cy (.tmp 58) (.tmp 60) 144 rfl 188 it (.agg #[.int .i64 0, .slice none 0 0, .bool false, .bool false]) 4 40 Try.underlying144 Ti.out Tz0.out Tz1.out Tz2.out rfl (by decide) _ W2.T.length cs rfl (TS3.out.ae hka (fun _ _ h=>h)) ⟨w3.heap.size,0,none⟩ 1 1 [.int .i64 kd, .slice fo l.length fc, .bool false, .bool false] rfl rfl (bq w3 188 #[.int .i64 kd, .slice fo l.length fc, .bool false, .bool false]) (by intro u hu;simp at hu;rcases hu with rfl | rfl | rfl <;> rfl) (by unfold maxLen;omega) (by omega) ?_;intro v4 w4 hs4 hk4 ho4;refine hK _ _ ?_;clear hK K;obtain ⟨vo4,vc4,rfl,-,-,-⟩:=hs4.rd;have nTV:∀ {b:Nat} {c:List Value} {T:TypeId},ah w3 b c T→T≠188→¬ ag (.slice no W2.T.length nc) b:=fun hb hT e=>by
    obtain ⟨_,c',hc'⟩:=TS3.out.own e;exact hb.ne hc' hT rfl
   have HP4:=Hz (hk4.ai (hka.ai HP3.out (fun h=>h)) (nTV HP3.out (by decide)));have RS4:=Hz ((RS3.out.ae hka (fun _ _ h=>h)).ae hk4 (fun b hb e=>by obtain ⟨_,c,hc⟩:=RS3.out.own hb;exact nTV hc (by decide) e));have FS4:=Hz ((FS3.out.ae hka (fun _ _ h=>h)).ae hk4 (fun b hb e=>by obtain ⟨_,c,hc⟩:=FS3.out.own hb;exact nTV hc (by decide) e));have BR4:=Hz (hk4.ai (hka.ai BR3.out (fun h=>h)) (fun e=>by
    have:=OB.out tb (.inr (.inl (by rw [ETH.out];exact e)));omega))
   have TS4:=Hz hs4;have K13:=Hz (show aa (fun b=>ag h2.rv b∨ag h2.tv b∨b=h2.p) w1 w3 from ((KB.out.mono (fun _ _ h=>h.elim)).then KR.out (fun b hb=>.inr (by rw [HTB.out,hb];exact Nat.le_refl _))).then KW.out (fun b hb=>.inl (.inl (hb ▸ GO.out))));have K14:=Hz ((K13.out.then hka (fun _ h=>h.elim)).then hk4 (fun b hb=>.inl (.inr (.inl (by rw [ETH.out];exact hb)))));have O4:=Hz (show ∀ b,ag (.slice vo4 (W2.T.length+1) vc4) b→ag h2.tv b∨w1.heap.size≤b from fun b hb=>by
    rcases ho4 b hb with h1 | h1
    ·exact .inl (by rw [ETH.out];exact h1)
    ·have:=K13.out.size;exact .inr (by first | omega | (simp at h1;omega)))
   have x0:=HP4.out.cell 0;have xl:=HP4.out.lt;have xf:=HP4.out.free 0;simp only [Lz] at x0;clear hs4 hk4 ho4 hka c0 t0 t1 t2 t3 bl pl nTV;refine aE (fun _=>True) trivial ?_
   iterate 2 ((first | refine ak rfl rfl fun K hK=>?_ | refine aj rfl rfl fun K hK=>?_);go_simp;refine hK _ ?_;clear hK K)
   refine aG rfl rfl rfl (fun K hK=>?_);unfold aM;go_simp;refine hK _ _ ?_;clear hK K;refine aE (fun _=>True) trivial (aA ?_);have hset:=(aa.refl (·=h2.p) w4).setCell (p:=⟨h2.p,0,none⟩) (.inl rfl) (.slice vo4 (W2.T.length+1) vc4);have hnp:∀ {b:Nat} {c:List Value} {T:TypeId},ah w4 b c T→T≠146→¬ b=h2.p:=fun hb hT=>hb.ne HP4.out hT;have kd0:=Kz (w4.setCell ⟨h2.p,0,none⟩ (.slice vo4 (W2.T.length+1) vc4));have HP5:=Hz (show ah (w4.setCell ⟨h2.p,0,none⟩ (.slice vo4 (W2.T.length+1) vc4)) h2.p _ _ from HP4.out.aF 0 (.slice vo4 (W2.T.length+1) vc4));have RS5:=Hz (RS4.out.ae hset (fun b hb e=>by obtain ⟨_,c,hc⟩:=RS4.out.own hb;exact hnp hc (by decide) e));have FS5:=Hz (FS4.out.ae hset (fun b hb e=>by obtain ⟨_,c,hc⟩:=FS4.out.own hb;exact hnp hc (by decide) e));have TS5:=Hz (TS4.out.ae hset (fun b hb e=>by obtain ⟨_,c,hc⟩:=TS4.out.own hb;exact hnp hc (by decide) e));have BR5:=Hz (hset.ai BR4.out (fun e=>hnp BR4.out (by decide) e));have K15:=Hz (K14.out.then hset (fun b hb=>.inl (.inr (.inr hb))));clear x0 xl xf hset hnp kd0 HP4 RS4 FS4 TS4 BR4 K14 HP3 RS3 FS3 TS3 BR3 RS SR;go_wp2_with fail;generalize w4.setCell ⟨h2.p,0,none⟩ (.slice vo4 (W2.T.length+1) vc4)=w5 at *;have p4:=HP5.out.cell 4;have pl:=HP5.out.lt;have f4:=HP5.out.free 4;have t1:=BR5.out.cell 1;have bl:=BR5.out.lt;simp only [List.set_cons_zero,Lz,Ls] at p4 t1;have hy2:=HPK.out.uy;have hm2:=HPK.out.m2;rw [Wd.iR] at hy2;have hy0:0≤W2.aI:=bV _ _;have hmo:(W2.put r kd (l.map fun (j:Nat)=>W2.rt (j:Int))).most≤256:=hm2;have hyl:W2.aI≤256:=by omega
   have hwr:IntKind.i64.wrap (W2.aI+(1+(l.length:Int)))=W2.aI+(1+l.length):=IntWalk.i64_in _ (by omega);clear hy2 hm2 hmo;refine aq (.free 0 (.free 1 (.free 2 (.pure 3 (.run 4 (.free 5 (.free 6 (.free 7 (.run 8 (.swi [] (.fin))))))))))) [8] (fun w'=>w'.cell? ⟨h2.p,4,none⟩=some (.int .i64 W2.aI)) (by kernel_rfl) (by kernel_rfl) p4 ?_
   iterate 4 ((first | refine ak rfl rfl fun K hK=>?_ | refine aj rfl rfl fun K hK=>?_ | refine ay rfl rfl fun K hK=>?_ | refine av rfl rfl fun K hK=>?_ | refine ax rfl rfl fun K hK=>?_);go_simp;refine hK _ ?_;clear hK K)
   refine aZ rfl rfl (fun K hK=>?_);unfold aM;go_simp;refine (mw (g:=tb) (o:=0) (n:=l.length) (fo:=fo) (fc:=fc) (w:=w5.drew) bl t1 (by omega)).mono ?_;rintro e w6 ⟨rfl,rfl⟩;refine hK _ _ (fun h=>h) ?_;clear hK K
   iterate 3 ((first | refine ak rfl rfl fun K hK=>?_ | refine aj rfl rfl fun K hK=>?_);go_simp;refine hK _ ?_;clear hK K)
   refine aG rfl rfl rfl (fun K hK=>?_);unfold aM;go_simp;refine hK _ _ ?_;clear hK K;refine aE (fun _=>True) trivial (aA ?_);go_wp2_with fail;go_ret;refine ⟨by rw [HE.out];rfl,?_⟩;rw [HE.out];have hset:=((aa.refl (·=h2.p) w5).setCell (p:=⟨h2.p,4,none⟩) (.inl rfl) (.int .i64 (W2.aI+(1+(l.length:Int))))).drew;have hnp:∀ {b:Nat} {c:List Value} {T:TypeId},ah w5 b c T→T≠146→¬ b=h2.p:=fun hb hT=>hb.ne HP5.out hT;have hlen:=HLN.out;have hput:=H2.out.n5 (w':=(w5.setCell ⟨h2.p,4,none⟩ (.int .i64 (W2.aI+(1+(l.length:Int))))).drew) (r:=r) (kd:=kd) (l:=(l.map fun (j:Nat)=>W2.rt (j:Int))) (tv:=.slice vo4 (W2.T.length+1) vc4) (fu:=.slice fo l.length fc) (cs:=cs)
    (by rw [hlen];simpa using (HP5.out.aF 4 (.int .i64 (W2.aI+(1+(l.length:Int))))).drew) RT.out TS.out.1 (TS5.out.ae hset (fun b hb e=>by obtain ⟨_,c,hc⟩:=TS5.out.own hb;exact hnp hc (by decide) e))
    (by rw [ERV.out,HRL.out];exact RS5.out.ae hset (fun b hb e=>by obtain ⟨_,c,hc⟩:=RS5.out.own hb;exact hnp hc (by decide) e)) (by rw [hlen];exact FS5.out.ae hset (fun b hb e=>by obtain ⟨_,c,hc⟩:=FS5.out.own hb;exact hnp hc (by decide) e))
    (fun b hb=>by have:=FO.out b hb;rw [HTB.out];omega) (K15.out.then hset (fun b hb=>.inl (.inr (.inr hb)))) O4.out HPK.out
   exact aL.step EP.out K2.out O2.out hput
end
end
section
open Go.RowKit
def qZ:List Int:=[0,1,1,3,7,3,7,7,1,6,3,3,6,3,7,0,0]
theorem n9 (k:Nat) (hk:k<17) (w:World):(Instr.index 203 (.agg #[.int .i64 0, .int .i64 1, .int .i64 1, .int .i64 3, .int .i64 7, .int .i64 3, .int .i64 7, .int .i64 7, .int .i64 1, .int .i64 6, .int .i64 3, .int .i64 3, .int .i64 6, .int .i64 3, .int .i64 7, .int .i64 0, .int .i64 0]) (.int .i64 (k:Int))).run Try.prog w=.ok (.int .i64 (qZ.getD k 0)) w:=by
 match k,hk with
 | 0,_=>show _=_;kernel_rfl
 | 1,_=>show _=_;kernel_rfl
 | 2,_=>show _=_;kernel_rfl
 | 3,_=>show _=_;kernel_rfl
 | 4,_=>show _=_;kernel_rfl
 | 5,_=>show _=_;kernel_rfl
 | 6,_=>show _=_;kernel_rfl
 | 7,_=>show _=_;kernel_rfl
 | 8,_=>show _=_;kernel_rfl
 | 9,_=>show _=_;kernel_rfl
 | 10,_=>show _=_;kernel_rfl
 | 11,_=>show _=_;kernel_rfl
 | 12,_=>show _=_;kernel_rfl
 | 13,_=>show _=_;kernel_rfl
 | 14,_=>show _=_;kernel_rfl
 | 15,_=>show _=_;kernel_rfl
 | 16,_=>show _=_;kernel_rfl
 | n+17,h=>omega
theorem pt:∀ n:Nat,n<17→1≤n→aH n=qZ.getD n 0:=by decide
theorem sy (k:Int) (w:World):Calls Try.prog 130 #[.int .i64 k] w fun e w'=>e=.returned (.int .i64 (aH k))∧w=w':=by
 by_cases h1:k<1
 ·have HE:=Hz (show aH k=-1 by unfold aH;repeat' (rw [if_neg (by omega)]));have d1:decide (k<1)=true:=by simpa using h1
  clear h1;go_enter Try.func130,Try.ntmps130;go_wp2_with fail;go_ret;exact ⟨a9 HE.out.symm,rfl⟩
 by_cases h2:16<k
 ·have HE:=Hz (show aH k=-1 by unfold aH;repeat' (rw [if_neg (by omega)]));have d1:decide (k<1)=false:=by simp;omega
  have d2:decide (16<k)=true:=by simpa using h2
  clear h1 h2;go_enter Try.func130,Try.ntmps130;go_wp2_with fail;go_ret;exact ⟨a9 HE.out.symm,rfl⟩
 ·obtain ⟨n,rfl⟩:∃ n:Nat,k=n:=⟨k.toNat,by omega⟩;have d1:decide ((n:Int)<1)=false:=by simpa using h1
  have d2:decide (16<(n:Int))=false:=by simpa using h2
  have HE:=Hz (pt n (by omega) (by omega));have hix:=n9 n (by omega);clear h1 h2;go_enter Try.func130,Try.ntmps130;go_wp2_with fail;go_ret;exact ⟨a9 HE.out.symm,rfl⟩
def dL (u:Int) (j:Nat) (k:Int):Bool:=!dz u j || bT k
theorem gQ (u:Int) (hu:u=0∨u=1∨u=3∨u=6∨u=7) (j:Nat) (hj:j=0∨j=1∨j=2) (bit:Int) (hbit:bit=2 ^ j) (k:Int) (b:Nat) (w:World) (hc:w.cell? ⟨b,0,none⟩=some (.int .i64 u)) (hl:b<w.heap.size) :
  Calls Try.prog 131 #[.int .i64 k, .int .i64 bit, .pointer (some ⟨b,0,none⟩)] w fun e w'=>e=.returned (.bool (dL u j k))∧w=w':=by
 have key:∀ z:Bool,decide (k≥0)=z→True:=fun _ _=>trivial;by_cases h0:k<0
 ·have d1:decide (0≤k)=false:=by simpa using h0
  have HR:=Hz (show bT k=false by unfold bT;rw [d1];rfl);clear h0;rcases hu with rfl | rfl | rfl | rfl | rfl <;> rcases hj with rfl | rfl | rfl <;> subst hbit <;> (go_enter Try.func131,Try.ntmps131;go_wp2_with fail;go_ret;exact ⟨cG (by unfold dL;rw [HR.out];decide),rfl⟩)
 ·have d1:decide (0≤k)=true:=by simp;omega
  by_cases h1:k<12
  ·have d2:decide (k<12)=true:=by simpa using h1
   have HR:=Hz (show bT k=true by unfold bT;rw [d1,d2];rfl);clear h0 h1;rcases hu with rfl | rfl | rfl | rfl | rfl <;> rcases hj with rfl | rfl | rfl <;> subst hbit <;> (go_enter Try.func131,Try.ntmps131;go_wp2_with fail;go_ret;exact ⟨cG (by unfold dL;rw [HR.out];decide),rfl⟩)
  ·have d2:decide (k<12)=false:=by simpa using h1
   have HR:=Hz (show bT k=false by unfold bT;rw [d1,d2];rfl);clear h0 h1;rcases hu with rfl | rfl | rfl | rfl | rfl <;> rcases hj with rfl | rfl | rfl <;> subst hbit <;> (go_enter Try.func131,Try.ntmps131;go_wp2_with fail;go_ret;exact ⟨cG (by unfold dL;rw [HR.out];decide),rfl⟩)
end
section
open Go.RowKit
theorem px {x:St} (h:aH x.k≠-1) {j:Nat} (hj:j<3) (hb:dL (aH x.k) j (x.fF j)=false):aP x=1:=by
 unfold dL at hb;simp only [Bool.or_eq_false_iff,Bool.not_eq_false'] at hb;exact jz h hj hb.1 hb.2
theorem oc {x:St} (h0:dL (aH x.k) 0 x.r=true) (h1:dL (aH x.k) 1 x.a=true) (h2:dL (aH x.k) 2 x.b=true):∀ j,j<3→dz (aH x.k) j=true→bT (x.fF j)=true:=by
 intro j hj hb;have key:∀ {k:Int},dL (aH x.k) j k=true→bT k=true:=fun {k} h=>by
  unfold dL at h;rw [hb] at h;simpa using h
 rcases (by omega:j=0∨j=1∨j=2) with rfl | rfl | rfl
 ·exact key h0
 ·exact key h1
 ·exact key h2
theorem rH (x:St) (w:World):Calls Try.prog 95 #[.agg #[.int .i64 x.k, .int .i64 x.r, .int .i64 x.a, .int .i64 x.b, .int .i64 x.i, .int .i64 x.n]] w fun e w'=>e=.returned (.int .i64 (aP x))∧aa (fun _=>False) w w':=by
 have HU:=Hz (fun w=>sy x.k w);have HN:=Hz (fun h=>jy (x:=x) h);have HR:=Hz (fun (h1:aH x.k≠-1) j (h2:j<3) h3=>px (x:=x) h1 (j:=j) h2 h3);have HX:=Hz (fun (h:aH x.k≠-1) h0 h1 h2=>jA (x:=x) h (oc h0 h1 h2));have hv:=kn x.k;have B1:ah (w.alloc (.cells #[.int .i64 x.k, .int .i64 x.r, .int .i64 x.a, .int .i64 x.b, .int .i64 x.i, .int .i64 x.n] 98)) w.heap.size [.int .i64 x.k, .int .i64 x.r, .int .i64 x.a, .int .i64 x.b, .int .i64 x.i, .int .i64 x.n] 98:=ah.newAt _ rfl rfl;have ka:=(Kz w).alloc (.cells #[.int .i64 x.k, .int .i64 x.r, .int .i64 x.a, .int .i64 x.b, .int .i64 x.i, .int .i64 x.n] 98);obtain ⟨xk,xr,xa,xb,xi,xn⟩:=x;dsimp only at hv B1 ka;generalize hu:aH xk=u at hv;have hU:=Hz hu;dsimp only at HU HR HX HN;rw [hu] at HU HR HX HN;clear hu;go_enter Try.func95,Try.ntmps95;go_wp2_with fail;generalize w.alloc (.cells #[.int .i64 xk, .int .i64 xr, .int .i64 xa, .int .i64 xb, .int .i64 xi, .int .i64 xn] 98)=w1 at *;generalize w.heap.size=p at *;refine (HU.out _).mono ?_;rintro e _ ⟨rfl,rfl⟩;have p0:=B1.cell 0;have p1:=B1.cell 1;have p2:=B1.cell 2;have p3:=B1.cell 3;have p5:=B1.cell 5;have pl:=B1.lt;simp only [Lz,Ls] at p0 p1 p2 p3 p5;have HB:=Hz B1;have K1:=Hz ka;clear B1 ka HU;by_cases hneg:u=-1
 ·have HE:=Hz (HN.out hneg);subst hneg;clear hv;go_wp2_with fail;go_ret;exact ⟨a9 HE.out.symm,K1.out.alloc _⟩
 ·have hd:decide (u<0)=false:=by simp;omega
  have hu5:u=0∨u=1∨u=3∨u=6∨u=7:=by omega
  have HNN:=Hz hneg;have hR:=HR.out hneg;have hX:=HX.out hneg;have HR:=Hz hR;have HX:=Hz hX;have HU5:=Hz hu5;clear hneg hv hR hX hu5;go_upto_region 4 with (fail)
  have ka:=(Kz w1).alloc (.cells #[.int .i64 u] 3);have hub:ah (w1.alloc (.cells #[.int .i64 u] 3)) w1.heap.size [.int .i64 u] 3:=ah.newAt _ rfl rfl;have HB2:=Hz (ka.ai HB.out (fun h=>h));have K2:=Hz (K1.out.trans ka);clear p0 p1 p2 p3 p5 pl ka HB K1;generalize w1.alloc (.cells #[.int .i64 u] 3)=w2 at *;generalize w1.heap.size=q at *;have p0:=HB2.out.cell 0;have p1:=HB2.out.cell 1;have p2:=HB2.out.cell 2;have p3:=HB2.out.cell 3;have p5:=HB2.out.cell 5;have pl:=HB2.out.lt;simp only [Lz,Ls] at p0 p1 p2 p3 p5;have q0:=hub.cell 0;have ql:=hub.lt;simp only [Lz] at q0;have C0:=Hz (gQ u HU5.out 0 (by decide) 1 rfl xr q w2 q0 ql);have C1:=Hz (gQ u HU5.out 1 (by decide) 2 rfl xa q w2 q0 ql);have C2:=Hz (gQ u HU5.out 2 (by decide) 4 rfl xb q w2 q0 ql);clear hub q0 ql;obtain ⟨z0,h0⟩:∃ z,dL u 0 xr=z:=⟨_,rfl⟩;obtain ⟨z1,h1⟩:∃ z,dL u 1 xa=z:=⟨_,rfl⟩;obtain ⟨z2,h2⟩:∃ z,dL u 2 xb=z:=⟨_,rfl⟩;rw [h0] at C0;rw [h1] at C1;rw [h2] at C2;have H0:=Hz h0;have H1:=Hz h1;have H2:=Hz h2;clear h0 h1 h2;go_wp2_with fail;refine C0.out.mono ?_;rintro e _ ⟨rfl,rfl⟩;cases z0
  ·have HE:=Hz (HR.out 0 (by decide) H0.out);go_wp2_with fail;go_ret;exact ⟨a9 HE.out.symm,K2.out⟩
  go_wp2_with fail;refine C1.out.mono ?_;rintro e _ ⟨rfl,rfl⟩;cases z1
  ·have HE:=Hz (HR.out 1 (by decide) H1.out);go_wp2_with fail;go_ret;exact ⟨a9 HE.out.symm,K2.out⟩
  go_wp2_with fail;refine C2.out.mono ?_;rintro e _ ⟨rfl,rfl⟩;cases z2
  ·have HE:=Hz (HR.out 2 (by decide) H2.out);go_wp2_with fail;go_ret;exact ⟨a9 HE.out.symm,K2.out⟩
  have HX2:=Hz (HX.out H0.out H1.out H2.out);clear HX HR C0 C1 C2;by_cases k1:xk=1
  ·subst k1;by_cases n2:xn < -1152921504606846976
   ·have HE:=Hz (show aP ⟨1,xr,xa,xb,xi,xn⟩=1 by rw [HX2.out,if_pos ⟨rfl,fun h=>by unfold cL at h;omega⟩]);have d2:decide (xn < -1152921504606846976)=true:=by simpa using n2
    clear n2 HX2;go_wp2_with fail;go_ret;exact ⟨a9 HE.out.symm,K2.out⟩
   have d2:decide (xn < -1152921504606846976)=false:=by simpa using n2
   by_cases n1:1152921504606846976≤xn
   ·have HE:=Hz (show aP ⟨1,xr,xa,xb,xi,xn⟩=1 by rw [HX2.out,if_pos ⟨rfl,fun h=>by unfold cL at h;omega⟩]);have d1:decide (1152921504606846976≤xn)=true:=by simpa using n1
    clear n1 n2 HX2;go_wp2_with fail;go_ret;exact ⟨a9 HE.out.symm,K2.out⟩
   ·have HE:=Hz (show aP ⟨1,xr,xa,xb,xi,xn⟩=0 by rw [HX2.out,if_neg (fun h=>h.2 (by unfold cL;omega)),if_neg (fun h=>by omega)]);have d1:decide (1152921504606846976≤xn)=false:=by simpa using n1
    clear n1 n2 HX2;go_wp2_with fail;go_ret;exact ⟨a9 HE.out.symm,K2.out⟩
  ·have e1:(xk == 1)=false:=by simpa using k1
   by_cases k5:xk=5
   ·subst k5;by_cases n1:xn<0
    ·have HE:=Hz (show aP ⟨5,xr,xa,xb,xi,xn⟩=1 by rw [HX2.out,if_neg (fun h=>by omega),if_pos ⟨rfl,fun h=>by omega⟩]);have d1:decide (xn<0)=true:=by simpa using n1
     clear n1 HX2 k1;go_wp2_with fail;go_ret;exact ⟨a9 HE.out.symm,K2.out⟩
    have d1:decide (xn<0)=false:=by simpa using n1
    by_cases n2:12<xn
    ·have HE:=Hz (show aP ⟨5,xr,xa,xb,xi,xn⟩=1 by rw [HX2.out,if_neg (fun h=>by omega),if_pos ⟨rfl,fun h=>by omega⟩]);have d2:decide (12<xn)=true:=by simpa using n2
     clear n1 n2 HX2 k1;go_wp2_with fail;go_ret;exact ⟨a9 HE.out.symm,K2.out⟩
    ·have HE:=Hz (show aP ⟨5,xr,xa,xb,xi,xn⟩=0 by rw [HX2.out,if_neg (fun h=>by omega),if_neg (fun h=>h.2 (by omega))]);have d2:decide (12<xn)=false:=by simpa using n2
     clear n1 n2 HX2 k1;go_wp2_with fail;go_ret;exact ⟨a9 HE.out.symm,K2.out⟩
   ·have e5:(xk == 5)=false:=by simpa using k5
    have HE:=Hz (show aP ⟨xk,xr,xa,xb,xi,xn⟩=0 by rw [HX2.out,if_neg (fun h=>k1 h.1),if_neg (fun h=>k5 h.1)]);clear k1 k5 HX2;go_wp2_with fail;go_ret;exact ⟨a9 HE.out.symm,K2.out⟩
end
section
section
variable {W:Wd}
def Wd.all (W:Wd):List Int:=W.idx false ++ W.idx true
theorem Wd.di {i:Int}:i ∈ W.all↔W.live i:=by
 unfold Wd.all;rw [List.mem_append,Wd.nh,Wd.nh];constructor
 ·rintro (h | h) <;> exact h.1
 ·intro h;cases ho:(W.th i).aR
  ·exact .inl ⟨h,rfl⟩
  ·exact .inr ⟨h,rfl⟩
theorem Wd.nu (h:W.ok) {i:Int} (hi:W.live i) {v:Vl} (hv:v ∈ (W.gr i).2) (h3:v.1=3):W.live v.2:=by
 unfold Wd.gr at hv;dsimp only at hv;rcases List.mem_append.1 hv with h1 | h1
 ·exact Wd.bg (h.tv i hi v h1) h3
 ·split at h1
  ·obtain ⟨x,hx,rfl⟩:=List.mem_map.1 h1;unfold bN at hx;obtain ⟨e,he,rfl⟩:=List.mem_map.1 hx;exact (h.wv e (List.mem_filter.1 he).1).2.2
  ·cases h1
theorem Wd.q3 (h:W.ok):oX W.gr W.all:=⟨fun i hi v hv h3=>Wd.di.2 (Wd.nu h (Wd.di.1 hi) hv h3)⟩
theorem Wd.kL (h:W.ok):W.all.length≤1300:=by
 have key:∀ b,((W.idx b).length:Int)≤((W.idx b).map fun i=>(W.th i).words).sum:=fun b=>by
  generalize W.idx b=l
  induction l with
  | nil=>simp
  | cons a l ih=>
   have hw:(W.th a).words=1+((W.th a).fs.length:Int):=rfl;simp only [List.length_cons,List.map_cons,List.sum_cons];omega
 have h1:=key false;have h2:=key true;rw [Wd.rB] at h1 h2;have e1:(cf W.T fun t=>!t.dead && (t.aR == false))=W.aI:=by unfold Wd.aI;congr 1;funext t;cases t.aR <;> rfl
 have e2:(cf W.T fun t=>!t.dead && (t.aR == true))=W.aY:=by unfold Wd.aY;congr 1;funext t;cases t.aR <;> rfl
 rw [e1] at h1;rw [e2] at h2;have:=h.uy;have:=h.uo;have:=h.m2;have:=h.g2;unfold Wd.all;rw [List.length_append];omega
def Wd.met (W:Wd):List Int:=gy W.gr W.roots
structure Seen (W:Wd):Prop where
 eq:W.view=(W.roots.map (dE W.met),W.met.map fun x=>kJ W.met (W.gr x))
 nd:W.met.Nodup
 rt:∀ v ∈ W.roots,v.1=3→v.2 ∈ W.met
 fd:∀ x ∈ W.met, ∀ v ∈ (W.gr x).2,v.1=3→v.2 ∈ W.met
 led:∀ (k:Nat) (x:Int),W.met[k]? = some x→((3,x):Vl) ∈ W.roots∨∃ (j:Nat) (y:Int),j<k∧W.met[j]? = some y∧((3,x):Vl) ∈ (W.gr y).2
 lv:∀ x ∈ W.met,W.live x
theorem Wd.seen (h0:W.ok):Seen W:=by
 have h:=h0;have hr:∀ v ∈ W.roots,v.1=3→v.2 ∈ W.all:=fun v hv h3=>Wd.di.2 (Wd.bg (h.rv v hv) h3);obtain ⟨h1,h2,h3,h4,h5⟩:=nU (Wd.q3 h) (by have:=Wd.kL h;unfold deep;omega) hr;refine ⟨h1,h2,h3,h4,h5,?_⟩;have key:∀ (k:Nat) (x:Int),W.met[k]? = some x→W.live x:=by
  intro k
  induction k using Nat.strongRecOn with
  | _ k ih=>
   intro x hx;rcases h5 k x hx with h | ⟨j,y,hj,hy,hm⟩
   ·exact Wd.bg (h0.rv _ h) rfl
   ·exact Wd.nu h0 (ih j hj y hy) hm rfl
 intro x hx;obtain ⟨k,hk,rfl⟩:=List.mem_iff_getElem.1 hx;exact key k _ (Le hk)
theorem Seen.lens (S:Seen W) (h:W.ok):W.view.1.length=12∧W.view.2.length≤1300∧∀ n ∈ W.view.2,n.2.length≤100:=by
 rw [S.eq];refine ⟨by simpa using h.hr,?_,fun n hn=>?_⟩
 ·dsimp only;rw [List.length_map];have hsub:∀ x ∈ W.met,x ∈ W.all:=fun x hx=>Wd.di.2 (S.lv x hx);have h1:=nj (f:=fun _=>1) (fun _=>by decide) S.nd hsub;have e:∀ l:List Int,(l.map fun _=>(1:Int)).sum=l.length:=fun l=>by
   induction l with
   | nil=>rfl
   | cons a l ih=>simp only [List.map_cons,List.sum_cons,ih,List.length_cons];omega
  rw [e,e] at h1;have:=Wd.kL h;omega
 ·obtain ⟨x,hx,rfl⟩:=List.mem_map.1 hn;have hl:=S.lv x hx;have h1:=(bs (h.tk x hl)).2.2.2;have h2:=h.hq;have h3:(bN W.wait x).length≤W.wait.length:=by unfold bN;rw [List.length_map];exact List.length_filter_le _ _
  unfold kJ Wd.gr;simp only [List.length_map,List.length_append];split
  ·rw [List.length_map];omega
  ·simp;omega
end
end
section
open Go.RowKit
theorem rI {m k:Nat} {x y:Value} (hx:x=.int .i64 ((k+1:Nat):Int)) (hy:y=.int .i64 (k:Int)) (h:k<m):m-(intOf x).toNat<m-(intOf y).toNat:=by
 subst hx;subst hy;simp [intOf];omega
section
variable {w0 w w':World} {p:Nat} {h:WH} {O O':Wo}
end
end
section
structure Gs where
 lv:List Bool
 st:List Int
 ep:List Int
def kr (s:Gs) (x:Int):Bool:=!decide (x%4=1) || az s.lv (x/4)
def ks (s:Gs) (x:Int):Gs:=if kr s x=true then s else ⟨s.lv.set (x/4).toNat true,s.st ++ [x/4],s.ep⟩
def py (s:Gs) (l:List Int):Gs:=l.foldl ks s
def sT (A:Ar) (s:Gs) (i:Int):Gs:=
 if (A.aw i).1=1∨(A.aw i).1=2 then py s (A.fields i)
 else if (A.aw i).1=3 then ks s (A.load (i+2))
 else if (A.aw i).1=4 then { s with ep:=s.ep ++ [i] }
 else s
def tt (A:Ar) (s:Gs):Gs:=sT A { s with st:=s.st.dropLast } (s.st.getLastD 0)
def jPops (A:Ar):Nat→Gs→Gs
 | 0,s=>s
 | n+1,s=>if s.st=[] then s else jPops A n (tt A s)
def sU (A:Ar) (s:Gs) (i:Int):Gs:=if kr s (A.load (i+1))=true then ks s (A.load (i+2)) else s
def tu (A:Ar) (s:Gs) (l:List Int):Gs:=l.foldl (sU A) s
def tF (s:Gs) (x:Int):Gs × Int:=(ks s x,x)
def mB (A:Ar) (q:List (Int × Int)) (s:Gs):Gs:=(wakeM kr tF (tu A (jPops A 2000 s) (jPops A 2000 s).ep) q).1
def mC (A:Ar) (q:List (Int × Int)):Nat→Gs→Gs
 | 0,s=>s
 | n+1,s=>if (mB A q s).st=[] then mB A q s else mC A q n (mB A q s)
def sV (A:Ar) (s:Gs) (q:List (Int × Int)) (x:Int):Gs × List (Int × Int) × Int:=(mC A q 2000 (ks s x),q,x)
def tw (O:Wo):Gs:=mC O.ar O.wt 2000 (py ⟨List.replicate O.ar.ws.length false,[],[]⟩ O.rt)
def q4 (O:Wo):Gs × List (Int × Int) × List It:=ev kr (sV O.ar) (tw O) O.rg O.wt
def jPlan (A:Ar) (lv:List Bool) (base:Int):List Int→List Int × Int→List Int × Int
 | [],t=>t
 | i :: l,t=>jPlan A lv base l (if az lv i=true then (t.1.set i.toNat (base+t.2),t.2+(1+(A.aw i).2.1)) else t)
def sA (O:Wo):List Int:=O.ar.lV.2 ++ O.ar.lV.1
def kM (O:Wo):List Int:=(sA O).filter fun i=>az (q4 O).1.lv i
def q5 (O:Wo):List Int × Int:=jPlan O.ar (q4 O).1.lv O.ar.nur (sA O) (List.replicate O.ar.ws.length 0,0)
def fE (l:List Bool):Nat:=(l.filter fun b=>!b).length
def jM (s:Gs):Nat:=s.st.length+fE s.lv
section
variable {O:Wo} {W:Wd} {φ:Int→Int} {s s':Gs} {S S' Al Ex:Int→Prop} {qw:List (Int × Int)}
structure MX (s:Gs) (S:Int→Prop) (s':Gs) (S':Int→Prop):Prop where
 sub:∀ k,S k→S' k
 ep:∀ p ∈ s.ep,p ∈ s'.ep
 m:jM s'=jM s
 f:fE s'.lv≤fE s.lv
end
end
section
def ta (sz f:Int→Int):List Int→Int→Int→Prop
 | [],a,b=>a=b
 | p :: l,a,b=>f p=a∧ta sz f l (a+sz p) b
def sW (f:List Int) (p:Int):Int:=f.getD p.toNat 0
def wd (A:Ar) (i:Int):Int:=A.ws.getD i.toNat 0
def sB (sz:Int→Int) (n:Int):List Int→Int→Prop
 | [],_=>True
 | p :: l,a=>0≤a∧0≤p∧p+sz p≤n∧a+sz p≤n∧(∀ q ∈ l,a+sz p≤q∨q+sz q≤a)∧sB sz n l (a+sz p)
end
section
section
variable {O:Wo} {W:Wd} {φ:Int→Int}
structure Pl (O:Wo) (W:Wd) (φ:Int→Int) (is:List Bool) (N:List Int):Prop where
 eq:N.map φ=kM O
 nd:N.Nodup
 nm:∀ i,i ∈ N↔az is i=true
 sit:ta (fun p=>1+(O.ar.aw p).2.1) (sW (q5 O).1) (kM O) O.ar.nur (O.ar.nur+(q5 O).2)
 sum:(q5 O).2=eR is W.T
 slid:(q5 O).2≤(O.ar.ws.length:Int)-O.ar.nur→sB (fun p=>1+(O.ar.aw p).2.1) O.ar.ws.length (kM O) O.ar.nur
end
end
section
open Go.RowKit
structure HH where
 p:Nat
 a:WH
def HH.Own (h:HH) (k:Nat):Prop:=k=h.p∨h.a.Own k
structure sC (w:World) (h:HH) (O:Wo):Prop where
 hp:ah w h.p [.pointer (some ⟨h.a.p,0,none⟩)] 185
 H:bP w h.a O
section
variable {w w':World} {h:HH} {O O':Wo}
def rJ (w:World) (n o:Int) (e:Ending) (w':World):Prop:=
 ∃ h:HH,e=.returned (.tuple #[.pointer (some ⟨h.p,0,none⟩), .agg #[.int .i64 0, .int .i64 0]])∧sC w' h (Wo.new n o)∧aa (fun _=>False) w w'∧∀ k,h.Own k→w.heap.size≤k
theorem qk (n o:Int) (w:World) (h:Ar.fits n o=true) :
  Calls Try.prog 94 #[.int .i64 n, .int .i64 o] w fun e w'=>rJ w n o e w':=by
 go_enter Try.func94,Try.ntmps94;go_wp2_with fail;refine (pY n o _ h).mono ?_;rintro e w1 ⟨h,rfl,H1,k1,o1⟩;have hb1:ah w1 w.heap.size [.int .i64 0, .int .i64 0] 26:=k1.ai (ah.newAt _ rfl rfl) (fun h=>h);have ka0:=(Kz w).alloc (.cells #[.int .i64 0, .int .i64 0] 26);have HK:=Hz (ka0.trans k1);have HA:=Hz H1;have HB:=Hz hb1;have HO:Hid (∀ k,h.Own k→w.heap.size+1≤k):=fun k hk=>by have:=o1 k hk;simpa using this
 clear H1 k1 o1 hb1 ka0;generalize hb0:w.heap.size=b0 at HB HO ⊢;have HSB:=Hz (Nat.le_of_eq hb0);have HB0:=Hz hb0.symm;clear hb0;go_upto_region 2 with (fail)
 have kb:=(Kz w1).alloc (.cells #[.int .i64 0, .int .i64 0] 26);have d0:(w1.alloc (.cells #[.int .i64 0, .int .i64 0] 26)).cell? ⟨w1.heap.size,0,none⟩=some (.int .i64 0):=(ah.new w1 [.int .i64 0, .int .i64 0] 26).cell 0;have dl:w1.heap.size<(w1.alloc (.cells #[.int .i64 0, .int .i64 0] 26)).heap.size:=by simp
 have HK2:=Hz (HK.out.trans kb);have HA2:=Hz (HA.out.ae kb (fun _ _ h=>h));have HB2:=Hz (kb.ai HB.out (fun h=>h));clear kb HK HA HB;generalize w1.alloc (.cells #[.int .i64 0, .int .i64 0] 26)=w2 at *;have f0:=HB2.out.free 0;have f1:=HB2.out.free 1;have c0:=HB2.out.cell 0;have c1:=HB2.out.cell 1;have cl:=HB2.out.lt;simp only [Lz,Ls] at c0 c1;go_wp2_with fail;have set:=((aa.refl (·=b0) w2).setCell (p:=⟨b0,0,none⟩) (.inl rfl) (.int .i64 0)).setCell (p:=⟨b0,1,none⟩) (.inl rfl) (.int .i64 0);have ka:=(Kz ((w2.setCell ⟨b0,0,none⟩ (.int .i64 0)).setCell ⟨b0,1,none⟩ (.int .i64 0))).alloc (.cells #[.pointer (some ⟨h.p,0,none⟩)] 185);have hbN:=((HB2.out.aF 0 (.int .i64 0)).aF 1 (.int .i64 0)).alloc (.cells #[.pointer (some ⟨h.p,0,none⟩)] 185);have x0':=hbN.cell 0;have x1':=hbN.cell 1;simp only [List.set_cons_zero,List.set_cons_succ,Lz,Ls] at x0' x1';refine bodyPost_ret (v:=.tuple #[.pointer (some ⟨w2.heap.size,0,none⟩), .agg #[.int .i64 0, .int .i64 0]]) (by simp [results,Try.results94,go_sem,x0',x1']) rfl ?_;refine ⟨⟨w2.heap.size,h⟩,rfl,⟨ah.newAt _ (by simp) rfl,(HA2.out.ae set (fun b hb e=>by have:=HO.out b hb;omega)).ae ka (fun _ _ h=>h)⟩,?_,fun k hk=>?_⟩
 ·refine (HK2.out.then set (fun k hk=>.inr ?_)).trans ka;rw [hk];exact HSB.out
 ·rcases hk with rfl | hk
  ·exact HK2.out.size
  ·have:=HO.out k hk;have:=HSB.out;have:=HB0.out;omega
theorem rK (n o:Int) (w:World) (h:Ar.fits n o=false) :
  Calls Try.prog 94 #[.int .i64 n, .int .i64 o] w fun e w'=>e=.returned (.tuple #[.pointer none, .agg #[.int .i64 1, .int .i64 (-1)]])∧aa (fun _=>False) w w':=by
 go_enter Try.func94,Try.ntmps94;go_wp2_with fail;refine (ru n o _ h).mono ?_;rintro e w1 ⟨rfl,hk⟩;have ka0:=(Kz w).alloc (.cells #[.int .i64 0, .int .i64 0] 26);have hb1:ah w1 w.heap.size [.int .i64 0, .int .i64 0] 26:=hk.ai (ah.newAt _ rfl rfl) (fun h=>h);have HK:=Hz (ka0.trans hk);have HB:=Hz hb1;clear hk hb1 ka0;generalize hb0:w.heap.size=b0 at HB ⊢;have HSB:=Hz (Nat.le_of_eq hb0);clear hb0;go_upto_region 2 with (fail)
 have kb:=(Kz w1).alloc (.cells #[.int .i64 1, .int .i64 (-1)] 26);have hn:=ah.new w1 [.int .i64 1, .int .i64 (-1)] 26;have d0:(w1.alloc (.cells #[.int .i64 1, .int .i64 (-1)] 26)).cell? ⟨w1.heap.size,0,none⟩=some (.int .i64 1):=hn.cell 0;have d1:(w1.alloc (.cells #[.int .i64 1, .int .i64 (-1)] 26)).cell? ⟨w1.heap.size,1,none⟩=some (.int .i64 (-1)):=hn.cell 1;have dl:w1.heap.size<(w1.alloc (.cells #[.int .i64 1, .int .i64 (-1)] 26)).heap.size:=by simp
 have HK2:=Hz (HK.out.trans kb);have HB2:=Hz (kb.ai HB.out (fun h=>h));clear kb HK HB hn;generalize w1.alloc (.cells #[.int .i64 1, .int .i64 (-1)] 26)=w2 at *;have f0:=HB2.out.free 0;have f1:=HB2.out.free 1;have c0:=HB2.out.cell 0;have c1:=HB2.out.cell 1;have cl:=HB2.out.lt;simp only [Lz,Ls] at c0 c1;go_wp2_with fail;refine aq (.free 1 (.pure 0 (.run 2 (.swi [] (.fin))))) [2] (fun w'=>w'.cell? ⟨w1.heap.size,0,none⟩=some (.int .i64 1)∧w'.cell? ⟨w1.heap.size,1,none⟩=some (.int .i64 (-1))) (by kernel_rfl) (by kernel_rfl) ⟨d0,d1⟩ ?_
 iterate 2 ((first | refine ak rfl rfl fun K hK=>?_ | refine aj rfl rfl fun K hK=>?_ | refine ay rfl rfl fun K hK=>?_ | refine av rfl rfl fun K hK=>?_ | refine ax rfl rfl fun K hK=>?_);go_simp;refine hK _ ?_;clear hK K)
 refine aG rfl rfl rfl (fun K hK=>?_);unfold aM;go_simp;refine hK _ _ ?_;clear hK K;refine aE (fun _=>True) trivial (aA ?_);go_wp2_with fail;have hbN:=(HB2.out.aF 0 (.int .i64 1)).aF 1 (.int .i64 (-1));have x0':=hbN.cell 0;have x1':=hbN.cell 1;simp only [List.set_cons_zero,List.set_cons_succ,Lz,Ls] at x0' x1';refine bodyPost_ret (v:=.tuple #[.pointer none, .agg #[.int .i64 1, .int .i64 (-1)]]) (by simp [results,Try.results94,go_sem,c0,c1,x0',x1']) rfl ⟨rfl,?_⟩;exact (HK2.out.drew.setCell (p:=⟨b0,0,none⟩) (.inr HSB.out) _).setCell (p:=⟨b0,1,none⟩) (.inr HSB.out) _
end
end
section
open Go.RowKit
def qm (w:World) (n o:Int) (e:Ending) (w':World):Prop:=
 ∃ h:bZ,e=.returned (.tuple #[.pointer (some ⟨h.p,0,none⟩), .agg #[.int .i64 0, .int .i64 0]])∧aJ w' h (Wd.new n o)∧aa (fun _=>False) w w'∧∀ k,h.Own k→w.heap.size≤k
theorem mD (n o:Int) (w:World) (h:Ar.fits n o=true) :
  Calls Try.prog 57 #[.int .i64 n, .int .i64 o] w fun e w'=>qm w n o e w':=by
 obtain ⟨i,hi,hz0,hz1,hz2⟩:=bB du;obtain ⟨A,hA⟩:∃ A:Array Value,A=(au (List.replicate 12 (0,0))).toArray:=⟨_,rfl⟩;have hmk:∀ w,(Instr.makeSlice 69 (.int .i64 12) (.int .i64 12)).run Try.prog w=.ok (.slice (some ⟨w.heap.size,0,none⟩) 12 12) (w.alloc (.cells A 78)):=fun w=>by
  have:=run_make (P:=Try.prog) w 69 78 i _ Try.underlying69 hi hz0 .i64 .i64 12 12 (by decide) (by decide) (by rw [hz2];decide) (by decide);rw [this,hz1,hA,←po]
  rfl
 have HAA:=Hz hA;clear hA;have hno:16≤n∧n≤256∧0≤o∧o≤1024:=by simp [Ar.fits] at h;omega
 have HOK:=Hz (Wd.fW hno.1 hno.2.1 hno.2.2.1 hno.2.2.2);clear hi hz0 hz1 hz2 hno;go_enter Try.func57,Try.ntmps57;go_wp2_with fail;refine (qk n o _ h).mono ?_;rintro e w1 ⟨hh,rfl,-,k1,-⟩;have hb1:ah w1 w.heap.size [.int .i64 0, .int .i64 0] 26:=k1.ai (ah.newAt _ rfl rfl) (fun h=>h);have ka0:=(Kz w).alloc (.cells #[.int .i64 0, .int .i64 0] 26);have HK:=Hz (ka0.trans k1);have HB:=Hz hb1;clear k1 hb1 ka0;generalize hb0:w.heap.size=b0 at HB ⊢;have HSB:=Hz (Nat.le_of_eq hb0);have HB0:=Hz hb0.symm;clear hb0;go_upto_region 2 with (fail)
 have kb:=(Kz w1).alloc (.cells #[.int .i64 0, .int .i64 0] 26);have d0:(w1.alloc (.cells #[.int .i64 0, .int .i64 0] 26)).cell? ⟨w1.heap.size,0,none⟩=some (.int .i64 0):=(ah.new w1 [.int .i64 0, .int .i64 0] 26).cell 0;have dl:w1.heap.size<(w1.alloc (.cells #[.int .i64 0, .int .i64 0] 26)).heap.size:=by simp
 have HK2:=Hz (HK.out.trans kb);have HB2:=Hz (kb.ai HB.out (fun h=>h));clear kb HK HB;generalize w1.alloc (.cells #[.int .i64 0, .int .i64 0] 26)=w2 at *;have f0:=HB2.out.free 0;have f1:=HB2.out.free 1;have c0:=HB2.out.cell 0;have c1:=HB2.out.cell 1;have cl:=HB2.out.lt;simp only [Lz,Ls] at c0 c1;go_wp2_with fail;have kset:=((aa.refl (·=b0) w2).setCell (p:=⟨b0,0,none⟩) (.inl rfl) (.int .i64 0)).setCell (p:=⟨b0,1,none⟩) (.inl rfl) (.int .i64 0);have hbN:=(HB2.out.aF 0 (.int .i64 0)).aF 1 (.int .i64 0);have hs3:((w2.setCell ⟨b0,0,none⟩ (.int .i64 0)).setCell ⟨b0,1,none⟩ (.int .i64 0)).heap.size=w2.heap.size:=by simp
 generalize (w2.setCell ⟨b0,0,none⟩ (.int .i64 0)).setCell ⟨b0,1,none⟩ (.int .i64 0)=w3 at *;generalize hw4:w3.alloc (.cells A 78)=w4 at *;have k4:aa (fun _=>False) w3 w4:=by rw [←hw4];exact (aa.refl _ _).alloc _
 have b4:ah w4 w2.heap.size (au (List.replicate 12 (0,0))) 78:=by rw [←hw4];exact ah.newAt _ hs3.symm (by rw [HAA.out])
 have hs4:w4.heap.size=w2.heap.size+1:=by rw [←hw4];simp [hs3]
 have hb4:=(k4.ai hbN (fun h=>h)).alloc (.cells #[.slice none 0 0, .slice (some ⟨w2.heap.size,0,none⟩) 12 12, .slice none 0 0, .slice none 0 0, .int .i64 0, .int .i64 0, .int .i64 n, .int .i64 o] 146);have x0':=hb4.cell 0;have x1':=hb4.cell 1;simp only [List.set_cons_zero,List.set_cons_succ,Lz,Ls] at x0' x1';refine bodyPost_ret (v:=.tuple #[.pointer (some ⟨w2.heap.size+1,0,none⟩), .agg #[.int .i64 0, .int .i64 0]]) (by simp [results,Try.results57,go_sem,x0',x1']) rfl ?_;have nl:∀ {b:Nat},ag (.slice none 0 0) b→False:=fun hb=>by simp [ag,Value.ownBlock] at hb
 have hsz:w.heap.size≤w2.heap.size:=HK2.out.size;refine ⟨⟨w2.heap.size+1, .slice none 0 0, .slice (some ⟨w2.heap.size,0,none⟩) 12 12, .slice none 0 0, .slice none 0 0,fun _=>.slice none 0 0⟩,rfl,⟨ah.newAt _ (by rw [hs4]) rfl,⟨[],Sl.nil _ _ _,fun i hi=>absurd hi (by simp [Wd.new])⟩,?_,Sl.nil _ _ _,Sl.nil _ _ _,fun k hk=>nl hk.1,fun i k hk=>(nl hk).elim,fun i j k hk=>(nl hk).elim,fun i k hk=>(nl hk).elim,HOK.out⟩,?_,?_⟩
 ·exact ⟨rfl, .inr ⟨w2.heap.size,0,12,au (List.replicate 12 (0,0)),rfl,b4.alloc _,Nat.le_refl _,by decide,by decide,rfl⟩⟩
 ·exact ((HK2.out.then kset (fun k hk=>.inr (by rw [hk];exact HSB.out))).trans k4).alloc _
 ·intro k hk;rcases hk with rfl | hk | hk | hk | hk | ⟨_,hk⟩
  ·exact Nat.le_succ_of_le hsz
  ·exact (nl hk).elim
  ·simp [ag,Value.ownBlock] at hk;omega
  ·exact (nl hk).elim
  ·exact (nl hk).elim
  ·exact (nl hk).elim
theorem rL (n o:Int) (w:World) (h:Ar.fits n o=false) :
  Calls Try.prog 57 #[.int .i64 n, .int .i64 o] w fun e w'=>e=.returned (.tuple #[.pointer none, .agg #[.int .i64 1, .int .i64 (-1)]])∧aa (fun _=>False) w w':=by
 go_enter Try.func57,Try.ntmps57;go_wp2_with fail;refine (rK n o _ h).mono ?_;rintro e w1 ⟨rfl,hk⟩;have ka0:=(Kz w).alloc (.cells #[.int .i64 0, .int .i64 0] 26);have hb1:ah w1 w.heap.size [.int .i64 0, .int .i64 0] 26:=hk.ai (ah.newAt _ rfl rfl) (fun h=>h);have HK:=Hz (ka0.trans hk);have HB:=Hz hb1;clear hk hb1 ka0;generalize hb0:w.heap.size=b0 at HB ⊢;have HSB:=Hz (Nat.le_of_eq hb0);clear hb0;go_upto_region 2 with (fail)
 have kb:=(Kz w1).alloc (.cells #[.int .i64 1, .int .i64 (-1)] 26);have hn:=ah.new w1 [.int .i64 1, .int .i64 (-1)] 26;have d0:(w1.alloc (.cells #[.int .i64 1, .int .i64 (-1)] 26)).cell? ⟨w1.heap.size,0,none⟩=some (.int .i64 1):=hn.cell 0;have d1:(w1.alloc (.cells #[.int .i64 1, .int .i64 (-1)] 26)).cell? ⟨w1.heap.size,1,none⟩=some (.int .i64 (-1)):=hn.cell 1;have dl:w1.heap.size<(w1.alloc (.cells #[.int .i64 1, .int .i64 (-1)] 26)).heap.size:=by simp
 have HK2:=Hz (HK.out.trans kb);have HB2:=Hz (kb.ai HB.out (fun h=>h));clear kb HK HB hn;generalize w1.alloc (.cells #[.int .i64 1, .int .i64 (-1)] 26)=w2 at *;have f0:=HB2.out.free 0;have f1:=HB2.out.free 1;have c0:=HB2.out.cell 0;have c1:=HB2.out.cell 1;have cl:=HB2.out.lt;simp only [Lz,Ls] at c0 c1;go_wp2_with fail;refine aq (.free 1 (.pure 0 (.run 2 (.swi [] (.fin))))) [2] (fun w'=>w'.cell? ⟨w1.heap.size,0,none⟩=some (.int .i64 1)∧w'.cell? ⟨w1.heap.size,1,none⟩=some (.int .i64 (-1))) (by kernel_rfl) (by kernel_rfl) ⟨d0,d1⟩ ?_
 iterate 2 ((first | refine ak rfl rfl fun K hK=>?_ | refine aj rfl rfl fun K hK=>?_ | refine ay rfl rfl fun K hK=>?_ | refine av rfl rfl fun K hK=>?_ | refine ax rfl rfl fun K hK=>?_);go_simp;refine hK _ ?_;clear hK K)
 refine aG rfl rfl rfl (fun K hK=>?_);unfold aM;go_simp;refine hK _ _ ?_;clear hK K;refine aE (fun _=>True) trivial (aA ?_);go_wp2_with fail;have hbN:=(HB2.out.aF 0 (.int .i64 1)).aF 1 (.int .i64 (-1));have x0':=hbN.cell 0;have x1':=hbN.cell 1;simp only [List.set_cons_zero,List.set_cons_succ,Lz,Ls] at x0' x1';refine bodyPost_ret (v:=.tuple #[.pointer none, .agg #[.int .i64 1, .int .i64 (-1)]]) (by simp [results,Try.results57,go_sem,c0,c1,x0',x1']) rfl ⟨rfl,?_⟩;exact (HK2.out.drew.setCell (p:=⟨b0,0,none⟩) (.inr HSB.out) _).setCell (p:=⟨b0,1,none⟩) (.inr HSB.out) _
theorem rM {w:World} {h:bZ} {W:Wd} (H:aJ w h W) :
  Calls Try.prog 61 #[.pointer (some ⟨h.p,0,none⟩)] w fun e w'=>e=.returned (.tuple #[.int .i64 W.aI, .int .i64 W.aY])∧aa (fun _=>False) w w':=by
 have HC:=Hz H.cells;have hl:=H.hp.lt;clear H;obtain ⟨-,-,-,-,c4,c5,-,-⟩:=HC.out;generalize h.p=p at *;go_enter Try.func61,Try.ntmps61;go_wp2_with fail;refine aq (.free 0 (.free 1 (.free 2 (.free 4 (.free 5 (.free 6 (.pure 3 (.free 8 (.pure 7 (.free 9 (.fin))))))))))) [] (fun w'=>w'.cell? ⟨p,4,none⟩=some (.int .i64 W.aI)∧w'.cell? ⟨p,5,none⟩=some (.int .i64 W.aY)) (by kernel_rfl) (by kernel_rfl) ⟨c4,c5⟩ ?_
 iterate 10 ((first | refine ak rfl rfl fun K hK=>?_ | refine aj rfl rfl fun K hK=>?_ | refine ay rfl rfl fun K hK=>?_ | refine av rfl rfl fun K hK=>?_ | refine ax rfl rfl fun K hK=>?_);go_simp;refine hK _ ?_;clear hK K)
 refine aA ?_;go_wp2_with fail;exact bodyPost_ret (v:=.tuple #[.int .i64 W.aI, .int .i64 W.aY]) (by simp [results,Try.results61,go_sem]) rfl ⟨rfl,(aa.refl _ _).drew⟩
end
section
open Go.RowKit
def pz (h:bZ) (W:Wd) (k:Int):Value:=
 if W.aw k<0 then .pointer none else match h.tv with
  | .slice (some a) _ _=>.pointer (some ⟨a.block,a.off+(W.aw k).toNat*4,none⟩)
  | _=>.pointer none
section
variable {w w':World} {h:bZ} {W:Wd}
theorem fm {k:Int} (hn:W.aw k<0):pz h W k=.pointer none:=by unfold pz;rw [if_pos hn]
theorem fq {k:Int} {g o nc:Nat} (hn:¬ W.aw k<0) (e:h.tv=.slice (some ⟨g,o,none⟩) W.T.length nc):pz h W k=.pointer (some ⟨g,o+(W.aw k).toNat*4,none⟩):=by unfold pz;rw [if_neg hn,e]
theorem aJ.cU (H:aJ w h W) {k:Nat} (hk:k<12):∃ g o rc,h.rv=.slice (some ⟨g,o,none⟩) 12 rc∧g<w.heap.size∧w.cell? ⟨h.p,1,none⟩=some (.slice (some ⟨g,o,none⟩) 12 rc)∧w.cell? ⟨g,o+k*2,none⟩=some (.int .i64 (W.rt k).1)∧w.cell? ⟨g,o+k*2+1,none⟩=some (.int .i64 (W.rt k).2) ∧
  Sl w 78 2 (.slice (some ⟨g,o,none⟩) 12 rc) 12 (au W.roots):=by
 obtain ⟨g,o,rc,e,hg,h0,h1⟩:=H.root hk;have hc:=H.cells.2.1;have hr:=H.hr;rw [H.ok.hr] at e hr;rw [e] at hc hr;exact ⟨g,o,rc,e,hg,hc,h0,h1,hr⟩
theorem ku (k:Nat) (hk:k<12) (H:aJ w h W) :
  Calls Try.prog 135 #[.pointer (some ⟨h.p,0,none⟩), .int .i64 k] w fun e w'=>e=.returned (pz h W k)∧aa (fun _=>False) w w':=by
 obtain ⟨g,o,rc,erv,hg,q1,r0,r1,-⟩:=H.cU hk;obtain ⟨p0,-⟩:=H.cells;have pl:=H.hp.lt;have hki:(k:Int)<12:=by omega
 by_cases h3:(W.rt k).1=3
 ·have hth:W.aw k=(W.rt k).2:=by unfold Wd.aw;rw [if_pos h3]
  have hlv:W.live (W.rt k).2:=Wd.bg (Wd.eS H.ok k) h3;obtain ⟨gt,ot,nc,etl,-,hgt,-⟩:=H.nth (i:=(W.rt k).2.toNat) (by have:=hlv.1;have:=hlv.2.1;omega);have HE:=Hz (fq (h:=h) (k:=k) (by have:=hlv.1;omega) etl);rw [etl] at p0;rw [hth] at HE;rw [h3] at r0;have h0:=hlv.1;have h1:=hlv.2.1;clear H hth hlv erv h3 etl;generalize (W.rt k).2=x at *;obtain ⟨x,rfl⟩:=Int.eq_ofNat_of_zero_le h0;rw [Int.toNat_natCast] at HE;go_enter Try.func135,Try.ntmps135;go_wp2_with fail;refine aq (.free 0 (.free 1 (.free 2 (.free 4 (.free 5 (.free 6 (.free 8 (.pure 3 (.pure 7 (.free 9 (.free 10 (.pure 11 (.free 12 (.free 13 (.fin))))))))))))))) [] (fun w'=>w'.cell? ⟨h.p,0,none⟩=some (.slice (some ⟨gt,ot,none⟩) W.T.length nc)∧w'.cell? ⟨h.p,1,none⟩=some (.slice (some ⟨g,o,none⟩) 12 rc)∧w'.cell? ⟨g,o+k*2+1,none⟩=some (.int .i64 x)) (by kernel_rfl) (by kernel_rfl) ⟨p0,q1,r1⟩ ?_
  iterate 14 ((first | refine ak rfl rfl fun K hK=>?_ | refine aj rfl rfl fun K hK=>?_ | refine ay rfl rfl fun K hK=>?_ | refine av rfl rfl fun K hK=>?_ | refine ax rfl rfl fun K hK=>?_);go_simp;refine hK _ ?_;clear hK K)
  refine aA ?_;go_wp2_with fail;go_ret;exact ⟨by rw [HE.out];rfl,(aa.refl _ _).drew⟩
 ·have HE:=Hz (fm (h:=h) (W:=W) (k:=k) (by unfold Wd.aw;rw [if_neg h3];omega));have e3:((W.rt k).1 != 3)=true:=by simpa using h3
  clear H erv h3 r1;generalize (W.rt k).1=x at *;go_enter Try.func135,Try.ntmps135;go_wp2_with fail;go_ret;exact ⟨by rw [HE.out];rfl,aa.refl _ _⟩
def qn (h:bZ) (W:Wd) (a:Nat) (i c:Int) (e:Ending):Prop:=
 ∃ p:Option Addr,e=.returned (.tuple #[.pointer p, .int .i64 c])∧(c=0→∃ gf of fc,h.fv (W.aw a).toNat=.slice (some ⟨gf,of,none⟩) (W.th (W.aw a)).fs.length fc∧p=some ⟨gf,of+i.toNat*2,none⟩)
theorem aJ.rowAt (H:aJ w h W) {i:Int} (hi:W.live i):∃ g o nc fo fc,h.tv=.slice (some ⟨g,o,none⟩) W.T.length nc∧g<w.heap.size∧w.cell? ⟨g,o+i.toNat*4,none⟩=some (.int .i64 (W.th i).k) ∧
  w.cell? ⟨g,o+i.toNat*4+1,none⟩=some (.slice fo (W.th i).fs.length fc)∧h.fv i.toNat=.slice fo (W.th i).fs.length fc∧Sl w 78 2 (.slice fo (W.th i).fs.length fc) (W.th i).fs.length (au (W.th i).fs):=by
 obtain ⟨g,o,nc,e,-,hg,-,hr⟩:=H.nth (i:=i.toNat) (by have:=hi.1;have:=hi.2.1;omega);have e2:W.T.getD i.toNat Th.none=W.th i:=rfl;rw [e2] at hr;have hs:=hr.s hi.2.2;obtain ⟨fo,fc,ef,-,-,-⟩:=hs.rd;have hf:=hr.f hi.2.2;rw [ef] at hf hs;exact ⟨g,o,nc,fo,fc,e,hg,hr.k hi.2.2,hf,ef,hs⟩
theorem mE (a:Nat) (i:Int) (x:St) (hxa:x.a=a) (hxi:x.i=i) (ha:a<12) (H:aJ w h W) :
  Calls Try.prog 99 #[.pointer (some ⟨h.p,0,none⟩), .int .i64 a, .int .i64 i] w fun e w'=>qn h W a i (W.aV x) e∧aa (fun _=>False) w w':=by
 have HO:=Hz (ku a ha H);have HC:=Hz (show W.aV x=if W.aw a<0∨(W.th (W.aw a)).k=5 then 2 else if i<0∨((W.th (W.aw a)).fs.length:Int)≤i then 1 else 0 by unfold Wd.aV;rw [hxa,hxi]);clear hxa hxi;by_cases hn:W.aw a<0
 ·rw [fm hn] at HO;have HE:=Hz (show W.aV x=2 by rw [HC.out,if_pos (.inl hn)]);clear H hn;go_enter Try.func99,Try.ntmps99;go_wp2_with fail;refine HO.out.mono ?_;rintro e w1 ⟨rfl,hk⟩;have K1:=Hz hk;clear hk;go_wp2_with fail;go_ret2;rw [HE.out];exact ⟨⟨none,rfl,fun h=>by cases h⟩,K1.out⟩
 have hlv:=Wd.bI H.ok hn;obtain ⟨g,o,nc,fo,fc,etl,hg,t0,t1,ef,hs⟩:=H.rowAt hlv;rw [fq hn etl] at HO;have HF:=Hz ef;have HS:=Hz hs;have hfl:=(bs (H.ok.tk _ hlv)).2.2.2;have KK:=Hz (fun (w1:World) (k:aa (fun _=>False) w w1)=>(show w1.cell? ⟨g,o+(W.aw a).toNat*4,none⟩=some (.int .i64 (W.th (W.aw a)).k)∧w1.cell? ⟨g,o+(W.aw a).toNat*4+1,none⟩=some (.slice fo (W.th (W.aw a)).fs.length fc)∧g<w1.heap.size from by
  have hb:=k.block g hg (fun h=>h);refine ⟨?_,?_,Nat.lt_of_lt_of_le hg k.size⟩
  ·rw [←t0];simp only [World.cell?,hb]
  ·rw [←t1];simp only [World.cell?,hb]))
 clear t0 t1 hg etl ef hs hlv H;by_cases h5:(W.th (W.aw a)).k=5
 ·have HE:=Hz (show W.aV x=2 by rw [HC.out,if_pos (.inr h5)]);rw [h5] at KK;clear h5 HC;go_enter Try.func99,Try.ntmps99;go_wp2_with fail;refine HO.out.mono ?_;rintro e w1 ⟨rfl,hk⟩;have K1:=Hz hk;obtain ⟨t0,t1,hg⟩:=KK.out _ hk;clear hk;go_wp2_with fail;go_ret2;rw [HE.out];exact ⟨⟨none,rfl,fun h=>by cases h⟩,K1.out⟩
 have e5:((W.th (W.aw a)).k == 5)=false:=by simpa using h5
 have HD:=Hz (show W.aV x=if i<0∨((W.th (W.aw a)).fs.length:Int)≤i then 1 else 0 by rw [HC.out,if_neg (by rintro (h1 | h1);exact hn h1;exact h5 h1)]);clear h5 hn HC;generalize (W.th (W.aw a)).k=kd at *;obtain ⟨n,hnn⟩:∃ n,(W.th (W.aw a)).fs.length=n:=⟨_,rfl⟩;have HN:=Hz hnn;rw [hnn] at KK HD HF hfl;clear hnn;by_cases hi:i<0
 ·have HE:=Hz (show W.aV x=1 by rw [HD.out,if_pos (.inl hi)]);clear HD;go_enter Try.func99,Try.ntmps99;go_wp2_with fail;refine HO.out.mono ?_;rintro e w1 ⟨rfl,hk⟩;have K1:=Hz hk;obtain ⟨t0,t1,hg⟩:=KK.out _ hk;clear hk;go_wp2_with fail;go_ret2;rw [HE.out];exact ⟨⟨none,rfl,fun h=>by cases h⟩,K1.out⟩
 by_cases hi2:(n:Int)≤i
 ·have HE:=Hz (show W.aV x=1 by rw [HD.out,if_pos (.inr hi2)]);clear HD;go_enter Try.func99,Try.ntmps99;go_wp2_with fail;refine HO.out.mono ?_;rintro e w1 ⟨rfl,hk⟩;have K1:=Hz hk;obtain ⟨t0,t1,hg⟩:=KK.out _ hk;clear hk;go_wp2_with fail;go_ret2;rw [HE.out];exact ⟨⟨none,rfl,fun h=>by cases h⟩,K1.out⟩
 have HE:=Hz (show W.aV x=0 by rw [HD.out,if_neg (by rintro (h1 | h1);exact hi h1;exact hi2 h1)]);obtain ⟨i,rfl⟩:=Int.eq_ofNat_of_zero_le (show 0≤i by omega);have hi3:(i:Int)<n:=by omega
 clear hi hi2 HD;obtain ⟨gf,of,rfl⟩:∃ gf of,fo=some ⟨gf,of,none⟩:=by
  have hs:=HS.out;rw [HN.out] at hs;obtain ⟨g',o',_,_,e',-⟩:=hs.laid (by omega);cases e';exact ⟨_,_,rfl⟩
 go_enter Try.func99,Try.ntmps99;go_wp2_with fail;refine HO.out.mono ?_;rintro e w1 ⟨rfl,hk⟩;have K1:=Hz hk;obtain ⟨t0,t1,hg⟩:=KK.out _ hk;clear hk;go_wp2_with fail;go_ret2;rw [HE.out];exact ⟨⟨_,rfl,fun _=>⟨gf,of,fc,by rw [HN.out];exact HF.out,rfl⟩⟩,K1.out⟩
end
end
section
section
variable {O:Wo} {W:Wd} {φ:Int→Int}
theorem jY (W:Wd) (r:Int) (v:Vl):(W.bj r v).T.length=W.T.length:=rfl
theorem qp (W:Wd) (i:Int) (fs:List Vl):(W.bU i fs).T.length=W.T.length:=by simp [Wd.bU]
end
end
section
section
variable {O:Wo} {W:Wd} {φ:Int→Int}
theorem Wd.rN (W:Wd) (major:Bool):(W.cut major).2.T.length=W.T.length:=by
 unfold Wd.cut;split
 ·rfl
 ·split
  ·rfl
  ·exact Wd.gF
end
end
section
open Go.RowKit
theorem gL:∀ (l:List (Int × Int)) (g:Int),popW l g=if findG g l<l.length then some ((l.getD (findG g l) (0,0)).2,l.eraseIdx (findG g l)) else none
 | [],g=>rfl
 | e :: l,g=>by
  unfold popW findG;by_cases h:e.1=g
  ·simp [h]
  ·rw [if_neg h,if_neg h,gL l g];by_cases h2:findG g l<l.length
   ·rw [if_pos h2,if_pos (by simp;omega)];simp
   ·rw [if_neg h2,if_neg (by simp;omega)];rfl
section
variable {w w':World} {h:HH} {O O':Wo} {W:Wd} {φ:Int→Int}
end
end
section
open Go.RowKit
def bW (w:World) (h:bZ) (r:Int × Wd):Ending→World→Prop:=fun e w'=>e=.returned (.int .i64 r.1)∧aL w h w' r.2
section
variable {w w':World} {h:bZ} {W:Wd}
theorem aJ.pA (H:aJ w h W) {rg wt:List (Int × Int)} (T:kB (h.gx W) w h.p h.gv h.wv w' rg wt) (hok:({ W with regs:=rg,wait:=wt }:Wd).ok):aL w h w' { W with regs:=rg,wait:=wt }:=by
 obtain ⟨rv',wv',S,K,o⟩:=T;have ne:∀ {b:Nat} {c:List Value} {T:TypeId},ah w b c T→T≠146→T≠170→¬ aU h.p h.gv h.wv b:=fun hb h1 h2=>H.side.j3 hb h1 h2;have aR:∀ b,aU h.p h.gv h.wv b→h.Own b:=fun b hb=>by
  rcases hb with rfl | hb | hb
  ·exact .inl rfl
  ·exact .inr (.inr (.inr (.inl hb)))
  ·exact .inr (.inr (.inr (.inr (.inl hb))))
 refine ⟨⟨h.p,h.tv,h.rv,rv',wv',h.fv⟩,⟨S.hp,H.ht.ae K (fun b hb=>?_) (fun i b hb=>?_),H.hr.ae K (fun b hb=>?_),S.hr,S.hw,S.ap,fun i b hb=>?_,H.fi,H.fl,hok⟩,rfl,K.mono (fun b _ hb=>aR b hb),fun b hb=>?_⟩
 ·obtain ⟨cs,hs,_⟩:=H.ht;obtain ⟨_,c,hc⟩:=hs.own hb;exact ne hc (by decide) (by decide)
 ·obtain ⟨_,⟨c,hc⟩,_⟩:=H.af i b hb;exact ne hc (by decide) (by decide)
 ·obtain ⟨_,c,hc⟩:=H.hr.own hb;exact ne hc (by decide) (by decide)
 ·obtain ⟨h1,⟨c,hc⟩,h3⟩:=H.af i b hb;exact ⟨Nat.lt_of_lt_of_le h1 K.size,⟨c,K.ai hc (ne hc (by decide) (by decide))⟩,h3⟩
 ·rcases hb with hb | hb | hb | hb | hb | hb
  ·exact .inl (.inl hb)
  ·exact .inl (.inr (.inl hb))
  ·exact .inl (.inr (.inr (.inl hb)))
  ·exact (o b (.inr (.inl hb))).imp (aR b) id
  ·exact (o b (.inr (.inr hb))).imp (aR b) id
  ·exact .inl (.inr (.inr (.inr (.inr (.inr hb)))))
theorem Wd.dT {k:Int}:W.guard k<0↔W.aw k<0∨(W.th (W.aw k)).k≠5:=by
 unfold Wd.guard;split
 ·rename_i h;exact ⟨fun _=>h,fun _=>by omega⟩
 ·rename_i h;constructor
  ·intro h2;exact absurd (.inl h2) h
  ·intro h2;exact absurd h2 h
theorem Wd.lq {k:Int} (h:¬ W.guard k<0):W.guard k=W.aw k∧¬ W.aw k<0∧(W.th (W.aw k)).k=5:=by
 have h2:¬ (W.aw k<0∨(W.th (W.aw k)).k≠5):=fun e=>h (Wd.dT.2 e);refine ⟨by unfold Wd.guard;rw [if_neg h2],fun e=>h2 (.inl e),Classical.byContradiction fun e=>h2 (.inr e)⟩
theorem Wd.jZ {k:Int} (h:¬ W.aw k<0):(W.rt k).2=W.aw k∧(W.rt k).1=3:=by
 unfold Wd.aw at h ⊢;by_cases e:(W.rt k).1=3
 ·rw [if_pos e];exact ⟨rfl,e⟩
 ·rw [if_neg e] at h;exact absurd (by omega) h
theorem sD (a b:Nat) (xr xi xn:Int) (H:aJ w h W) (ha:a<12) (hb:b<12) :
  Calls Try.prog 98 #[.pointer (some ⟨h.p,0,none⟩), .agg #[.int .i64 9, .int .i64 xr, .int .i64 a, .int .i64 b, .int .i64 xi, .int .i64 xn]] w (bW w h (W.fC ⟨9,xr,a,b,xi,xn⟩)):=by
 unfold bW;have HRG:=Hz (show W.fC ⟨9,xr,a,b,xi,xn⟩=if W.aw a<0∨W.guard b<0 then (2,W) else if 24≤W.regs.length+W.wait.length then (3,W) else (0, { W with regs:=W.regs ++ [(W.guard b,W.aw a)] }) from rfl);have HB0:=Hz H;have hb1:ah (w.alloc (.cells #[.int .i64 9, .int .i64 xr, .int .i64 a, .int .i64 b, .int .i64 xi, .int .i64 xn] 98)) w.heap.size [.int .i64 9, .int .i64 xr, .int .i64 a, .int .i64 b, .int .i64 xi, .int .i64 xn] 98:=ah.newAt _ rfl rfl;have ka:=(Kz w).alloc (.cells #[.int .i64 9, .int .i64 xr, .int .i64 a, .int .i64 b, .int .i64 xi, .int .i64 xn] 98);have HB1:=Hz (H.same ka);have K1:=Hz ka;have SB1:=Hz hb1;have SOW:=Hz (show ¬ h.Own w.heap.size from fun e=>by have:=H.cR e;omega);clear hb1 ka H;go_enter Try.func98,Try.ntmps98;go_upto_region 1 with fail
 generalize w.alloc (.cells #[.int .i64 9, .int .i64 xr, .int .i64 a, .int .i64 b, .int .i64 xi, .int .i64 xn] 98)=w1 at *;generalize w.heap.size=sb at *;have s0:=SB1.out.cell 0;have s1:=SB1.out.cell 1;have s2:=SB1.out.cell 2;have s3:=SB1.out.cell 3;have s4:=SB1.out.cell 4;have s5:=SB1.out.cell 5;have sl:=SB1.out.lt;simp only [Lz,Ls] at s0 s1 s2 s3 s4 s5;have HOB:=Hz (fun w' (H:aJ w' h W)=>ku b hb H);have HOA:=Hz (fun w' (H:aJ w' h W)=>ku a ha H);by_cases hta:W.aw a<0
 ·rw [fm hta] at HOA;have HE:=Hz (show W.fC ⟨9,xr,a,b,xi,xn⟩=(2,W) by rw [HRG.out,if_pos (.inl hta)]);clear hta;go_wp2_with fail;refine (HOB.out _ HB1.out).mono ?_;rintro e w2 ⟨rfl,hk⟩;have HB2:=Hz (HB1.out.same hk);have K2:=Hz (K1.out.trans hk);have SB2:=Hz (hk.ai SB1.out (fun h=>h));clear hk s0 s1 s2 s3 s4 s5 sl;have s0:=SB2.out.cell 0;have s2:=SB2.out.cell 2;have s3:=SB2.out.cell 3;have sl:=SB2.out.lt;simp only [Lz,Ls] at s0 s2 s3;go_wp2_with fail;refine (HOA.out _ HB2.out).mono ?_;rintro e w3 ⟨rfl,hk⟩;have HB3:=Hz (HB2.out.same hk);have K3:=Hz (K2.out.trans hk);have SB3:=Hz (hk.ai SB2.out (fun h=>h));clear hk s0 s2 s3 sl;have s0:=SB3.out.cell 0;have s2:=SB3.out.cell 2;have s3:=SB3.out.cell 3;have sl:=SB3.out.lt;simp only [Lz,Ls] at s0 s2 s3;go_wp2_with fail;go_ret;rw [HE.out];exact ⟨rfl,aL.same HB0.out K3.out⟩
 have hla:=Wd.bI HB0.out.ok hta;obtain ⟨ga,oa,nca,-,-,etl,-⟩:=HB0.out.rowAt hla;rw [fq hta etl] at HOA;by_cases htb:W.aw b<0
 ·rw [fm htb] at HOB;have HE:=Hz (show W.fC ⟨9,xr,a,b,xi,xn⟩=(2,W) by rw [HRG.out,if_pos (.inr (Wd.dT.2 (.inl htb)))]);clear htb hta hla etl;go_wp2_with fail;refine (HOB.out _ HB1.out).mono ?_;rintro e w2 ⟨rfl,hk⟩;have HB2:=Hz (HB1.out.same hk);have K2:=Hz (K1.out.trans hk);have SB2:=Hz (hk.ai SB1.out (fun h=>h));clear hk s0 s1 s2 s3 s4 s5 sl;have s0:=SB2.out.cell 0;have s2:=SB2.out.cell 2;have s3:=SB2.out.cell 3;have sl:=SB2.out.lt;simp only [Lz,Ls] at s0 s2 s3;go_wp2_with fail;refine (HOA.out _ HB2.out).mono ?_;rintro e w3 ⟨rfl,hk⟩;have HB3:=Hz (HB2.out.same hk);have K3:=Hz (K2.out.trans hk);have SB3:=Hz (hk.ai SB2.out (fun h=>h));clear hk s0 s2 s3 sl;have s0:=SB3.out.cell 0;have s2:=SB3.out.cell 2;have s3:=SB3.out.cell 3;have sl:=SB3.out.lt;simp only [Lz,Ls] at s0 s2 s3;go_wp2_with fail;go_ret;rw [HE.out];exact ⟨rfl,aL.same HB0.out K3.out⟩
 have hlb:=Wd.bI HB0.out.ok htb;have HLB:=Hz hlb;rw [fq htb etl] at HOB;have ETL:=Hz etl;have HTA:=Hz (Wd.jZ hta);have HTB:=Hz (Wd.jZ htb);by_cases h5:(W.th (W.aw b)).k=5
 case neg=>
  have HE:=Hz (show W.fC ⟨9,xr,a,b,xi,xn⟩=(2,W) by rw [HRG.out,if_pos (.inr (Wd.dT.2 (.inr h5)))]);have e5:((W.th (W.aw b)).k != 5)=true:=by simpa using h5
  clear htb hta hla hlb etl h5;go_wp2_with fail;refine (HOB.out _ HB1.out).mono ?_;rintro e w2 ⟨rfl,hk⟩;have HB2:=Hz (HB1.out.same hk);have K2:=Hz (K1.out.trans hk);have SB2:=Hz (hk.ai SB1.out (fun h=>h));clear hk s0 s1 s2 s3 s4 s5 sl;have s0:=SB2.out.cell 0;have s2:=SB2.out.cell 2;have s3:=SB2.out.cell 3;have sl:=SB2.out.lt;simp only [Lz,Ls] at s0 s2 s3;go_wp2_with fail;refine (HOA.out _ HB2.out).mono ?_;rintro e w3 ⟨rfl,hk⟩;have HB3:=Hz (HB2.out.same hk);have K3:=Hz (K2.out.trans hk);have SB3:=Hz (hk.ai SB2.out (fun h=>h));clear hk s0 s2 s3 sl;have s0:=SB3.out.cell 0;have s2:=SB3.out.cell 2;have s3:=SB3.out.cell 3;have sl:=SB3.out.lt;simp only [Lz,Ls] at s0 s2 s3;obtain ⟨gb,ob,ncb,-,-,e',hg,t0,-⟩:=HB3.out.rowAt HLB.out;rw [ETL.out] at e';cases e';go_wp2_with fail;go_ret;rw [HE.out];exact ⟨rfl,aL.same HB0.out K3.out⟩
 have HG:=Hz (show W.fC ⟨9,xr,a,b,xi,xn⟩=if 24≤W.regs.length+W.wait.length then (3,W) else (0, { W with regs:=W.regs ++ [(W.aw b,W.aw a)] }) by
  have hg:¬ W.guard b<0:=fun e=>by rcases Wd.dT.1 e with h | h;exact htb h;exact h h5
  rw [HRG.out,if_neg (by rintro (h | h);exact hta h;exact hg h),(Wd.lq hg).1])
 have OKE:=Hz (show W.dx (W.aw b,W.aw a) from ⟨hlb,h5,hla⟩);have T0:=Hz (show ∀ w',aJ w' h W→w'.cell? ⟨ga,oa+(W.aw b).toNat*4,none⟩=some (.int .i64 5)∧ga<w'.heap.size from fun w' H'=>by
  obtain ⟨gb,ob,ncb,-,-,e',hg,t0,-⟩:=H'.rowAt HLB.out;rw [ETL.out] at e';cases e';rw [h5] at t0
  exact ⟨t0,hg⟩)
 clear htb hta hla hlb etl h5 HRG;go_wp2_with fail;refine (HOB.out _ HB1.out).mono ?_;rintro e w2 ⟨rfl,hk⟩;have HB2:=Hz (HB1.out.same hk);have K2:=Hz (K1.out.trans hk);have SB2:=Hz (hk.ai SB1.out (fun h=>h));clear hk s0 s1 s2 s3 s4 s5 sl;have s0:=SB2.out.cell 0;have s2:=SB2.out.cell 2;have s3:=SB2.out.cell 3;have sl:=SB2.out.lt;simp only [Lz,Ls] at s0 s2 s3;go_wp2_with fail;refine (HOA.out _ HB2.out).mono ?_;rintro e w3 ⟨rfl,hk⟩;have HB3:=Hz (HB2.out.same hk);have K3:=Hz (K2.out.trans hk);have SB3:=Hz (hk.ai SB2.out (fun h=>h));clear hk s0 s2 s3 sl;have s0:=SB3.out.cell 0;have s2:=SB3.out.cell 2;have s3:=SB3.out.cell 3;have sl:=SB3.out.lt;simp only [Lz,Ls] at s0 s2 s3;obtain ⟨t0,hg⟩:=T0.out _ HB3.out;obtain ⟨gr,orr,rc,-,hgr,q1,-,ra1,-⟩:=HB3.out.cU ha;obtain ⟨gr',or',rc',-,-,q1',-,rb1,-⟩:=HB3.out.cU hb;rw [q1] at q1';cases q1';rw [HTA.out.1] at ra1;rw [HTB.out.1] at rb1;have hai:(a:Int)<12:=by omega
 have hbi:(b:Int)<12:=by omega
 have h24l:=HB3.out.ok.hq;have hsd:=HB3.out.side;have hpl:=HB3.out.hp.lt;generalize W.aw a=va at *;generalize W.aw b=vb at *;by_cases h24:24≤W.regs.length+W.wait.length
 ·have HE:=Hz (show W.fC ⟨9,xr,a,b,xi,xn⟩=(3,W) by rw [HG.out,if_pos h24]);have hreg:=oG h.p h.gv h.wv W.regs W.wait vb va (w3.drew) (hsd.ae (Kz w3).drew (fun _ _ h=>h)) (by omega) (by omega) h24;have HREG:=Hz hreg;clear hreg hsd h24 h24l;go_wp2_with fail;refine aq (.free 0 (.free 1 (.free 2 (.free 3 (.free 4 (.free 5 (.free 7 (.free 11 (.free 12 (.free 13 (.free 15 (.pure 6 (.free 8 (.free 9 (.pure 10 (.pure 14 (.pure 16 (.free 17 (.free 18 (.pure 19 (.free 20 (.run 21 (.swi [] (.free 22 (.fin))))))))))))))))))))))))) [21,22] (fun w'=>w'.cell? ⟨h.p,1,none⟩=some (.slice (some ⟨gr,orr,none⟩) 12 rc)∧w'.cell? ⟨gr,orr+b*2+1,none⟩=some (.int .i64 vb)∧w'.cell? ⟨sb,2,none⟩=some (.int .i64 a)∧w'.cell? ⟨gr,orr+a*2+1,none⟩=some (.int .i64 va)) (by kernel_rfl) (by kernel_rfl) ⟨q1,rb1,s2,ra1⟩ ?_
  iterate 21 ((first | refine ak rfl rfl fun K hK=>?_ | refine aj rfl rfl fun K hK=>?_ | refine ay rfl rfl fun K hK=>?_ | refine av rfl rfl fun K hK=>?_ | refine ax rfl rfl fun K hK=>?_);go_simp;refine hK _ ?_;clear hK K)
  refine aG rfl rfl rfl (fun K hK=>?_);unfold aM;go_simp;refine HREG.out.mono ?_;rintro e5 w5 ⟨rfl,hk⟩;refine hK _ _ ?_;clear hK K;refine aE (fun _=>True) trivial ?_
  iterate 1 ((first | refine ak rfl rfl fun K hK=>?_ | refine aj rfl rfl fun K hK=>?_);go_simp;refine hK _ ?_;clear hK K)
  refine aA ?_;have K4:=Hz (K3.out.trans ((Kz w3).drew.trans hk));clear hk q1 ra1 rb1 s0 s2 s3 sl t0 hg hgr hpl;go_wp2_with fail;go_ret;rw [HE.out];exact ⟨rfl,aL.same HB0.out K4.out⟩
 ·have HE:=Hz (show W.fC ⟨9,xr,a,b,xi,xn⟩=(0, { W with regs:=W.regs ++ [(vb,va)] }) by rw [HG.out,if_neg h24]);have HOK:=Hz (show ({ W with regs:=W.regs ++ [(vb,va)] }:Wd).ok from by
   have o:=HB3.out.ok;exact ⟨o.hr,o.rv,o.tk,o.tv,fun e he=>by
    rcases List.mem_append.1 he with h1 | h1
    ·exact o.gv e h1
    ·rw [List.mem_singleton.1 h1];exact OKE.out,o.wv,by simp;omega,o.m1,o.m2,o.g1,o.g2,o.uy,o.uo⟩)
  have hreg:=oH h.p h.gv h.wv W.regs W.wait vb va (w3.drew) (hsd.ae (Kz w3).drew (fun _ _ h=>h)) (by omega) (by omega) h24;have HREG:=Hz hreg;clear hreg hsd h24 h24l;go_wp2_with fail;refine aq (.free 0 (.free 1 (.free 2 (.free 3 (.free 4 (.free 5 (.free 7 (.free 11 (.free 12 (.free 13 (.free 15 (.pure 6 (.free 8 (.free 9 (.pure 10 (.pure 14 (.pure 16 (.free 17 (.free 18 (.pure 19 (.free 20 (.run 21 (.swi [] (.free 22 (.fin))))))))))))))))))))))))) [21,22] (fun w'=>w'.cell? ⟨h.p,1,none⟩=some (.slice (some ⟨gr,orr,none⟩) 12 rc)∧w'.cell? ⟨gr,orr+b*2+1,none⟩=some (.int .i64 vb)∧w'.cell? ⟨sb,2,none⟩=some (.int .i64 a)∧w'.cell? ⟨gr,orr+a*2+1,none⟩=some (.int .i64 va)) (by kernel_rfl) (by kernel_rfl) ⟨q1,rb1,s2,ra1⟩ ?_
  iterate 21 ((first | refine ak rfl rfl fun K hK=>?_ | refine aj rfl rfl fun K hK=>?_ | refine ay rfl rfl fun K hK=>?_ | refine av rfl rfl fun K hK=>?_ | refine ax rfl rfl fun K hK=>?_);go_simp;refine hK _ ?_;clear hK K)
  refine aG rfl rfl rfl (fun K hK=>?_);unfold aM;go_simp;refine HREG.out.mono ?_;rintro e5 w5 ⟨rfl,hs5⟩;refine hK _ _ ?_;clear hK K;refine aE (fun _=>True) trivial ?_
  iterate 1 ((first | refine ak rfl rfl fun K hK=>?_ | refine aj rfl rfl fun K hK=>?_);go_simp;refine hK _ ?_;clear hK K)
  refine aA ?_;have TO:=Hz (aL.aN K3.out.drew ((HB3.out.same (Kz w3).drew).pA hs5 HOK.out));clear hs5 q1 ra1 rb1 s0 s2 s3 sl t0 hg hgr hpl;go_wp2_with fail;go_ret;rw [HE.out];exact ⟨rfl,TO.out⟩
end
end
section
open Go.RowKit
section
variable {w w':World} {h:bZ} {W:Wd}
theorem aJ.cV (H:aJ w h W) {g o rc:Nat} (hrv:h.rv=.slice (some ⟨g,o,none⟩) 12 rc) {k:Nat} (hk:k<12) {v:Vl} (hv:W.cO v)
  (hs:Sl w' 78 2 (.slice (some ⟨g,o,none⟩) 12 rc) 12 (((au W.roots).set (k*2) (.int .i64 v.1)).set (k*2+1) (.int .i64 v.2))) (K:aa (·=g) w w'):aL w h w' (W.bj k v):=by
 have e:=H.ok.hr;exact H.dh (by rw [e];exact hrv) hk hv (by rw [e];exact hs) K
theorem rO (r a:Nat) (xb xi xn:Int) (H:aJ w h W) (hr:r<12) (ha:a<12) :
  Calls Try.prog 98 #[.pointer (some ⟨h.p,0,none⟩), .agg #[.int .i64 10, .int .i64 r, .int .i64 a, .int .i64 xb, .int .i64 xi, .int .i64 xn]] w (bW w h (W.pop ⟨10,r,a,xb,xi,xn⟩)):=by
 unfold bW;have HP0:=Hz (show W.guard a<0→W.pop ⟨10,r,a,xb,xi,xn⟩=(2,W) from fun h=>by unfold Wd.pop;rw [if_pos h]);have HPN:=Hz (show ¬ W.guard a<0→popW W.wait (W.guard a)=none→W.pop ⟨10,r,a,xb,xi,xn⟩=(4,W) from fun h h2=>by unfold Wd.pop;rw [if_neg h];show (match popW W.wait (W.guard a) with | none=>_ | some r=>_)=_;rw [h2]);have HPS:=Hz (show ¬ W.guard a<0→∀ q,popW W.wait (W.guard a)=some q→W.pop ⟨10,r,a,xb,xi,xn⟩=(0,({ W with regs:=W.regs,wait:=q.2 }:Wd).bj r (3,q.1)) from fun h q h2=>by unfold Wd.pop;rw [if_neg h];show (match popW W.wait (W.guard a) with | none=>_ | some r=>_)=_;rw [h2];rfl);have HB0:=Hz H;have hb1:ah (w.alloc (.cells #[.int .i64 10, .int .i64 r, .int .i64 a, .int .i64 xb, .int .i64 xi, .int .i64 xn] 98)) w.heap.size [.int .i64 10, .int .i64 r, .int .i64 a, .int .i64 xb, .int .i64 xi, .int .i64 xn] 98:=ah.newAt _ rfl rfl;have ka:=(Kz w).alloc (.cells #[.int .i64 10, .int .i64 r, .int .i64 a, .int .i64 xb, .int .i64 xi, .int .i64 xn] 98);have HB1:=Hz (H.same ka);have K1:=Hz ka;have SB1:=Hz hb1;have SOW:=Hz (show ¬ h.Own w.heap.size from fun e=>by have:=H.cR e;omega);clear hb1 ka H;go_enter Try.func98,Try.ntmps98;go_upto_region 1 with fail
 generalize w.alloc (.cells #[.int .i64 10, .int .i64 r, .int .i64 a, .int .i64 xb, .int .i64 xi, .int .i64 xn] 98)=w1 at *;generalize w.heap.size=sb at *;have s0:=SB1.out.cell 0;have s1:=SB1.out.cell 1;have s2:=SB1.out.cell 2;have s3:=SB1.out.cell 3;have s4:=SB1.out.cell 4;have s5:=SB1.out.cell 5;have sl:=SB1.out.lt;simp only [Lz,Ls] at s0 s1 s2 s3 s4 s5;have HOA:=Hz (fun w' (H:aJ w' h W)=>ku a ha H);by_cases hta:W.aw a<0
 ·rw [fm hta] at HOA;have HE:=Hz (HP0.out (Wd.dT.2 (.inl hta)));clear hta;go_wp2_with fail;refine (HOA.out _ HB1.out).mono ?_;rintro e w2 ⟨rfl,hk⟩;have HB2:=Hz (HB1.out.same hk);have K2:=Hz (K1.out.trans hk);have SB2:=Hz (hk.ai SB1.out (fun h=>h));clear hk s0 s1 s2 s3 s4 s5 sl;have s0:=SB2.out.cell 0;have s1:=SB2.out.cell 1;have s2:=SB2.out.cell 2;have sl:=SB2.out.lt;simp only [Lz,Ls] at s0 s1 s2;go_wp2_with fail;go_ret;rw [HE.out];exact ⟨rfl,aL.same HB0.out K2.out⟩
 have hla:=Wd.bI HB0.out.ok hta;obtain ⟨ga,oa,nca,-,-,etl,-⟩:=HB0.out.rowAt hla;rw [fq hta etl] at HOA;have ETL:=Hz etl;have HLA:=Hz hla;have HTA:=Hz (Wd.jZ hta);by_cases h5:(W.th (W.aw a)).k=5
 case neg=>
  have HE:=Hz (HP0.out (Wd.dT.2 (.inr h5)));have e5:((W.th (W.aw a)).k != 5)=true:=by simpa using h5
  clear hta hla etl h5;go_wp2_with fail;refine (HOA.out _ HB1.out).mono ?_;rintro e w2 ⟨rfl,hk⟩;have HB2:=Hz (HB1.out.same hk);have K2:=Hz (K1.out.trans hk);have SB2:=Hz (hk.ai SB1.out (fun h=>h));clear hk s0 s1 s2 s3 s4 s5 sl;have s0:=SB2.out.cell 0;have s1:=SB2.out.cell 1;have s2:=SB2.out.cell 2;have sl:=SB2.out.lt;simp only [Lz,Ls] at s0 s1 s2;obtain ⟨gb,ob,ncb,-,-,e',hg,t0,-⟩:=HB2.out.rowAt HLA.out;rw [ETL.out] at e';cases e';go_wp2_with fail;go_ret;rw [HE.out];exact ⟨rfl,aL.same HB0.out K2.out⟩
 have hng:¬ W.guard a<0:=fun e=>by rcases Wd.dT.1 e with h | h;exact hta h;exact h h5
 have hgv:=(Wd.lq hng).1;have HPN:=Hz (HPN.out hng);have HPS:=Hz (HPS.out hng);rw [hgv] at HPN HPS;have T0:=Hz (show ∀ w',aJ w' h W→w'.cell? ⟨ga,oa+(W.aw a).toNat*4,none⟩=some (.int .i64 5)∧ga<w'.heap.size from fun w' H'=>by
  obtain ⟨gb,ob,ncb,-,-,e',hg,t0,-⟩:=H'.rowAt HLA.out;rw [ETL.out] at e';cases e';rw [h5] at t0
  exact ⟨t0,hg⟩)
 clear hta hla etl h5 HP0 hng hgv;go_wp2_with fail;refine (HOA.out _ HB1.out).mono ?_;rintro e w2 ⟨rfl,hk⟩;have HB2:=Hz (HB1.out.same hk);have K2:=Hz (K1.out.trans hk);have SB2:=Hz (hk.ai SB1.out (fun h=>h));clear hk s0 s1 s2 s3 s4 s5 sl;have s0:=SB2.out.cell 0;have s1:=SB2.out.cell 1;have s2:=SB2.out.cell 2;have sl:=SB2.out.lt;simp only [Lz,Ls] at s0 s1 s2;obtain ⟨t0,hg⟩:=T0.out _ HB2.out;obtain ⟨gr,orr,rc,erv,hgr,q1,-,ra1,hrs⟩:=HB2.out.cU ha;rw [HTA.out.1] at ra1;have RS:=Hz hrs;have ERV:=Hz erv;have hai:(a:Int)<12:=by omega
 have h24l:=HB2.out.ok.hq;have hsd:=HB2.out.side;have hpl:=HB2.out.hp.lt;clear erv hrs;generalize W.aw a=va at *;have hpf:=gL W.wait va;by_cases hf:findG va W.wait<W.wait.length
 ·rw [if_pos hf] at hpf;have HPP:=Hz (HPS.out _ hpf);dsimp only at HPP;have hm:W.wait.length=findG va W.wait+1+(W.wait.length-findG va W.wait-1):=by omega
  have kd:=(Kz w2).drew;have hpop:=oJ h.p h.gv h.wv W.regs W.wait va _ _ w2.drew (hsd.ae kd (fun _ _ h=>h)) (by omega) rfl hm;have hpm:=iu hpf;have HOK:=Hz (show ({ W with regs:=W.regs,wait:=W.wait.eraseIdx (findG va W.wait) }:Wd).ok from by
   have o:=HB2.out.ok
   exact ⟨o.hr,o.rv,o.tk,o.tv,o.gv,fun e he=>o.wv e (hpm.2.1 e he),by have h1:(W.wait.eraseIdx (findG va W.wait)).length+1=W.wait.length:=hpm.2.2;have h2:=o.hq;show W.regs.length+(W.wait.eraseIdx (findG va W.wait)).length≤24;omega,o.m1,o.m2,o.g1,o.g2,o.uy,o.uo⟩)
  have HXR:=Hz (show W.live (W.wait.getD (findG va W.wait) (0,0)).2 from (HB2.out.ok.wv _ hpm.1).2.2);have HPO:=Hz hpop;have HD:=Hz (HB2.out.same kd);clear hm hpop hpm hpf hf hsd h24l kd HPN HPS;generalize (W.wait.getD (findG va W.wait) (0,0)).2=x at *;generalize W.wait.eraseIdx (findG va W.wait)=wt2 at *;go_wp2_with fail;refine aq (.free 0 (.free 1 (.free 2 (.free 3 (.free 4 (.free 5 (.free 7 (.pure 6 (.free 8 (.free 9 (.pure 10 (.run 11 (.swi [] (.free 12 (.free 13 (.free 14 (.free 15 (.free 16 (.fin))))))))))))))))))) [11,12,13,14,15,16] (fun w'=>w'.cell? ⟨h.p,1,none⟩=some (.slice (some ⟨gr,orr,none⟩) 12 rc)∧w'.cell? ⟨gr,orr+a*2+1,none⟩=some (.int .i64 va)) (by kernel_rfl) (by kernel_rfl) ⟨q1,ra1⟩ ?_
  iterate 11 ((first | refine ak rfl rfl fun K hK=>?_ | refine aj rfl rfl fun K hK=>?_ | refine ay rfl rfl fun K hK=>?_ | refine av rfl rfl fun K hK=>?_ | refine ax rfl rfl fun K hK=>?_);go_simp;refine hK _ ?_;clear hK K)
  refine aG rfl rfl rfl (fun K hK=>?_);unfold aM;go_simp;refine HPO.out.mono ?_;rintro e5 w5 ⟨rfl,hs5⟩;have TO:=Hz (aJ.pA HD.out hs5 HOK.out);have SNO:=Hz (show ¬ h.Own sb from SOW.out);clear hs5 q1 ra1 hpl HPO s0 s1 s2 sl t0 hg hgr;obtain ⟨h5,B5,ep,k5,o5⟩:=TO.out;have HB5:=Hz B5;have EP:=Hz ep;have K5:=Hz k5;have O5:=Hz o5;have SB5:=Hz (k5.ai (SB2.out.drew) SNO.out);have s1:=SB5.out.cell 1;have sl:=SB5.out.lt;simp only [Lz,Ls] at s1;obtain ⟨gr,orr,rc,erv,hgr,q1,-,-,hrs⟩:=B5.cU hr;rw [ep] at q1;have RS:=Hz hrs;have ERV:=Hz erv;have hpl:=B5.hp.lt;rw [ep] at hpl;clear B5 k5 o5 ep hrs erv;refine hK _ _ ?_;clear hK K;refine aE (fun _=>True) trivial ?_
  iterate 5 ((first | refine ak rfl rfl fun K hK=>?_ | refine aj rfl rfl fun K hK=>?_);go_simp;refine hK _ ?_;clear hK K)
  refine aA ?_;have h12:(r:Int)<12:=by omega
  have h12':¬ (12:Int)≤(r:Int):=by omega
  have h12n:¬ (12:Nat)≤r:=by omega
  go_wp2_with fail;refine aq (.free 0 (.free 1 (.free 2 (.free 4 (.free 6 (.free 7 (.pure 3 (.pure 5 (.free 8 (.run 9 (.swi [] (.fin)))))))))))) [9] (fun w'=>w'.cell? ⟨h.p,1,none⟩=some (.slice (some ⟨gr,orr,none⟩) 12 rc)∧w'.cell? ⟨sb,1,none⟩=some (.int .i64 r)) (by kernel_rfl) (by kernel_rfl) ⟨q1,s1⟩ ?_
  iterate 9 ((first | refine ak rfl rfl fun K hK=>?_ | refine aj rfl rfl fun K hK=>?_ | refine ay rfl rfl fun K hK=>?_ | refine av rfl rfl fun K hK=>?_ | refine ax rfl rfl fun K hK=>?_);go_simp;refine hK _ ?_;clear hK K)
  refine aG rfl rfl rfl (fun K hK=>?_);refine aS 78 (.tmp 91) (.tmp 90) rfl rfl gr orr 12 rc r _ 78 (.int .i64 3) (.int .i64 x) rfl rfl (RS.out.ae (Kz _).drew (fun _ _ h=>h)) hr (by kernel_rfl) rfl rfl ?_;intro wz hsz hkz hzz;refine hK _ _ ?_;clear hK K;refine aE (fun _=>True) trivial (aA ?_);have T6:=Hz (HB5.out.cV ERV.out hr (v:=(3,x)) (by right;right;right;exact ⟨rfl,HXR.out⟩) hsz (((Kz w5).drew.mono (fun _ _ h=>h.elim)).trans hkz));clear hsz hkz hzz q1 s1 sl hpl hgr h12 h12' h12n;go_wp2_with fail;go_ret;rw [HPP.out];exact ⟨rfl,aL.aN (K2.out.trans (Kz w2).drew) (aL.step EP.out K5.out O5.out T6.out)⟩
 ·rw [if_neg hf] at hpf;have HPP:=Hz (HPN.out hpf);have kd:=(Kz w2).drew;have HPO:=Hz (oI h.p h.gv h.wv W.regs W.wait va w2.drew (hsd.ae kd (fun _ _ h=>h)) (by omega) hf);clear hpf hf hsd h24l HPN HPS kd;go_wp2_with fail;refine aq (.free 0 (.free 1 (.free 2 (.free 3 (.free 4 (.free 5 (.free 7 (.pure 6 (.free 8 (.free 9 (.pure 10 (.run 11 (.swi [] (.free 12 (.free 13 (.free 14 (.free 15 (.free 16 (.fin))))))))))))))))))) [11,12,13,14,15,16] (fun w'=>w'.cell? ⟨h.p,1,none⟩=some (.slice (some ⟨gr,orr,none⟩) 12 rc)∧w'.cell? ⟨gr,orr+a*2+1,none⟩=some (.int .i64 va)) (by kernel_rfl) (by kernel_rfl) ⟨q1,ra1⟩ ?_
  iterate 11 ((first | refine ak rfl rfl fun K hK=>?_ | refine aj rfl rfl fun K hK=>?_ | refine ay rfl rfl fun K hK=>?_ | refine av rfl rfl fun K hK=>?_ | refine ax rfl rfl fun K hK=>?_);go_simp;refine hK _ ?_;clear hK K)
  refine aG rfl rfl rfl (fun K hK=>?_);unfold aM;go_simp;refine HPO.out.mono ?_;rintro e5 w5 ⟨rfl,hk⟩;have K4:=Hz ((K2.out.trans (Kz w2).drew).trans hk);clear hk q1 ra1 hpl HPO s0 s1 s2 sl t0 hg hgr;refine hK _ _ ?_;clear hK K;refine aE (fun _=>True) trivial ?_
  iterate 5 ((first | refine ak rfl rfl fun K hK=>?_ | refine aj rfl rfl fun K hK=>?_);go_simp;refine hK _ ?_;clear hK K)
  refine aA ?_;go_wp2_with fail;go_ret;rw [HPP.out];exact ⟨rfl,aL.same HB0.out K4.out⟩
theorem rP (r a:Nat) (xb xi xn:Int) (H:aJ w h W) (hr:r<12) (ha:a<12) :
  Calls Try.prog 100 #[.pointer (some ⟨h.p,0,none⟩), .agg #[.int .i64 13, .int .i64 r, .int .i64 a, .int .i64 xb, .int .i64 xi, .int .i64 xn]] w (bW w h (W.len ⟨13,r,a,xb,xi,xn⟩)):=by
 unfold bW;have HLE:=Hz (show W.len ⟨13,r,a,xb,xi,xn⟩=if W.aw a<0∨(W.th (W.aw a)).k=5 then (2,W) else (0,W.bj r (1,(W.th (W.aw a)).fs.length)) from rfl);have HB0:=Hz H;have hb1:ah (w.alloc (.cells #[.int .i64 13, .int .i64 r, .int .i64 a, .int .i64 xb, .int .i64 xi, .int .i64 xn] 98)) w.heap.size [.int .i64 13, .int .i64 r, .int .i64 a, .int .i64 xb, .int .i64 xi, .int .i64 xn] 98:=ah.newAt _ rfl rfl;have ka:=(Kz w).alloc (.cells #[.int .i64 13, .int .i64 r, .int .i64 a, .int .i64 xb, .int .i64 xi, .int .i64 xn] 98);have HB1:=Hz (H.same ka);have K1:=Hz ka;have SB1:=Hz hb1;have SOW:=Hz (show ¬ h.Own w.heap.size from fun e=>by have:=H.cR e;omega);clear hb1 ka H;go_enter Try.func100,Try.ntmps100;go_upto_region 1 with fail
 generalize w.alloc (.cells #[.int .i64 13, .int .i64 r, .int .i64 a, .int .i64 xb, .int .i64 xi, .int .i64 xn] 98)=w1 at *;generalize w.heap.size=sb at *;have s0:=SB1.out.cell 0;have s1:=SB1.out.cell 1;have s2:=SB1.out.cell 2;have s3:=SB1.out.cell 3;have s4:=SB1.out.cell 4;have s5:=SB1.out.cell 5;have sl:=SB1.out.lt;simp only [Lz,Ls] at s0 s1 s2 s3 s4 s5;have HOA:=Hz (fun w' (H:aJ w' h W)=>ku a ha H);by_cases hta:W.aw a<0
 ·rw [fm hta] at HOA;have HE:=Hz (show W.len ⟨13,r,a,xb,xi,xn⟩=(2,W) by rw [HLE.out,if_pos (.inl hta)]);clear hta;go_wp2_with fail;refine (HOA.out _ HB1.out).mono ?_;rintro e w2 ⟨rfl,hk⟩;have HB2:=Hz (HB1.out.same hk);have K2:=Hz (K1.out.trans hk);have SB2:=Hz (hk.ai SB1.out (fun h=>h));clear hk s0 s1 s2 s3 s4 s5 sl;have s0:=SB2.out.cell 0;have s1:=SB2.out.cell 1;have s2:=SB2.out.cell 2;have sl:=SB2.out.lt;simp only [Lz,Ls] at s0 s1 s2;go_wp2_with fail;go_ret;rw [HE.out];exact ⟨rfl,aL.same HB0.out K2.out⟩
 have hla:=Wd.bI HB0.out.ok hta;obtain ⟨ga,oa,nca,-,-,etl,-⟩:=HB0.out.rowAt hla;rw [fq hta etl] at HOA;have ETL:=Hz etl;have HLA:=Hz hla;have hfl:=(bs (HB0.out.ok.tk _ hla)).2.2.2;by_cases h5:(W.th (W.aw a)).k=5
 ·have HE:=Hz (show W.len ⟨13,r,a,xb,xi,xn⟩=(2,W) by rw [HLE.out,if_pos (.inr h5)]);clear hta hla etl;go_wp2_with fail;refine (HOA.out _ HB1.out).mono ?_;rintro e w2 ⟨rfl,hk⟩;have HB2:=Hz (HB1.out.same hk);have K2:=Hz (K1.out.trans hk);have SB2:=Hz (hk.ai SB1.out (fun h=>h));clear hk s0 s1 s2 s3 s4 s5 sl;have s0:=SB2.out.cell 0;have s1:=SB2.out.cell 1;have s2:=SB2.out.cell 2;have sl:=SB2.out.lt;simp only [Lz,Ls] at s0 s1 s2;obtain ⟨gb,ob,ncb,-,-,e',hg,t0,-⟩:=HB2.out.rowAt HLA.out;rw [ETL.out] at e';cases e';rw [h5] at t0;clear h5;go_wp2_with fail;go_ret;rw [HE.out];exact ⟨rfl,aL.same HB0.out K2.out⟩
 have HE:=Hz (show W.len ⟨13,r,a,xb,xi,xn⟩=(0,W.bj r (1,(W.th (W.aw a)).fs.length)) by rw [HLE.out,if_neg (by rintro (h | h);exact hta h;exact h5 h)]);have e5:((W.th (W.aw a)).k == 5)=false:=by simpa using h5
 clear hta hla etl h5;go_wp2_with fail;refine (HOA.out _ HB1.out).mono ?_;rintro e w2 ⟨rfl,hk⟩;have HB2:=Hz (HB1.out.same hk);have K2:=Hz (K1.out.trans hk);have SB2:=Hz (hk.ai SB1.out (fun h=>h));clear hk s0 s1 s2 s3 s4 s5 sl;have s0:=SB2.out.cell 0;have s1:=SB2.out.cell 1;have s2:=SB2.out.cell 2;have sl:=SB2.out.lt;simp only [Lz,Ls] at s0 s1 s2;obtain ⟨gb,ob,ncb,fo,fc,e',hg,t0,t1,-,-⟩:=HB2.out.rowAt HLA.out;rw [ETL.out] at e';cases e';obtain ⟨gr,orr,rc,erv,hgr,q1,-,-,hrs⟩:=HB2.out.cU hr;have RS:=Hz hrs;have ERV:=Hz erv;have pl:=HB2.out.hp.lt;clear erv hrs;generalize (W.th (W.aw a)).fs.length=n at *;generalize (W.th (W.aw a)).k=kd at *;have HV:=Hz (show W.cO (1,(n:Int)) from .inr (.inl ⟨rfl,by unfold cL;omega⟩));have h12:(r:Int)<12:=by omega
 have h12':¬ (12:Int)≤(r:Int):=by omega
 have h12n:¬ (12:Nat)≤r:=by omega
 go_wp2_with fail;refine aq (.free 0 (.free 1 (.free 2 (.free 4 (.free 6 (.free 7 (.pure 3 (.pure 5 (.free 8 (.run 9 (.swi [] (.fin)))))))))))) [9] (fun w'=>w'.cell? ⟨h.p,1,none⟩=some (.slice (some ⟨gr,orr,none⟩) 12 rc)∧w'.cell? ⟨sb,1,none⟩=some (.int .i64 r)) (by kernel_rfl) (by kernel_rfl) ⟨q1,s1⟩ ?_
 iterate 9 ((first | refine ak rfl rfl fun K hK=>?_ | refine aj rfl rfl fun K hK=>?_ | refine ay rfl rfl fun K hK=>?_ | refine av rfl rfl fun K hK=>?_ | refine ax rfl rfl fun K hK=>?_);go_simp;refine hK _ ?_;clear hK K)
 refine aG rfl rfl rfl (fun K hK=>?_);refine aS 78 (.tmp 53) (.tmp 52) rfl rfl gr orr 12 rc r _ 78 (.int .i64 1) (.int .i64 n) rfl rfl (RS.out.ae (Kz _).drew (fun _ _ h=>h)) hr (by kernel_rfl) rfl rfl ?_;intro wz hsz hkz hzz;refine hK _ _ ?_;clear hK K;refine aE (fun _=>True) trivial (aA ?_);have T6:=Hz (HB2.out.cV ERV.out hr (v:=(1,(n:Int))) HV.out hsz (((Kz w2).drew.mono (fun _ _ h=>h.elim)).trans hkz));clear hsz hkz hzz q1 s0 s1 s2 sl pl t0 t1;go_wp2_with fail;go_ret;rw [HE.out];exact ⟨rfl,aL.aN K2.out T6.out⟩
theorem qq (r a b:Nat) (xi xn:Int) (H:aJ w h W) (hr:r<12) (ha:a<12) (hb:b<12) :
  Calls Try.prog 100 #[.pointer (some ⟨h.p,0,none⟩), .agg #[.int .i64 14, .int .i64 r, .int .i64 a, .int .i64 b, .int .i64 xi, .int .i64 xn]] w (bW w h (W.same ⟨14,r,a,b,xi,xn⟩)):=by
 unfold bW;have HSE:=Hz (show W.same ⟨14,r,a,b,xi,xn⟩=(0,W.bj r (1,if W.rt a=W.rt b then 1 else 0)) from rfl);have HB0:=Hz H;have hb1:ah (w.alloc (.cells #[.int .i64 14, .int .i64 r, .int .i64 a, .int .i64 b, .int .i64 xi, .int .i64 xn] 98)) w.heap.size [.int .i64 14, .int .i64 r, .int .i64 a, .int .i64 b, .int .i64 xi, .int .i64 xn] 98:=ah.newAt _ rfl rfl;have ka:=(Kz w).alloc (.cells #[.int .i64 14, .int .i64 r, .int .i64 a, .int .i64 b, .int .i64 xi, .int .i64 xn] 98);have HB1:=Hz (H.same ka);have K1:=Hz ka;have SB1:=Hz hb1;have SOW:=Hz (show ¬ h.Own w.heap.size from fun e=>by have:=H.cR e;omega);clear hb1 ka H;go_enter Try.func100,Try.ntmps100;go_upto_region 1 with fail
 generalize w.alloc (.cells #[.int .i64 14, .int .i64 r, .int .i64 a, .int .i64 b, .int .i64 xi, .int .i64 xn] 98)=w1 at *;generalize w.heap.size=sb at *;have s0:=SB1.out.cell 0;have s1:=SB1.out.cell 1;have s2:=SB1.out.cell 2;have s3:=SB1.out.cell 3;have s4:=SB1.out.cell 4;have s5:=SB1.out.cell 5;have sl:=SB1.out.lt;simp only [Lz,Ls] at s0 s1 s2 s3 s4 s5;obtain ⟨gr,orr,rc,erv,hgr,q1,a0,a1,hrs⟩:=HB1.out.cU ha;obtain ⟨gr',or',rc',-,-,q1',b0,b1,-⟩:=HB1.out.cU hb;rw [q1] at q1';cases q1';have RS:=Hz hrs;have ERV:=Hz erv;have pl:=HB1.out.hp.lt;have hai:(a:Int)<12:=by omega
 have hbi:(b:Int)<12:=by omega
 clear erv hrs;generalize W.rt (a:Int)=v at *;generalize W.rt (b:Int)=u at *;obtain ⟨v1,v2⟩:=v;obtain ⟨u1,u2⟩:=u;dsimp only at a0 a1 b0 b1;by_cases he:((v1,v2):Vl)=(u1,u2)
 ·have HE:=Hz (show W.same ⟨14,r,a,b,xi,xn⟩=(0,W.bj r (1,1)) by rw [HSE.out,if_pos he]);cases he;have HV:=Hz (show W.cO (1,1) from .inr (.inl ⟨rfl,by unfold cL;omega⟩));clear HSE;go_wp2_with fail;refine aq (.free 0 (.free 1 (.free 2 (.free 4 (.free 8 (.free 9 (.free 10 (.free 12 (.pure 3 (.pure 5 (.free 6 (.pure 7 (.pure 11 (.pure 13 (.free 14 (.pure 15 (.free 16 (.fin)))))))))))))))))) [] (fun w'=>w'.cell? ⟨h.p,1,none⟩=some (.slice (some ⟨gr,orr,none⟩) 12 rc)∧w'.cell? ⟨sb,2,none⟩=some (.int .i64 a)∧w'.cell? ⟨sb,3,none⟩=some (.int .i64 b)∧w'.cell? ⟨gr,orr+a*2,none⟩=some (.int .i64 v1)∧w'.cell? ⟨gr,orr+a*2+1,none⟩=some (.int .i64 v2)∧w'.cell? ⟨gr,orr+b*2,none⟩=some (.int .i64 v1)∧w'.cell? ⟨gr,orr+b*2+1,none⟩=some (.int .i64 v2)) (by kernel_rfl) (by kernel_rfl) ⟨q1,s2,s3,a0,a1,b0,b1⟩ ?_
  iterate 17 ((first | refine ak rfl rfl fun K hK=>?_ | refine aj rfl rfl fun K hK=>?_ | refine ay rfl rfl fun K hK=>?_ | refine av rfl rfl fun K hK=>?_ | refine ax rfl rfl fun K hK=>?_);go_simp;refine hK _ ?_;clear hK K)
  refine aA ?_;have kd:=(Kz w1).drew;have H2:=Hz (HB1.out.same kd);have K2:=Hz (K1.out.trans kd);have B2:=Hz (kd.ai SB1.out (fun h=>h));have RS:=Hz (RS.out.ae kd (fun _ _ h=>h));clear kd s0 s1 s2 s3 s4 s5 sl q1 pl a0 a1 b0 b1;generalize w1.drew=w2 at *;have s1:=B2.out.cell 1;have sl:=B2.out.lt;have pl:=H2.out.hp.lt;have q1:=H2.out.cells.2.1;rw [ERV.out] at q1;simp only [Lz,Ls] at s1;have h12:(r:Int)<12:=by omega
  have h12':¬ (12:Int)≤(r:Int):=by omega
  have h12n:¬ (12:Nat)≤r:=by omega
  go_wp2_with fail;refine aq (.free 0 (.free 1 (.free 2 (.free 4 (.free 6 (.free 7 (.pure 3 (.pure 5 (.free 8 (.run 9 (.swi [] (.fin)))))))))))) [9] (fun w'=>w'.cell? ⟨h.p,1,none⟩=some (.slice (some ⟨gr,orr,none⟩) 12 rc)∧w'.cell? ⟨sb,1,none⟩=some (.int .i64 r)) (by kernel_rfl) (by kernel_rfl) ⟨q1,s1⟩ ?_
  iterate 9 ((first | refine ak rfl rfl fun K hK=>?_ | refine aj rfl rfl fun K hK=>?_ | refine ay rfl rfl fun K hK=>?_ | refine av rfl rfl fun K hK=>?_ | refine ax rfl rfl fun K hK=>?_);go_simp;refine hK _ ?_;clear hK K)
  refine aG rfl rfl rfl (fun K hK=>?_);refine aS 78 (.tmp 53) (.tmp 52) rfl rfl gr orr 12 rc r _ 78 (.int .i64 1) (.int .i64 1) rfl rfl (RS.out.ae (Kz _).drew (fun _ _ h=>h)) hr (by kernel_rfl) rfl rfl ?_;intro wz hsz hkz hzz;refine hK _ _ ?_;clear hK K;refine aE (fun _=>True) trivial (aA ?_);have T6:=Hz (H2.out.cV ERV.out hr (v:=(1,1)) HV.out hsz (((Kz w2).drew.mono (fun _ _ h=>h.elim)).trans hkz));clear hsz hkz hzz q1 s1 sl pl;go_wp2_with fail;go_ret;rw [HE.out];exact ⟨rfl,aL.aN K2.out T6.out⟩
 ·have HE:=Hz (show W.same ⟨14,r,a,b,xi,xn⟩=(0,W.bj r (1,0)) by rw [HSE.out,if_neg he]);have HV:=Hz (show W.cO (1,0) from .inr (.inl ⟨rfl,by unfold cL;omega⟩));have hne:¬ (v1=u1∧v2=u2):=fun h=>he (by rw [h.1,h.2]);clear he HSE;by_cases h1:v1=u1
  ·have h2:¬ v2=u2:=fun h=>hne ⟨h1,h⟩;subst h1;clear hne;go_wp2_with fail;refine aq (.free 0 (.free 1 (.free 2 (.free 4 (.free 8 (.free 9 (.free 10 (.free 12 (.pure 3 (.pure 5 (.free 6 (.pure 7 (.pure 11 (.pure 13 (.free 14 (.pure 15 (.free 16 (.fin)))))))))))))))))) [] (fun w'=>w'.cell? ⟨h.p,1,none⟩=some (.slice (some ⟨gr,orr,none⟩) 12 rc)∧w'.cell? ⟨sb,2,none⟩=some (.int .i64 a)∧w'.cell? ⟨sb,3,none⟩=some (.int .i64 b)∧w'.cell? ⟨gr,orr+a*2,none⟩=some (.int .i64 v1)∧w'.cell? ⟨gr,orr+a*2+1,none⟩=some (.int .i64 v2)∧w'.cell? ⟨gr,orr+b*2,none⟩=some (.int .i64 v1)∧w'.cell? ⟨gr,orr+b*2+1,none⟩=some (.int .i64 u2)) (by kernel_rfl) (by kernel_rfl) ⟨q1,s2,s3,a0,a1,b0,b1⟩ ?_
   iterate 17 ((first | refine ak rfl rfl fun K hK=>?_ | refine aj rfl rfl fun K hK=>?_ | refine ay rfl rfl fun K hK=>?_ | refine av rfl rfl fun K hK=>?_ | refine ax rfl rfl fun K hK=>?_);go_simp;refine hK _ ?_;clear hK K)
   refine aA ?_;have kd:=(Kz w1).drew;have H2:=Hz (HB1.out.same kd);have K2:=Hz (K1.out.trans kd);have B2:=Hz (kd.ai SB1.out (fun h=>h));have RS:=Hz (RS.out.ae kd (fun _ _ h=>h));clear kd s0 s1 s2 s3 s4 s5 sl q1 pl a0 a1 b0 b1;generalize w1.drew=w2 at *;have s1:=B2.out.cell 1;have sl:=B2.out.lt;have pl:=H2.out.hp.lt;have q1:=H2.out.cells.2.1;rw [ERV.out] at q1;simp only [Lz,Ls] at s1;have h12:(r:Int)<12:=by omega
   have h12':¬ (12:Int)≤(r:Int):=by omega
   have h12n:¬ (12:Nat)≤r:=by omega
   go_wp2_with fail;refine aq (.free 0 (.free 1 (.free 2 (.free 4 (.free 6 (.free 7 (.pure 3 (.pure 5 (.free 8 (.run 9 (.swi [] (.fin)))))))))))) [9] (fun w'=>w'.cell? ⟨h.p,1,none⟩=some (.slice (some ⟨gr,orr,none⟩) 12 rc)∧w'.cell? ⟨sb,1,none⟩=some (.int .i64 r)) (by kernel_rfl) (by kernel_rfl) ⟨q1,s1⟩ ?_
   iterate 9 ((first | refine ak rfl rfl fun K hK=>?_ | refine aj rfl rfl fun K hK=>?_ | refine ay rfl rfl fun K hK=>?_ | refine av rfl rfl fun K hK=>?_ | refine ax rfl rfl fun K hK=>?_);go_simp;refine hK _ ?_;clear hK K)
   refine aG rfl rfl rfl (fun K hK=>?_);refine aS 78 (.tmp 53) (.tmp 52) rfl rfl gr orr 12 rc r _ 78 (.int .i64 1) (.int .i64 0) rfl rfl (RS.out.ae (Kz _).drew (fun _ _ h=>h)) hr (by kernel_rfl) rfl rfl ?_;intro wz hsz hkz hzz;refine hK _ _ ?_;clear hK K;refine aE (fun _=>True) trivial (aA ?_);have T6:=Hz (H2.out.cV ERV.out hr (v:=(1,0)) HV.out hsz (((Kz w2).drew.mono (fun _ _ h=>h.elim)).trans hkz));clear hsz hkz hzz q1 s1 sl pl;go_wp2_with fail;go_ret;rw [HE.out];exact ⟨rfl,aL.aN K2.out T6.out⟩
  ·clear hne;go_wp2_with fail;refine aq (.free 0 (.free 1 (.free 2 (.free 4 (.free 8 (.free 9 (.free 10 (.free 12 (.pure 3 (.pure 5 (.free 6 (.pure 7 (.pure 11 (.pure 13 (.free 14 (.pure 15 (.free 16 (.fin)))))))))))))))))) [] (fun w'=>w'.cell? ⟨h.p,1,none⟩=some (.slice (some ⟨gr,orr,none⟩) 12 rc)∧w'.cell? ⟨sb,2,none⟩=some (.int .i64 a)∧w'.cell? ⟨sb,3,none⟩=some (.int .i64 b)∧w'.cell? ⟨gr,orr+a*2,none⟩=some (.int .i64 v1)∧w'.cell? ⟨gr,orr+a*2+1,none⟩=some (.int .i64 v2)∧w'.cell? ⟨gr,orr+b*2,none⟩=some (.int .i64 u1)∧w'.cell? ⟨gr,orr+b*2+1,none⟩=some (.int .i64 u2)) (by kernel_rfl) (by kernel_rfl) ⟨q1,s2,s3,a0,a1,b0,b1⟩ ?_
   iterate 17 ((first | refine ak rfl rfl fun K hK=>?_ | refine aj rfl rfl fun K hK=>?_ | refine ay rfl rfl fun K hK=>?_ | refine av rfl rfl fun K hK=>?_ | refine ax rfl rfl fun K hK=>?_);go_simp;refine hK _ ?_;clear hK K)
   refine aA ?_;have kd:=(Kz w1).drew;have H2:=Hz (HB1.out.same kd);have K2:=Hz (K1.out.trans kd);have B2:=Hz (kd.ai SB1.out (fun h=>h));have RS:=Hz (RS.out.ae kd (fun _ _ h=>h));clear kd s0 s1 s2 s3 s4 s5 sl q1 pl a0 a1 b0 b1;generalize w1.drew=w2 at *;have s1:=B2.out.cell 1;have sl:=B2.out.lt;have pl:=H2.out.hp.lt;have q1:=H2.out.cells.2.1;rw [ERV.out] at q1;simp only [Lz,Ls] at s1;have h12:(r:Int)<12:=by omega
   have h12':¬ (12:Int)≤(r:Int):=by omega
   have h12n:¬ (12:Nat)≤r:=by omega
   go_wp2_with fail;refine aq (.free 0 (.free 1 (.free 2 (.free 4 (.free 6 (.free 7 (.pure 3 (.pure 5 (.free 8 (.run 9 (.swi [] (.fin)))))))))))) [9] (fun w'=>w'.cell? ⟨h.p,1,none⟩=some (.slice (some ⟨gr,orr,none⟩) 12 rc)∧w'.cell? ⟨sb,1,none⟩=some (.int .i64 r)) (by kernel_rfl) (by kernel_rfl) ⟨q1,s1⟩ ?_
   iterate 9 ((first | refine ak rfl rfl fun K hK=>?_ | refine aj rfl rfl fun K hK=>?_ | refine ay rfl rfl fun K hK=>?_ | refine av rfl rfl fun K hK=>?_ | refine ax rfl rfl fun K hK=>?_);go_simp;refine hK _ ?_;clear hK K)
   refine aG rfl rfl rfl (fun K hK=>?_);refine aS 78 (.tmp 53) (.tmp 52) rfl rfl gr orr 12 rc r _ 78 (.int .i64 1) (.int .i64 0) rfl rfl (RS.out.ae (Kz _).drew (fun _ _ h=>h)) hr (by kernel_rfl) rfl rfl ?_;intro wz hsz hkz hzz;refine hK _ _ ?_;clear hK K;refine aE (fun _=>True) trivial (aA ?_);have T6:=Hz (H2.out.cV ERV.out hr (v:=(1,0)) HV.out hsz (((Kz w2).drew.mono (fun _ _ h=>h.elim)).trans hkz));clear hsz hkz hzz q1 s1 sl pl;go_wp2_with fail;go_ret;rw [HE.out];exact ⟨rfl,aL.aN K2.out T6.out⟩
end
end
section
open Go.RowKit
theorem rQ (n:Nat) (hn:n≤12) (w:World):Calls Try.prog 157 #[.int .u64 1, .int .u64 n] w fun e w'=>e=.returned (.tuple #[.int .u64 0, .int .u64 n])∧w=w':=by
 have h:n=0∨n=1∨n=2∨n=3∨n=4∨n=5∨n=6∨n=7∨n=8∨n=9∨n=10∨n=11∨n=12:=by omega
 rcases h with rfl | rfl | rfl | rfl | rfl | rfl | rfl | rfl | rfl | rfl | rfl | rfl | rfl <;>
 ·go_enter Try.func157,Try.ntmps157;go_wp2_with fail;go_ret2;exact ⟨rfl,rfl⟩
theorem sX (n:Nat) (hn:n≤12) (w:World):Calls Try.prog 134 #[.int .u64 1, .int .u64 n] w fun e w'=>e=.returned (.tuple #[.int .u64 0, .int .u64 n])∧w=w':=by
 have HM:=Hz (rQ n hn);have hnn:(n:Int)≤12:=by omega
 go_enter Try.func134,Try.ntmps134;go_wp2_with fail;refine (HM.out _).mono ?_;rintro e w1 ⟨rfl,rfl⟩;go_wp2_with fail;go_ret2;exact ⟨rfl,rfl⟩
theorem mF {P:Program} {w:World} {ops:Array Oper} {rest:List Oper} {o:Oper} {a:Act} {Q:Exit→Act→World→Prop} (hgd:o.guard=none) (d s:Operand) (t:TypeId)
  (ho:o.op=.call { callee:=.builtin .copy,args:=#[d,s],argTypes:=#[t,t] })
  (e:TypeId) (hu:P.underlying t=some (.slice e)) (hsz:(P.info? e).map (·.size)=some 1)
  (g off dLen dCap:Nat) (ad:Addr) (sLen sCap:Nat) (hd:a.eval d=.slice (some ⟨g,off,none⟩) dLen dCap) (hs:a.eval s=.slice (some ad) sLen sCap)
  (cur:List Value) (hb:ah w g cur e) (cs:List Value) (hn:cs.length=Nat.min sLen dLen)
  (hsrc:∀ j v,cs[j]? = some v→w.cell? (ad.add j)=some v) (hfit:off+cs.length≤cur.length) (h1:∀ v ∈ cs,v.oneCell'=true)
  (h:wpList P ops Q rest (a.put o.dst (goInt cs.length)) (w.setRow g (cur.take off ++ cs ++ cur.drop (off+cs.length)).toArray)):wpList P ops Q (o :: rest) a w:=by
 refine wpList_plain hgd fun _ hK=>?_;have hrun:=run_copy_row (P:=P) w t t o.type e g off dLen dCap ad sLen sCap cur.toArray e cs hu hsz hb hn hsrc (by simpa using hfit) h1;unfold Oper.wp execOp;simp only [ho,resolve,invoke,builtin,Sem.run_bind,Sem.run_pure,Result.andThen_ok,List.map_toArray,List.map_cons,List.map_nil,hd,hs,hrun];exact hK _ _ h
def cq (a:Int) (n k:Nat):List Value:=List.replicate k (.int .i64 a) ++ List.replicate (n-k) (.int .i64 0)
theorem j0 {a:Int} {n k:Nat} (h:k≤n):(cq a n k).length=n:=by simp [cq];omega
theorem jg {a:Int} {n k c:Nat} (h:k+c≤n):(cq a n k).take k ++ List.replicate c (.int .i64 a) ++ (cq a n k).drop (k+c)=cq a n (k+c):=by
 unfold cq;rw [List.take_append_of_le_length (by simp),List.take_of_length_le (by simp),List.drop_append,List.drop_eq_nil_of_le (by simp),List.nil_append,List.drop_replicate,List.replicate_append_replicate];congr 2;simp;omega
theorem rR {a:Int} {n k j:Nat} (hk:k≤n) (h:j<k):(cq a n k)[j]? = some (.int .i64 a):=by
 unfold cq;rw [List.getElem?_append_left (by simpa using h),List.getElem?_replicate,if_pos h]
theorem qs (a:Int) (n g o cap:Nat) (hn:n≤12) (w:World) (hc:w.cell? ⟨g,o,none⟩=some (.int .i64 a)) (hg:g<w.heap.size) :
  Calls Try.prog 97 #[.slice (some ⟨g,o,none⟩) 1 cap, .int .i64 n] w fun e w'=>∃ b:Nat,e=.returned (.slice (some ⟨b,0,none⟩) n n)∧Sl w' 3 1 (.slice (some ⟨b,0,none⟩) n n) n (List.replicate n (.int .i64 a))∧aa (fun _=>False) w w'∧w.heap.size≤b:=by
 obtain ⟨i0,hi,hz0,hz1,hz2⟩:=info_parts fX;have hmk:=fun (wx:World)=>cB (P:=Try.prog) wx 50 3 i0 (.int .i64 0) Try.underlying50 hi hz0 rfl hz1 n (by rw [hz2];omega) (by omega);clear hi hz0 hz1 hz2;have HM:=Hz (sX n hn);have hnn:(n:Int)≤12:=by omega
 have HMK:=Hz hmk;clear hmk;have hmk:=HMK.out;go_enter Try.func97,Try.ntmps97;go_wp2_with fail;refine (HM.out _).mono ?_;rintro e w1 ⟨rfl,rfl⟩;go_upto_region 7 with fail
 have hb:ah (w.alloc (.cells (Array.replicate n (.int .i64 0)) 3)) w.heap.size (cq a n 0) 3:=ah.newAt _ rfl (by simp [cq]);have ka:=(Kz w).alloc (.cells (Array.replicate n (.int .i64 0)) 3);have hc2:(w.alloc (.cells (Array.replicate n (.int .i64 0)) 3)).cell? ⟨g,o,none⟩=some (.int .i64 a):=by
  rw [←hc];exact World.cell?_of_block (w:=w) (a:=⟨g,o,none⟩) (ka.block g hg (fun h=>h))
 have HB:=Hz hb;have KA:=Hz ka;have HC:=Hz hc2;have HSZ:=Hz (show w.heap.size≤w.heap.size from Nat.le_refl _);clear hb ka hc hc2 hg hmk HMK HM;generalize w.alloc (.cells (Array.replicate n (.int .i64 0)) 3)=w2 at *;obtain ⟨b,hbb⟩:∃ b,w.heap.size=b:=⟨_,rfl⟩;rw [hbb] at HB;rw [hbb];have HBB:=Hz hbb;clear hbb;have hm1:(List.replicate (min 1 n) (Value.int .i64 a)).length=min 1 n:=by simp
 have HSRC:=Hz (show ∀ j v,(List.replicate (min 1 n) (Value.int .i64 a))[j]? = some v→w2.cell? ((⟨g,o,none⟩:Addr).add j)=some v from fun j v hj=>by
  rw [List.getElem?_replicate] at hj;split at hj
  ·have e:j=0:=by omega
   subst e;cases hj;exact HC.out
  ·cases hj)
 have HFIT:=Hz (show 0+(List.replicate (min 1 n) (Value.int .i64 a)).length≤(cq a n 0).length by rw [j0 (Nat.zero_le _),hm1];omega);have HONE:=Hz (show ∀ v ∈ List.replicate (min 1 n) (Value.int .i64 a),v.oneCell'=true from fun v hv=>by rw [(List.mem_replicate.1 hv).2];rfl);have HLN:=Hz (show (List.replicate (min 1 n) (Value.int .i64 a)).length=Nat.min 1 n from hm1);have HROW:=Hz (show w2.setRow b ((cq a n 0).take 0 ++ List.replicate (min 1 n) (Value.int .i64 a) ++ (cq a n 0).drop (0+(List.replicate (min 1 n) (Value.int .i64 a)).length)).toArray=w2.setRow b (cq a n (0+min 1 n)).toArray by rw [hm1,jg (by omega)]);clear hm1;go_upto_region 8 with (refine mF rfl (.tmp 31) (.tmp 32) 50 rfl 3 Try.underlying50 (by kernel_rfl) b 0 n n ⟨g,o,none⟩ 1 cap rfl rfl (cq a n 0) HB.out _ HLN.out HSRC.out HFIT.out HONE.out ?_)
 have e3:w2.setRow b (List.replicate (min 1 n) (Value.int .i64 a) ++ (cq a n 0).drop (min 1 n)).toArray=w2.setRow b (cq a n (min 1 n)).toArray:=by
  have:=jg (a:=a) (n:=n) (k:=0) (c:=min 1 n) (by omega);simp only [List.take_zero,List.nil_append,Nat.zero_add] at this;rw [this]
 rw [e3];have HB3:=Hz (HB.out.setRow (cq a n (min 1 n)));have K3:=Hz (KA.out.setRow (g:=b) (.inr (by rw [HBB.out];exact Nat.le_refl _)) (cq a n (min 1 n)).toArray);clear e3 HROW HLN HONE HFIT HSRC HB KA HC;generalize w2.setRow b (cq a n (min 1 n)).toArray=w3 at *;go_loopw [8] (fun u wr=>∃ k:Nat,k≤n∧(n=0∨1≤k)∧u=.int .i64 k∧ah wr b (cq a n k) 3∧aa (fun _=>False) w wr) (fun u _=>n-(intOf u).toNat)
 case atStart=>exact ⟨min 1 n,by omega,by omega,rfl,HB3.out,K3.out⟩
 case round=>
  clear HB3 K3;obtain ⟨k,hk,hk1,rfl,hB,hK2⟩:=hrel;have BR:=Hz hB;have KR:=Hz hK2;clear hB hK2;by_cases hlt:k<n
  ·have hki:(k:Int)<n:=by omega
   have hk0:(0:Int)≤k:=by omega
   obtain ⟨c,hc⟩:∃ c,min k (n-k)=c:=⟨_,rfl⟩;have hc1:1≤c∧k+c≤n∧c≤k:=by omega
   have HM2:=Hz (show (List.replicate c (Value.int .i64 a)).length=Nat.min k (n-k) by rw [List.length_replicate];exact hc.symm);have HSRC:=Hz (show ∀ j v,(List.replicate c (Value.int .i64 a))[j]? = some v→wr.drew.cell? ((⟨b,0,none⟩:Addr).add j)=some v from fun j v hj=>by
    rw [List.getElem?_replicate] at hj;split at hj
    ·cases hj;rw [cX,BR.out.drew.cell,Nat.zero_add];exact rR hk (by omega)
    ·cases hj)
   have HFIT:=Hz (show k+(List.replicate c (Value.int .i64 a)).length≤(cq a n k).length by rw [j0 hk,List.length_replicate];omega);have HONE:=Hz (show ∀ v ∈ List.replicate c (Value.int .i64 a),v.oneCell'=true from fun v hv=>by rw [(List.mem_replicate.1 hv).2];rfl);have HROW:=Hz (show wr.drew.setRow b ((cq a n k).take k ++ List.replicate c (Value.int .i64 a) ++ (cq a n k).drop (k+(List.replicate c (Value.int .i64 a)).length)).toArray=wr.drew.setRow b (cq a n (k+c)).toArray by rw [List.length_replicate,jg hc1.2.1]);have hnk:n-k≠0:=by omega
   have hwr:IntKind.i64.wrap ((k:Int)+c)=(k:Int)+c:=IntWalk.i64_in _ (by omega);go_wp2_with fail;refine aq (.free 0 (.free 1 (.free 2 (.free 3 (.free 4 (.free 5 (.free 6 (.run 7 (.swi [] (.free 8 (.free 9 (.fin)))))))))))) [7,8,9] (fun _=>True) (by kernel_rfl) (by kernel_rfl) trivial ?_
   iterate 7 ((first | refine ak rfl rfl fun K hK=>?_ | refine aj rfl rfl fun K hK=>?_);go_simp;refine hK _ ?_;clear hK K)
   refine aG rfl rfl rfl (fun K hK=>?_);rw [if_neg (show ¬ n=k by omega)];refine oW (.tmp 41) (.tmp 44) 50 rfl 3 Try.underlying50 (by kernel_rfl) b k (n-k) (n-k) ⟨b,0,none⟩ k n rfl rfl (cq a n k) BR.out.drew (List.replicate c (.int .i64 a)) HM2.out HSRC.out HFIT.out HONE.out ?_;rw [HROW.out];have BN:=Hz (BR.out.drew.setRow (cq a n (k+c)));have KN:=Hz (KR.out.drew.setRow (g:=b) (.inr (by rw [HBB.out];exact Nat.le_refl _)) (cq a n (k+c)).toArray);clear HROW HONE HFIT HSRC HM2 BR KR;generalize wr.drew.setRow b (cq a n (k+c)).toArray=w4 at *;refine hK _ _ ?_;clear hK K;refine aE (fun _=>True) trivial ?_
   iterate 2 ((first | refine ak rfl rfl fun K hK=>?_ | refine aj rfl rfl fun K hK=>?_);go_simp;refine hK _ ?_;clear hK K)
   refine aA ?_;go_wp2_with fail;go_roundw
   case rel=>exact ⟨k+c,hc1.2.1, .inr (by omega),by go_num,BN.out,KN.out⟩
   case measure=>simp [intOf];omega
  ·obtain rfl:k=n:=by omega
   go_wp2_with fail;go_ret;refine ⟨b,rfl,⟨by simp, .inr ⟨b,0,k,_,rfl,BR.out,Nat.le_refl _,by unfold maxLen;omega,by rw [j0 (Nat.le_refl _)];omega,?_⟩⟩,KR.out,by rw [HBB.out];exact Nat.le_refl _⟩;unfold cq;simp
end
section
open Go.RowKit
theorem sE {x:St} (h:aP x=0):x.k=1∨x.k=2∨x.k=3∨x.k=4∨x.k=5∨x.k=6∨x.k=7∨x.k=8∨x.k=9∨x.k=10∨x.k=11∨x.k=12∨x.k=13∨x.k=14∨x.k=15∨x.k=16:=by
 have h1:=(aB h).1;unfold aH at h1;by_cases h2:1≤x.k∧x.k≤16
 ·omega
 ·exfalso;apply h1;rw [if_neg (by omega),if_neg (by omega),if_neg (by omega),if_neg (by omega),if_neg (by omega)]
section
variable {w w':World} {h:bZ} {W:Wd}
theorem sF (xk xr xa xb xi xn:Int) (H:aJ w h W) (hT:W.T.length≤90000) :
  Calls Try.prog 59 #[.pointer (some ⟨h.p,0,none⟩), .agg #[.int .i64 xk, .int .i64 xr, .int .i64 xa, .int .i64 xb, .int .i64 xi, .int .i64 xn]] w (bW w h (W.do ⟨xk,xr,xa,xb,xi,xn⟩)):=by
 unfold bW;have HT:=Hz hT;have HB0:=Hz H;have hb1:ah (w.alloc (.cells #[.int .i64 xk, .int .i64 xr, .int .i64 xa, .int .i64 xb, .int .i64 xi, .int .i64 xn] 98)) w.heap.size [.int .i64 xk, .int .i64 xr, .int .i64 xa, .int .i64 xb, .int .i64 xi, .int .i64 xn] 98:=ah.newAt _ rfl rfl;have ka:=(Kz w).alloc (.cells #[.int .i64 xk, .int .i64 xr, .int .i64 xa, .int .i64 xb, .int .i64 xi, .int .i64 xn] 98);have HB1:=Hz (H.same ka);have K1:=Hz ka;have SB1:=Hz hb1;have SOW:=Hz (show ¬ h.Own w.heap.size from fun e=>by have:=H.cR e;omega);clear hb1 ka H;go_enter Try.func59,Try.ntmps59;go_upto_region 1 with fail
 generalize w.alloc (.cells #[.int .i64 xk, .int .i64 xr, .int .i64 xa, .int .i64 xb, .int .i64 xi, .int .i64 xn] 98)=w1 at *;generalize w.heap.size=sb at *;have s0:=SB1.out.cell 0;have s1:=SB1.out.cell 1;have s2:=SB1.out.cell 2;have s3:=SB1.out.cell 3;have s4:=SB1.out.cell 4;have s5:=SB1.out.cell 5;have sl:=SB1.out.lt;simp only [Lz,Ls] at s0 s1 s2 s3 s4 s5;have HSF:=Hz (fun w=>rH ⟨xk,xr,xa,xb,xi,xn⟩ w);obtain ⟨c,hc⟩:∃ c,aP ⟨xk,xr,xa,xb,xi,xn⟩=c:=⟨_,rfl⟩;rw [hc] at HSF;have HC:=Hz hc;clear hc;go_wp2_with (refine aT rfl 98 (.tmp 3) rfl [.int .i64 xk, .int .i64 xr, .int .i64 xa, .int .i64 xb, .int .i64 xi, .int .i64 xn] (by kernel_rfl) sb 0 rfl (ab s0 (ab s1 (ab s2 (ab s3 (ab s4 (ab s5 aO)))))) ?_);refine (HSF.out _).mono ?_;rintro e w2 ⟨rfl,hk⟩;have HB2:=Hz (HB1.out.same hk);have K2:=Hz (K1.out.trans hk);have SB2:=Hz (hk.ai SB1.out (fun h=>h));clear hk s0 s1 s2 s3 s4 s5 sl HSF HB1 K1 SB1;have s0:=SB2.out.cell 0;have s1:=SB2.out.cell 1;have s2:=SB2.out.cell 2;have s3:=SB2.out.cell 3;have s4:=SB2.out.cell 4;have s5:=SB2.out.cell 5;have sl:=SB2.out.lt;simp only [Lz,Ls] at s0 s1 s2 s3 s4 s5;by_cases h0:¬ c=0
 ·have HE:=Hz (show W.do ⟨xk,xr,xa,xb,xi,xn⟩=(c,W) by unfold Wd.do;rw [HC.out,if_neg h0]);have hd:(c != 0)=true:=by simpa using h0
  clear h0;go_wp2_with fail;go_ret;rw [HE.out];exact ⟨rfl,aL.same HB0.out K2.out⟩
 have h0:c=0:=Classical.not_not.1 h0;subst h0;have hcs:=sE HC.out;dsimp only at hcs;rcases hcs with rfl | rfl | rfl | rfl | rfl | rfl | rfl | rfl | rfl | rfl | rfl | rfl | rfl | rfl | rfl | rfl
 ·skip
  have hr:0≤xr∧xr<12:=(aD _).1 ((aB HC.out).2.1 (show aH 1%2=1 by decide));obtain ⟨r,rfl⟩:∃ r:Nat,xr=r:=⟨xr.toNat,by omega⟩;have hr12:r<12:=by omega
  clear hr;have hn:-cL≤xn∧xn<cL:=(aB HC.out).2.2.2.2.1 rfl;have HE:=Hz (show W.do ⟨1,r,xa,xb,xi,xn⟩=(0,W.bj r (1,xn)) by unfold Wd.do;rw [if_pos HC.out];rfl);have HV:=Hz (show W.cO (1,xn) from Wd.gW hn.1 hn.2);clear hn;obtain ⟨gr,orr,rc,erv,hgr,q1,-,-,hrs⟩:=HB2.out.cU hr12;have RS:=Hz hrs;have ERV:=Hz erv;have pl:=HB2.out.hp.lt;have h12:(r:Int)<12:=by omega
  have h12':¬ (12:Int)≤(r:Int):=by omega
  have h12n:¬ (12:Nat)≤r:=by omega
  clear erv hrs;go_wp2_with fail;refine aq (.free 0 (.free 1 (.free 2 (.free 4 (.free 6 (.pure 3 (.pure 5 (.pure 7 (.free 8 (.free 9 (.run 10 (.swi [] (.fin))))))))))))) [10] (fun w'=>w'.cell? ⟨h.p,1,none⟩=some (.slice (some ⟨gr,orr,none⟩) 12 rc)∧w'.cell? ⟨sb,1,none⟩=some (.int .i64 r)∧w'.cell? ⟨sb,5,none⟩=some (.int .i64 xn)) (by kernel_rfl) (by kernel_rfl) ⟨q1,s1,s5⟩ ?_
  iterate 10 ((first | refine ak rfl rfl fun K hK=>?_ | refine aj rfl rfl fun K hK=>?_ | refine ay rfl rfl fun K hK=>?_ | refine av rfl rfl fun K hK=>?_ | refine ax rfl rfl fun K hK=>?_);go_simp;refine hK _ ?_;clear hK K)
  refine aG rfl rfl rfl (fun K hK=>?_);refine aS 78 (.tmp 28) (.tmp 27) rfl rfl gr orr 12 rc r _ 78 (.int .i64 1) (.int .i64 xn) rfl rfl (RS.out.ae (Kz _).drew (fun _ _ h=>h)) hr12 (by kernel_rfl) rfl rfl ?_;intro wz hsz hkz hzz;refine hK _ _ ?_;clear hK K;refine aE (fun _=>True) trivial (aA ?_);have T6:=Hz (HB2.out.cV ERV.out hr12 (v:=(1,xn)) HV.out hsz (((Kz w2).drew.mono (fun _ _ h=>h.elim)).trans hkz));clear hsz hkz hzz q1 s0 s1 s2 s3 s4 s5 sl pl;go_wp2_with fail;go_ret;rw [HE.out];exact ⟨rfl,aL.aN K2.out T6.out⟩
 ·skip
  have hr:0≤xr∧xr<12:=(aD _).1 ((aB HC.out).2.1 (show aH 2%2=1 by decide));obtain ⟨r,rfl⟩:∃ r:Nat,xr=r:=⟨xr.toNat,by omega⟩;have hr12:r<12:=by omega
  clear hr;have HE:=Hz (show W.do ⟨2,r,xa,xb,xi,xn⟩=(0,W.bj r (0,0)) by unfold Wd.do;rw [if_pos HC.out];rfl);have HV:=Hz (show W.cO (0,0) from .inl ⟨rfl,rfl⟩);obtain ⟨gr,orr,rc,erv,hgr,q1,-,-,hrs⟩:=HB2.out.cU hr12;have RS:=Hz hrs;have ERV:=Hz erv;have pl:=HB2.out.hp.lt;have h12:(r:Int)<12:=by omega
  have h12':¬ (12:Int)≤(r:Int):=by omega
  have h12n:¬ (12:Nat)≤r:=by omega
  clear erv hrs;go_wp2_with fail;refine aq (.free 0 (.free 1 (.free 2 (.free 4 (.free 6 (.pure 3 (.pure 5 (.free 7 (.run 8 (.swi [] (.fin))))))))))) [8] (fun w'=>w'.cell? ⟨h.p,1,none⟩=some (.slice (some ⟨gr,orr,none⟩) 12 rc)∧w'.cell? ⟨sb,1,none⟩=some (.int .i64 r)) (by kernel_rfl) (by kernel_rfl) ⟨q1,s1⟩ ?_
  iterate 8 ((first | refine ak rfl rfl fun K hK=>?_ | refine aj rfl rfl fun K hK=>?_ | refine ay rfl rfl fun K hK=>?_ | refine av rfl rfl fun K hK=>?_ | refine ax rfl rfl fun K hK=>?_);go_simp;refine hK _ ?_;clear hK K)
  refine aG rfl rfl rfl (fun K hK=>?_);refine aS 78 (.tmp 38) (.tmp 37) rfl rfl gr orr 12 rc r _ 78 (.int .i64 0) (.int .i64 0) rfl rfl (RS.out.ae (Kz _).drew (fun _ _ h=>h)) hr12 (by kernel_rfl) rfl rfl ?_;intro wz hsz hkz hzz;refine hK _ _ ?_;clear hK K;refine aE (fun _=>True) trivial (aA ?_);have T6:=Hz (HB2.out.cV ERV.out hr12 (v:=(0,0)) HV.out hsz (((Kz w2).drew.mono (fun _ _ h=>h.elim)).trans hkz));clear hsz hkz hzz q1 s0 s1 s2 s3 s4 s5 sl pl;go_wp2_with fail;go_ret;rw [HE.out];exact ⟨rfl,aL.aN K2.out T6.out⟩
 ·skip
  have hr:0≤xr∧xr<12:=(aD _).1 ((aB HC.out).2.1 (show aH 3%2=1 by decide));obtain ⟨r,rfl⟩:∃ r:Nat,xr=r:=⟨xr.toNat,by omega⟩;have hr12:r<12:=by omega
  clear hr;have ha:0≤xa∧xa<12:=(aD _).1 ((aB HC.out).2.2.1 (show aH 3/2%2=1 by decide));obtain ⟨a,rfl⟩:∃ a:Nat,xa=a:=⟨xa.toNat,by omega⟩;have ha12:a<12:=by omega
  clear ha;have HE:=Hz (show W.do ⟨3,r,a,xb,xi,xn⟩=(0,W.bj r (W.rt a)) by unfold Wd.do;rw [if_pos HC.out];rfl);have HV:=Hz (Wd.eS HB2.out.ok (a:Int));obtain ⟨gr,orr,rc,erv,hgr,q1,-,-,hrs⟩:=HB2.out.cU hr12;have RS:=Hz hrs;have ERV:=Hz erv;have pl:=HB2.out.hp.lt;have h12:(r:Int)<12:=by omega
  have h12':¬ (12:Int)≤(r:Int):=by omega
  have h12n:¬ (12:Nat)≤r:=by omega
  clear erv hrs;obtain ⟨gr',or',rc',-,-,q1',ra0,ra1,-⟩:=HB2.out.cU ha12;rw [q1] at q1';cases q1';have hai:(a:Int)<12:=by omega
  generalize W.rt (a:Int)=v at *;obtain ⟨v1,v2⟩:=v;dsimp only at ra0 ra1;go_wp2_with fail;refine aq (.free 0 (.free 1 (.free 2 (.free 4 (.free 6 (.free 7 (.free 8 (.free 10 (.pure 3 (.pure 5 (.pure 9 (.pure 11 (.free 12 (.pure 13 (.free 14 (.run 15 (.swi [] (.fin)))))))))))))))))) [15] (fun w'=>w'.cell? ⟨h.p,1,none⟩=some (.slice (some ⟨gr,orr,none⟩) 12 rc)∧w'.cell? ⟨sb,1,none⟩=some (.int .i64 r)∧w'.cell? ⟨sb,2,none⟩=some (.int .i64 a)∧w'.cell? ⟨gr,orr+a*2,none⟩=some (.int .i64 v1)∧w'.cell? ⟨gr,orr+a*2+1,none⟩=some (.int .i64 v2)) (by kernel_rfl) (by kernel_rfl) ⟨q1,s1,s2,ra0,ra1⟩ ?_
  iterate 15 ((first | refine ak rfl rfl fun K hK=>?_ | refine aj rfl rfl fun K hK=>?_ | refine ay rfl rfl fun K hK=>?_ | refine av rfl rfl fun K hK=>?_ | refine ax rfl rfl fun K hK=>?_);go_simp;refine hK _ ?_;clear hK K)
  refine aG rfl rfl rfl (fun K hK=>?_);refine aS 78 (.tmp 55) (.tmp 54) rfl rfl gr orr 12 rc r _ 78 (.int .i64 v1) (.int .i64 v2) rfl rfl (RS.out.ae (Kz _).drew (fun _ _ h=>h)) hr12 (by kernel_rfl) rfl rfl ?_;intro wz hsz hkz hzz;refine hK _ _ ?_;clear hK K;refine aE (fun _=>True) trivial (aA ?_);have T6:=Hz (HB2.out.cV ERV.out hr12 (v:=(v1,v2)) HV.out hsz (((Kz w2).drew.mono (fun _ _ h=>h.elim)).trans hkz));clear hsz hkz hzz q1 s0 s1 s2 s3 s4 s5 sl pl;go_wp2_with fail;go_ret;rw [HE.out];exact ⟨rfl,aL.aN K2.out T6.out⟩
 ·skip
  have hr:0≤xr∧xr<12:=(aD _).1 ((aB HC.out).2.1 (show aH 4%2=1 by decide));obtain ⟨r,rfl⟩:∃ r:Nat,xr=r:=⟨xr.toNat,by omega⟩;have hr12:r<12:=by omega
  clear hr;have ha:0≤xa∧xa<12:=(aD _).1 ((aB HC.out).2.2.1 (show aH 4/2%2=1 by decide));obtain ⟨a,rfl⟩:∃ a:Nat,xa=a:=⟨xa.toNat,by omega⟩;have ha12:a<12:=by omega
  clear ha;have hb:0≤xb∧xb<12:=(aD _).1 ((aB HC.out).2.2.2.1 (show aH 4/4%2=1 by decide));obtain ⟨b,rfl⟩:∃ b:Nat,xb=b:=⟨xb.toNat,by omega⟩;have hb12:b<12:=by omega
  clear hb;have HE:=Hz (show W.do ⟨4,r,a,b,xi,xn⟩=W.bO r 1 ([a,b].map fun (k:Nat)=>(k:Int)) by unfold Wd.do;rw [if_pos HC.out];rfl);have ka:=(Kz w2).alloc (.cells #[.int .i64 a, .int .i64 b] 3);have hbl:ah (w2.alloc (.cells #[.int .i64 a, .int .i64 b] 3)) w2.heap.size [.int .i64 a, .int .i64 b] 3:=ah.newAt _ rfl rfl;have HMK:=Hz (hH r 1 [a,b] (some ⟨w2.heap.size,0,none⟩) 2 (HB2.out.same ka) HT.out hr12 (by intro k hk;simp at hk;omega) (show aW 1 2=true by decide) ⟨rfl, .inr ⟨_,0,2,_,rfl,hbl,Nat.le_refl _,by unfold maxLen;omega,by simp,rfl⟩⟩);have HKA:=Hz ka;clear ka hbl;go_wp2_with fail;refine HMK.out.mono ?_;rintro e w3 ⟨rfl,ht⟩;have TO:=Hz (aL.aN (K2.out.trans HKA.out) ht);clear ht s0 s1 s2 s3 s4 s5 sl HMK;go_wp2_with fail;go_ret;rw [HE.out];exact ⟨rfl,TO.out⟩
 ·skip
  have hr:0≤xr∧xr<12:=(aD _).1 ((aB HC.out).2.1 (show aH 5%2=1 by decide));obtain ⟨r,rfl⟩:∃ r:Nat,xr=r:=⟨xr.toNat,by omega⟩;have hr12:r<12:=by omega
  clear hr;have ha:0≤xa∧xa<12:=(aD _).1 ((aB HC.out).2.2.1 (show aH 5/2%2=1 by decide));obtain ⟨a,rfl⟩:∃ a:Nat,xa=a:=⟨xa.toNat,by omega⟩;have ha12:a<12:=by omega
  clear ha;have hn:0≤xn∧xn≤12:=(aB HC.out).2.2.2.2.2 rfl;obtain ⟨n,rfl⟩:∃ n:Nat,xn=n:=⟨xn.toNat,by omega⟩;have hn12:n≤12:=by omega
  have hrl:(List.replicate n a).length=n:=List.length_replicate;have hvr:fx (List.replicate n a)=List.replicate n (.int .i64 (a:Int)):=by simp [fx]
  have HE:=Hz (show W.do ⟨5,r,a,xb,xi,n⟩=W.bO r 2 ((List.replicate n a).map fun (k:Nat)=>(k:Int)) by
   rw [List.map_replicate]
   unfold Wd.do;rw [if_pos HC.out];rfl)
  clear hn;have HRL:=Hz hrl;have HVR:=Hz hvr;clear hrl hvr;go_wp2_with fail;refine aq (.free 0 (.free 1 (.free 3 (.free 6 (.pure 2 (.pure 4 (.pure 7 (.run 5 (.run 8 (.run 9 (.swi [] (.free 10 (.fin))))))))))))) [9,10] (fun w'=>w'.cell? ⟨sb,1,none⟩=some (.int .i64 r)∧w'.cell? ⟨sb,2,none⟩=some (.int .i64 a)∧w'.cell? ⟨sb,5,none⟩=some (.int .i64 n)) (by kernel_rfl) (by kernel_rfl) ⟨s1,s2,s5⟩ ?_
  iterate 7 ((first | refine ak rfl rfl fun K hK=>?_ | refine aj rfl rfl fun K hK=>?_ | refine ay rfl rfl fun K hK=>?_ | refine av rfl rfl fun K hK=>?_ | refine ax rfl rfl fun K hK=>?_);go_simp;refine hK _ ?_;clear hK K)
  refine aZ rfl rfl (fun K hK=>?_);unfold aM;go_simp;have ka:aa (fun _=>False) w2 ((w2.alloc (.cells #[.int .i64 a] 3)).drew):=((Kz w2).alloc (.cells #[.int .i64 a] 3)).drew;have hbl:ah ((w2.alloc (.cells #[.int .i64 a] 3)).drew) w2.heap.size [.int .i64 (a:Int)] 3:=ah.drew (ah.newAt _ rfl rfl);refine hK _ _ (fun _=>⟨(ka.ai SB2.out (fun h=>h)).cell 1,(ka.ai SB2.out (fun h=>h)).cell 2,(ka.ai SB2.out (fun h=>h)).cell 5⟩) ?_;clear hK K;refine aZ rfl rfl (fun K hK=>?_);unfold aM;go_simp;refine (qs a n w2.heap.size 0 1 hn12 _ (hbl.cell 0) hbl.lt).mono ?_;rintro e w4 ⟨b,rfl,hs4,hk4,hb4⟩;have K4:=Hz (ka.trans hk4);have S4:=Hz hs4;clear ka hbl hk4 hb4 hs4;refine hK _ _ (fun _=>⟨(K4.out.ai SB2.out (fun h=>h)).cell 1,(K4.out.ai SB2.out (fun h=>h)).cell 2,(K4.out.ai SB2.out (fun h=>h)).cell 5⟩) ?_;clear hK K;refine aG rfl rfl rfl (fun K hK=>?_);unfold aM;go_simp;have hmk:=hH r 2 (List.replicate n a) (some ⟨b,0,none⟩) n (HB2.out.same K4.out) HT.out hr12 (fun j hj=>by rw [(List.mem_replicate.1 hj).2];exact ha12) (by rw [HRL.out];simp [aW];omega) (by rw [HRL.out,HVR.out];exact S4.out);rw [HRL.out] at hmk;refine hmk.mono ?_;rintro e w5 ⟨rfl,ht⟩;have TO:=Hz (aL.aN (K2.out.trans K4.out) ht);refine hK _ _ ?_;clear hK K ht hmk s0 s1 s2 s3 s4 s5 sl;refine aE (fun _=>True) trivial ?_
  iterate 1 ((first | refine ak rfl rfl fun K hK=>?_ | refine aj rfl rfl fun K hK=>?_);go_simp;refine hK _ ?_;clear hK K)
  refine aA ?_;go_wp2_with fail;go_ret;rw [HE.out];refine ⟨?_,TO.out⟩
  (try rw [List.map_replicate])
  rfl
 ·skip
  have hr:0≤xr∧xr<12:=(aD _).1 ((aB HC.out).2.1 (show aH 6%2=1 by decide));obtain ⟨r,rfl⟩:∃ r:Nat,xr=r:=⟨xr.toNat,by omega⟩;have hr12:r<12:=by omega
  clear hr;have ha:0≤xa∧xa<12:=(aD _).1 ((aB HC.out).2.2.1 (show aH 6/2%2=1 by decide));obtain ⟨a,rfl⟩:∃ a:Nat,xa=a:=⟨xa.toNat,by omega⟩;have ha12:a<12:=by omega
  clear ha;have hb:0≤xb∧xb<12:=(aD _).1 ((aB HC.out).2.2.2.1 (show aH 6/4%2=1 by decide));obtain ⟨b,rfl⟩:∃ b:Nat,xb=b:=⟨xb.toNat,by omega⟩;have hb12:b<12:=by omega
  clear hb;have HE:=Hz (show W.do ⟨6,r,a,b,xi,xn⟩=W.bO r 3 ([a,b].map fun (k:Nat)=>(k:Int)) by unfold Wd.do;rw [if_pos HC.out];rfl);have ka:=(Kz w2).alloc (.cells #[.int .i64 a, .int .i64 b] 3);have hbl:ah (w2.alloc (.cells #[.int .i64 a, .int .i64 b] 3)) w2.heap.size [.int .i64 a, .int .i64 b] 3:=ah.newAt _ rfl rfl;have HMK:=Hz (hH r 3 [a,b] (some ⟨w2.heap.size,0,none⟩) 2 (HB2.out.same ka) HT.out hr12 (by intro k hk;simp at hk;omega) (show aW 3 2=true by decide) ⟨rfl, .inr ⟨_,0,2,_,rfl,hbl,Nat.le_refl _,by unfold maxLen;omega,by simp,rfl⟩⟩);have HKA:=Hz ka;clear ka hbl;go_wp2_with fail;refine HMK.out.mono ?_;rintro e w3 ⟨rfl,ht⟩;have TO:=Hz (aL.aN (K2.out.trans HKA.out) ht);clear ht s0 s1 s2 s3 s4 s5 sl HMK;go_wp2_with fail;go_ret;rw [HE.out];exact ⟨rfl,TO.out⟩
 ·skip
  have hr:0≤xr∧xr<12:=(aD _).1 ((aB HC.out).2.1 (show aH 7%2=1 by decide));obtain ⟨r,rfl⟩:∃ r:Nat,xr=r:=⟨xr.toNat,by omega⟩;have hr12:r<12:=by omega
  clear hr;have ha:0≤xa∧xa<12:=(aD _).1 ((aB HC.out).2.2.1 (show aH 7/2%2=1 by decide));obtain ⟨a,rfl⟩:∃ a:Nat,xa=a:=⟨xa.toNat,by omega⟩;have ha12:a<12:=by omega
  clear ha;have hb:0≤xb∧xb<12:=(aD _).1 ((aB HC.out).2.2.2.1 (show aH 7/4%2=1 by decide));obtain ⟨b,rfl⟩:∃ b:Nat,xb=b:=⟨xb.toNat,by omega⟩;have hb12:b<12:=by omega
  clear hb;have HE:=Hz (show W.do ⟨7,r,a,b,xi,xn⟩=W.bO r 4 ([a,b].map fun (k:Nat)=>(k:Int)) by unfold Wd.do;rw [if_pos HC.out];rfl);have ka:=(Kz w2).alloc (.cells #[.int .i64 a, .int .i64 b] 3);have hbl:ah (w2.alloc (.cells #[.int .i64 a, .int .i64 b] 3)) w2.heap.size [.int .i64 a, .int .i64 b] 3:=ah.newAt _ rfl rfl;have HMK:=Hz (hH r 4 [a,b] (some ⟨w2.heap.size,0,none⟩) 2 (HB2.out.same ka) HT.out hr12 (by intro k hk;simp at hk;omega) (show aW 4 2=true by decide) ⟨rfl, .inr ⟨_,0,2,_,rfl,hbl,Nat.le_refl _,by unfold maxLen;omega,by simp,rfl⟩⟩);have HKA:=Hz ka;clear ka hbl;go_wp2_with fail;refine HMK.out.mono ?_;rintro e w3 ⟨rfl,ht⟩;have TO:=Hz (aL.aN (K2.out.trans HKA.out) ht);clear ht s0 s1 s2 s3 s4 s5 sl HMK;go_wp2_with fail;go_ret;rw [HE.out];exact ⟨rfl,TO.out⟩
 ·skip
  have hr:0≤xr∧xr<12:=(aD _).1 ((aB HC.out).2.1 (show aH 8%2=1 by decide));obtain ⟨r,rfl⟩:∃ r:Nat,xr=r:=⟨xr.toNat,by omega⟩;have hr12:r<12:=by omega
  clear hr;have HE:=Hz (show W.do ⟨8,r,xa,xb,xi,xn⟩=W.bO r 5 (([]:List Nat).map fun (k:Nat)=>(k:Int)) by unfold Wd.do;rw [if_pos HC.out];rfl);have HMK:=Hz (hH r 5 [] none 0 HB2.out HT.out hr12 (by intro k hk;cases hk) (show aW 5 0=true by decide) (Sl.nil _ _ _));go_wp2_with fail;refine HMK.out.mono ?_;rintro e w3 ⟨rfl,ht⟩;have TO:=Hz (aL.aN K2.out ht);clear ht s0 s1 s2 s3 s4 s5 sl HMK;go_wp2_with fail;go_ret;rw [HE.out];exact ⟨rfl,TO.out⟩
 ·skip
  have ha:0≤xa∧xa<12:=(aD _).1 ((aB HC.out).2.2.1 (show aH 9/2%2=1 by decide));obtain ⟨a,rfl⟩:∃ a:Nat,xa=a:=⟨xa.toNat,by omega⟩;have ha12:a<12:=by omega
  clear ha;have hb:0≤xb∧xb<12:=(aD _).1 ((aB HC.out).2.2.2.1 (show aH 9/4%2=1 by decide));obtain ⟨b,rfl⟩:∃ b:Nat,xb=b:=⟨xb.toNat,by omega⟩;have hb12:b<12:=by omega
  clear hb;have HE:=Hz (show W.do ⟨9,xr,a,b,xi,xn⟩=W.fC ⟨9,xr,a,b,xi,xn⟩ by unfold Wd.do;rw [if_pos HC.out];rfl);have HCL:=Hz (sD a b xr xi xn HB2.out ha12 hb12);unfold bW at HCL;go_wp2_with (refine aT rfl 98 (.tmp 3) rfl [.int .i64 9, .int .i64 xr, .int .i64 a, .int .i64 b, .int .i64 xi, .int .i64 xn] (by kernel_rfl) sb 0 rfl (ab s0 (ab s1 (ab s2 (ab s3 (ab s4 (ab s5 aO)))))) ?_);refine HCL.out.mono ?_;rintro e w3 ⟨rfl,ht⟩;have TO:=Hz (aL.aN K2.out ht);clear ht s0 s1 s2 s3 s4 s5 sl HCL;go_wp2_with fail;go_ret;rw [HE.out];exact ⟨rfl,TO.out⟩
 ·skip
  have hr:0≤xr∧xr<12:=(aD _).1 ((aB HC.out).2.1 (show aH 10%2=1 by decide));obtain ⟨r,rfl⟩:∃ r:Nat,xr=r:=⟨xr.toNat,by omega⟩;have hr12:r<12:=by omega
  clear hr;have ha:0≤xa∧xa<12:=(aD _).1 ((aB HC.out).2.2.1 (show aH 10/2%2=1 by decide));obtain ⟨a,rfl⟩:∃ a:Nat,xa=a:=⟨xa.toNat,by omega⟩;have ha12:a<12:=by omega
  clear ha;have HE:=Hz (show W.do ⟨10,r,a,xb,xi,xn⟩=W.pop ⟨10,r,a,xb,xi,xn⟩ by unfold Wd.do;rw [if_pos HC.out];rfl);have HCL:=Hz (rO r a xb xi xn HB2.out hr12 ha12);unfold bW at HCL;go_wp2_with (refine aT rfl 98 (.tmp 3) rfl [.int .i64 10, .int .i64 r, .int .i64 a, .int .i64 xb, .int .i64 xi, .int .i64 xn] (by kernel_rfl) sb 0 rfl (ab s0 (ab s1 (ab s2 (ab s3 (ab s4 (ab s5 aO)))))) ?_);refine HCL.out.mono ?_;rintro e w3 ⟨rfl,ht⟩;have TO:=Hz (aL.aN K2.out ht);clear ht s0 s1 s2 s3 s4 s5 sl HCL;go_wp2_with fail;go_ret;rw [HE.out];exact ⟨rfl,TO.out⟩
 ·skip
  have hr:0≤xr∧xr<12:=(aD _).1 ((aB HC.out).2.1 (show aH 11%2=1 by decide));obtain ⟨r,rfl⟩:∃ r:Nat,xr=r:=⟨xr.toNat,by omega⟩;have hr12:r<12:=by omega
  clear hr;have ha:0≤xa∧xa<12:=(aD _).1 ((aB HC.out).2.2.1 (show aH 11/2%2=1 by decide));obtain ⟨a,rfl⟩:∃ a:Nat,xa=a:=⟨xa.toNat,by omega⟩;have ha12:a<12:=by omega
  clear ha;have HCF:=Hz (mE a xi ⟨11,r,a,xb,xi,xn⟩ rfl rfl ha12 HB2.out);have HE:=Hz (show W.do ⟨11,r,a,xb,xi,xn⟩=W.get ⟨11,r,a,xb,xi,xn⟩ by unfold Wd.do;rw [if_pos HC.out];rfl);have HFA:=Hz (fun h=>Wd.iw (W:=W) (x:=⟨11,r,a,xb,xi,xn⟩) h);have HEN:=Hz (show W.aV ⟨11,r,a,xb,xi,xn⟩≠0→W.get ⟨11,r,a,xb,xi,xn⟩=(W.aV ⟨11,r,a,xb,xi,xn⟩,W) from fun h=>by unfold Wd.get;rw [if_neg h]);go_wp2_with fail;refine HCF.out.mono ?_;rintro e w3 ⟨⟨p,rfl,hp⟩,hk⟩;have HB3:=Hz (HB2.out.same hk);have K3:=Hz (K2.out.trans hk);have SB3:=Hz (hk.ai SB2.out (fun h=>h));have HPP:=Hz hp;clear hk hp s0 s1 s2 s3 s4 s5 sl HCF;have s0:=SB3.out.cell 0;have s1:=SB3.out.cell 1;have s2:=SB3.out.cell 2;have s3:=SB3.out.cell 3;have s4:=SB3.out.cell 4;have s5:=SB3.out.cell 5;have sl:=SB3.out.lt;simp only [Lz,Ls] at s0 s1 s2 s3 s4 s5;by_cases hf0:¬ W.aV ⟨11,r,a,xb,xi,xn⟩=0
  ·have HEE:=Hz (HE.out.trans (HEN.out hf0));have hd:(W.aV ⟨11,r,a,xb,xi,xn⟩ != 0)=true:=by simpa using hf0
   clear hf0;generalize W.aV ⟨11,r,a,xb,xi,xn⟩=c at *;go_wp2_with fail;go_ret;rw [HEE.out];exact ⟨rfl,aL.same HB0.out K3.out⟩
  have hf0:W.aV ⟨11,r,a,xb,xi,xn⟩=0:=Classical.not_not.1 hf0;have hfa:=HFA.out hf0
  try dsimp only at hfa
  obtain ⟨hta,h5,hi0,hi1⟩:=hfa;have hla:=Wd.bI HB3.out.ok (k:=(a:Int)) (by omega);obtain ⟨gf,of,fc,efv,rfl⟩:=HPP.out hf0;obtain ⟨g1,o1,nc1,fo1,fc1,-,-,-,-,efv1,hfs⟩:=HB3.out.rowAt hla;rw [efv] at efv1;cases efv1;obtain ⟨i,rfl⟩:=Int.eq_ofNat_of_zero_le hi0;have hil:i<(W.th (W.aw a)).fs.length:=by omega
  have HEE:=Hz (show W.do ⟨11,r,a,xb,i,xn⟩=(0,W.bj r ((W.th (W.aw a)).fs.getD i (0,0))) by rw [HE.out];unfold Wd.get;rw [if_pos hf0];rfl);have hin:(W.th (W.aw a)).fs.getD i (0,0) ∈ (W.th (W.aw a)).fs:=by rw [Ld,Le hil];exact List.getElem_mem hil
  have HV:=Hz (HB3.out.ok.tv _ hla _ hin);obtain ⟨_,_,e',hrd,-,-⟩:=hfs.rd;cases e';obtain ⟨gf',of',e',hgf,u0,u1⟩:=hrd.dM i hil;cases e';obtain ⟨gr,orr,rc,erv,hgr,q1,-,-,hrs⟩:=HB3.out.cU hr12;have RS:=Hz hrs;have ERV:=Hz erv;have pl:=HB3.out.hp.lt;have h12:(r:Int)<12:=by omega
  have h12':¬ (12:Int)≤(r:Int):=by omega
  have h12n:¬ (12:Nat)≤r:=by omega
  clear erv hrs;have HE:=HEE;clear hin hil hfs hrd hla h5 hta hi0 hi1 efv HFA HEN HPP HEE;generalize (W.th (W.aw a)).fs.getD i (0,0)=v at *;obtain ⟨v1,v2⟩:=v;dsimp only at u0 u1;rw [hf0];simp only [Int.toNat_natCast];clear hf0;go_wp2_with fail;refine aq (.free 0 (.free 1 (.free 2 (.free 4 (.free 6 (.free 7 (.pure 3 (.pure 5 (.pure 8 (.free 9 (.run 10 (.swi [] (.fin))))))))))))) [10] (fun w'=>w'.cell? ⟨h.p,1,none⟩=some (.slice (some ⟨gr,orr,none⟩) 12 rc)∧w'.cell? ⟨sb,1,none⟩=some (.int .i64 r)∧w'.cell? ⟨gf,of+i*2,none⟩=some (.int .i64 v1)∧w'.cell? ⟨gf,of+i*2+1,none⟩=some (.int .i64 v2)) (by kernel_rfl) (by kernel_rfl) ⟨q1,s1,u0,u1⟩ ?_
  iterate 10 ((first | refine ak rfl rfl fun K hK=>?_ | refine aj rfl rfl fun K hK=>?_ | refine ay rfl rfl fun K hK=>?_ | refine av rfl rfl fun K hK=>?_ | refine ax rfl rfl fun K hK=>?_);go_simp;refine hK _ ?_;clear hK K)
  refine aG rfl rfl rfl (fun K hK=>?_);refine aS 78 (.tmp 136) (.tmp 135) rfl rfl gr orr 12 rc r _ 78 (.int .i64 v1) (.int .i64 v2) rfl rfl (RS.out.ae (Kz _).drew (fun _ _ h=>h)) hr12 (by kernel_rfl) rfl rfl ?_;intro wz hsz hkz hzz;refine hK _ _ ?_;clear hK K;refine aE (fun _=>True) trivial (aA ?_);have T6:=Hz (HB3.out.cV ERV.out hr12 (v:=(v1,v2)) HV.out hsz (((Kz w3).drew.mono (fun _ _ h=>h.elim)).trans hkz));clear hsz hkz hzz q1 s0 s1 s2 s3 s4 s5 sl pl;go_wp2_with fail;go_ret;rw [HE.out];exact ⟨rfl,aL.aN K3.out T6.out⟩
 ·skip
  have ha:0≤xa∧xa<12:=(aD _).1 ((aB HC.out).2.2.1 (show aH 12/2%2=1 by decide));obtain ⟨a,rfl⟩:∃ a:Nat,xa=a:=⟨xa.toNat,by omega⟩;have ha12:a<12:=by omega
  clear ha;have hb:0≤xb∧xb<12:=(aD _).1 ((aB HC.out).2.2.2.1 (show aH 12/4%2=1 by decide));obtain ⟨b,rfl⟩:∃ b:Nat,xb=b:=⟨xb.toNat,by omega⟩;have hb12:b<12:=by omega
  clear hb;have HCF:=Hz (mE a xi ⟨12,xr,a,b,xi,xn⟩ rfl rfl ha12 HB2.out);have HE:=Hz (show W.do ⟨12,xr,a,b,xi,xn⟩=W.set ⟨12,xr,a,b,xi,xn⟩ by unfold Wd.do;rw [if_pos HC.out];rfl);have HFA:=Hz (fun h=>Wd.iw (W:=W) (x:=⟨12,xr,a,b,xi,xn⟩) h);have HEN:=Hz (show W.aV ⟨12,xr,a,b,xi,xn⟩≠0→W.set ⟨12,xr,a,b,xi,xn⟩=(W.aV ⟨12,xr,a,b,xi,xn⟩,W) from fun h=>by unfold Wd.set;rw [if_neg h]);go_wp2_with fail;refine HCF.out.mono ?_;rintro e w3 ⟨⟨p,rfl,hp⟩,hk⟩;have HB3:=Hz (HB2.out.same hk);have K3:=Hz (K2.out.trans hk);have SB3:=Hz (hk.ai SB2.out (fun h=>h));have HPP:=Hz hp;clear hk hp s0 s1 s2 s3 s4 s5 sl HCF;have s0:=SB3.out.cell 0;have s1:=SB3.out.cell 1;have s2:=SB3.out.cell 2;have s3:=SB3.out.cell 3;have s4:=SB3.out.cell 4;have s5:=SB3.out.cell 5;have sl:=SB3.out.lt;simp only [Lz,Ls] at s0 s1 s2 s3 s4 s5;by_cases hf0:¬ W.aV ⟨12,xr,a,b,xi,xn⟩=0
  ·have HEE:=Hz (HE.out.trans (HEN.out hf0));have hd:(W.aV ⟨12,xr,a,b,xi,xn⟩ != 0)=true:=by simpa using hf0
   clear hf0;generalize W.aV ⟨12,xr,a,b,xi,xn⟩=c at *;go_wp2_with fail;go_ret;rw [HEE.out];exact ⟨rfl,aL.same HB0.out K3.out⟩
  have hf0:W.aV ⟨12,xr,a,b,xi,xn⟩=0:=Classical.not_not.1 hf0;have hfa:=HFA.out hf0
  try dsimp only at hfa
  obtain ⟨hta,h5,hi0,hi1⟩:=hfa;have hla:=Wd.bI HB3.out.ok (k:=(a:Int)) (by omega);obtain ⟨gf,of,fc,efv,rfl⟩:=HPP.out hf0;obtain ⟨g1,o1,nc1,fo1,fc1,-,-,-,-,efv1,hfs⟩:=HB3.out.rowAt hla;rw [efv] at efv1;cases efv1;obtain ⟨i,rfl⟩:=Int.eq_ofNat_of_zero_le hi0;have hil:i<(W.th (W.aw a)).fs.length:=by omega
  have HEE:=Hz (show W.do ⟨12,xr,a,b,i,xn⟩=(0,W.bU (W.aw a) ((W.th (W.aw a)).fs.set i (W.rt b))) by rw [HE.out];unfold Wd.set;rw [if_pos hf0];rfl);have HVB:=Hz (Wd.eS HB3.out.ok (b:Int));have HTV:=Hz (HB3.out.ok.tv _ hla);obtain ⟨gr,orr,rc,-,hgr,q1,rb0,rb1,-⟩:=HB3.out.cU hb12;have pl:=HB3.out.hp.lt;obtain ⟨ti,hti⟩:=Int.eq_ofNat_of_zero_le hla.1;have HFS:=Hz hfs;have HLA:=Hz hla;have HEF:=Hz efv;have HTI:=Hz hti;have HIL:=Hz hil;clear hil hfs hla h5 hta hi0 hi1 efv HFA HEN HPP hti HE;have hbi:(b:Int)<12:=by omega
  rw [hf0];simp only [Int.toNat_natCast];clear hf0;generalize W.rt (b:Int)=v at *;obtain ⟨v1,v2⟩:=v;dsimp only at rb0 rb1;go_wp2_with fail;refine aq (.free 0 (.free 1 (.free 2 (.free 3 (.free 5 (.pure 4 (.pure 6 (.free 7 (.pure 8 (.free 9 (.run 10 (.swi [] (.fin))))))))))))) [10] (fun w'=>w'.cell? ⟨h.p,1,none⟩=some (.slice (some ⟨gr,orr,none⟩) 12 rc)∧w'.cell? ⟨sb,3,none⟩=some (.int .i64 b)∧w'.cell? ⟨gr,orr+b*2,none⟩=some (.int .i64 v1)∧w'.cell? ⟨gr,orr+b*2+1,none⟩=some (.int .i64 v2)) (by kernel_rfl) (by kernel_rfl) ⟨q1,s3,rb0,rb1⟩ ?_
  iterate 10 ((first | refine ak rfl rfl fun K hK=>?_ | refine aj rfl rfl fun K hK=>?_ | refine ay rfl rfl fun K hK=>?_ | refine av rfl rfl fun K hK=>?_ | refine ax rfl rfl fun K hK=>?_);go_simp;refine hK _ ?_;clear hK K)
  refine aG rfl rfl rfl (fun K hK=>?_);refine aS 78 (.tmp 160) (.tmp 159) rfl rfl gf of (W.th (W.aw a)).fs.length fc i _ 78 (.int .i64 v1) (.int .i64 v2) rfl rfl (HFS.out.ae (Kz _).drew (fun _ _ h=>h)) HIL.out (by kernel_rfl) rfl rfl ?_;intro wz hsz hkz hzz;refine hK _ _ ?_;clear hK K;refine aE (fun _=>True) trivial (aA ?_);have T6:=Hz (show aL w3 h wz (W.bU (W.aw a) ((W.th (W.aw a)).fs.set i (v1,v2))) by
   have hla:=HLA.out;have hef:=HEF.out;have hte:∀ u ∈ (W.th (W.aw a)).fs.set i (v1,v2),W.cO u:=fun u hu=>by
    rcases List.mem_or_eq_of_mem_set hu with h1 | h1
    ·exact HTV.out u h1
    ·rw [h1];exact HVB.out
   rw [←dp (W.th (W.aw a)).fs i (v1,v2)] at hsz;have hl2:((W.th (W.aw a)).fs.set i (v1,v2)).length=(W.th (W.aw a)).fs.length:=List.length_set;generalize hth:W.aw a=th at *;obtain rfl:th=(ti:Int):=HTI.out;rw [Int.toNat_natCast] at hef
   exact HB3.out.jq hla hl2 hte (g:=gf) (by rw [hef];rfl) (by rw [hef,hl2];exact hsz) (((Kz w3).drew.mono (fun _ _ h=>h.elim)).trans hkz))
  clear hsz hkz hzz q1 s0 s1 s2 s3 s4 s5 sl pl rb0 rb1;go_wp2_with fail;go_ret;rw [HEE.out];exact ⟨rfl,aL.aN K3.out T6.out⟩
 ·skip
  have hr:0≤xr∧xr<12:=(aD _).1 ((aB HC.out).2.1 (show aH 13%2=1 by decide));obtain ⟨r,rfl⟩:∃ r:Nat,xr=r:=⟨xr.toNat,by omega⟩;have hr12:r<12:=by omega
  clear hr;have ha:0≤xa∧xa<12:=(aD _).1 ((aB HC.out).2.2.1 (show aH 13/2%2=1 by decide));obtain ⟨a,rfl⟩:∃ a:Nat,xa=a:=⟨xa.toNat,by omega⟩;have ha12:a<12:=by omega
  clear ha;have HE:=Hz (show W.do ⟨13,r,a,xb,xi,xn⟩=W.len ⟨13,r,a,xb,xi,xn⟩ by unfold Wd.do;rw [if_pos HC.out];rfl);have HCL:=Hz (rP r a xb xi xn HB2.out hr12 ha12);unfold bW at HCL;go_wp2_with (refine aT rfl 98 (.tmp 3) rfl [.int .i64 13, .int .i64 r, .int .i64 a, .int .i64 xb, .int .i64 xi, .int .i64 xn] (by kernel_rfl) sb 0 rfl (ab s0 (ab s1 (ab s2 (ab s3 (ab s4 (ab s5 aO)))))) ?_);refine HCL.out.mono ?_;rintro e w3 ⟨rfl,ht⟩;have TO:=Hz (aL.aN K2.out ht);clear ht s0 s1 s2 s3 s4 s5 sl HCL;go_wp2_with fail;go_ret;rw [HE.out];exact ⟨rfl,TO.out⟩
 ·skip
  have hr:0≤xr∧xr<12:=(aD _).1 ((aB HC.out).2.1 (show aH 14%2=1 by decide));obtain ⟨r,rfl⟩:∃ r:Nat,xr=r:=⟨xr.toNat,by omega⟩;have hr12:r<12:=by omega
  clear hr;have ha:0≤xa∧xa<12:=(aD _).1 ((aB HC.out).2.2.1 (show aH 14/2%2=1 by decide));obtain ⟨a,rfl⟩:∃ a:Nat,xa=a:=⟨xa.toNat,by omega⟩;have ha12:a<12:=by omega
  clear ha;have hb:0≤xb∧xb<12:=(aD _).1 ((aB HC.out).2.2.2.1 (show aH 14/4%2=1 by decide));obtain ⟨b,rfl⟩:∃ b:Nat,xb=b:=⟨xb.toNat,by omega⟩;have hb12:b<12:=by omega
  clear hb;have HE:=Hz (show W.do ⟨14,r,a,b,xi,xn⟩=W.same ⟨14,r,a,b,xi,xn⟩ by unfold Wd.do;rw [if_pos HC.out];rfl);have HCL:=Hz (qq r a b xi xn HB2.out hr12 ha12 hb12);unfold bW at HCL;go_wp2_with (refine aT rfl 98 (.tmp 3) rfl [.int .i64 14, .int .i64 r, .int .i64 a, .int .i64 b, .int .i64 xi, .int .i64 xn] (by kernel_rfl) sb 0 rfl (ab s0 (ab s1 (ab s2 (ab s3 (ab s4 (ab s5 aO)))))) ?_);refine HCL.out.mono ?_;rintro e w3 ⟨rfl,ht⟩;have TO:=Hz (aL.aN K2.out ht);clear ht s0 s1 s2 s3 s4 s5 sl HCL;go_wp2_with fail;go_ret;rw [HE.out];exact ⟨rfl,TO.out⟩
 ·have HE:=Hz (show W.do ⟨15,xr,xa,xb,xi,xn⟩=W.cut false by unfold Wd.do;rw [if_pos HC.out];rfl);have HCU:=Hz (mx false HB2.out (by have:=HT.out;omega));go_wp2_with fail;refine HCU.out.mono ?_;rintro e w3 ⟨rfl,ht⟩;have TO:=Hz (aL.aN K2.out ht);clear ht s0 s1 s2 s3 s4 s5 sl HCU;go_wp2_with fail;go_ret;rw [HE.out];exact ⟨rfl,TO.out⟩
 ·have HE:=Hz (show W.do ⟨16,xr,xa,xb,xi,xn⟩=W.cut true by unfold Wd.do;rw [if_pos HC.out];rfl);have HCU:=Hz (mx true HB2.out (by have:=HT.out;omega));go_wp2_with fail;refine HCU.out.mono ?_;rintro e w3 ⟨rfl,ht⟩;have TO:=Hz (aL.aN K2.out ht);clear ht s0 s1 s2 s3 s4 s5 sl HCU;go_wp2_with fail;go_ret;rw [HE.out];exact ⟨rfl,TO.out⟩
end
end
section
open Go.RowKit
def gM (n:Nat) (met:List Int):List Value:=(List.range n).map fun (i:Nat)=>Value.int .i64 (if (i:Int) ∈ met then ((met.idxOf (i:Int):Nat):Int)+1 else 0)
theorem gN (n:Nat) (met:List Int):(gM n met).length=n:=by simp [gM]
theorem iC {n:Nat} {met:List Int} {i:Nat} (h:i<n):(gM n met)[i]? = some (.int .i64 (if (i:Int) ∈ met then ((met.idxOf (i:Int):Nat):Int)+1 else 0)):=by
 unfold gM;rw [List.getElem?_map,List.getElem?_range h];rfl
theorem pB (n:Nat):gM n []=List.replicate n (.int .i64 0):=by
 apply List.ext_getElem?;intro i;by_cases h:i<n
 ·rw [iC h,List.getElem?_replicate,if_pos h];simp
 ·rw [List.getElem?_eq_none (by rw [gN];omega),List.getElem?_eq_none (by simp;omega)]
theorem oe {n:Nat} {met:List Int} {x:Nat} (hx:x<n) (hm:¬ (x:Int) ∈ met):(gM n met).set x (.int .i64 ((met.length:Int)+1))=gM n (met ++ [(x:Int)]):=by
 apply List.ext_getElem?;intro i;rw [List.getElem?_set];by_cases h:i<n
 ·have r1:=iC (met:=met) h;have r2:=iC (met:=met ++ [(x:Int)]) h;rw [r2,r1];by_cases e:x=i
  ·subst e;rw [if_pos rfl,if_pos (by rw [gN];exact h),if_pos (by simp),List.idxOf_append,if_neg hm];simp
  ·rw [if_neg e];have hne:¬ (i:Int)=(x:Int):=by omega
   by_cases h1:(i:Int) ∈ met
   ·rw [if_pos h1,if_pos (by simp [h1]),List.idxOf_append,if_pos h1]
   ·rw [if_neg h1,if_neg (by simp [h1,hne])]
 ·rw [if_neg (by omega),List.getElem?_eq_none (by rw [gN];omega),List.getElem?_eq_none (by rw [gN];omega)]
def eI (w:World) (b n:Nat) (met:List Int):Prop:=ah w b (gM n met) 3
theorem eI.ae {w w':World} {b n:Nat} {met:List Int} {S:Nat→Prop} (h:eI w b n met) (k:aa S w w') (hn:¬ S b):eI w' b n met:=k.ai h hn
section
variable {w w':World} {h:bZ} {W:Wd}
structure bX (w:World) (q:Nat) (h:bZ) (W:Wd) (b:Nat) (rv nv:Value) (F:Nat→Prop) (s:VS):Prop where
 hq:ah w q [.pointer (some ⟨h.p,0,none⟩), .slice (some ⟨b,0,none⟩) W.T.length W.T.length,rv,nv] 164
 hw:aJ w h W
 hm:eI w b W.T.length s.1
 hn:cz w nv F s.2
 hl:s.2.length=s.1.length
 hF:∀ k,F k→k<w.heap.size∧¬ (k=q∨k=b∨ag nv k)
 hO:∀ k,F k→¬ h.Own k
def eW (q b:Nat) (nv:Value) (k:Nat):Prop:=k=q∨k=b∨ag nv k
variable {q b:Nat} {rv nv:Value} {F:Nat→Prop} {s:VS}
theorem bX.fR (V:bX w q h W b rv nv F s) {k:Nat} (hk:h.Own k):¬ eW q b nv k:=by
 obtain ⟨-,c,T,hc,hT⟩:=V.hw.aX hk;have hne:T≠164∧T≠83∧T≠3:=by rcases hT with rfl | rfl | rfl | rfl <;> exact ⟨by decide,by decide,by decide⟩
 rintro (rfl | rfl | hk2)
 ·exact hc.ne V.hq hne.1 rfl
 ·exact hc.ne V.hm hne.2.2 rfl
 ·obtain ⟨_,c',hc'⟩:=V.hn.own hk2;exact hc.ne hc' hne.2.1 rfl
theorem bX.lt (V:bX w q h W b rv nv F s) {k:Nat} (hk:eW q b nv k):k<w.heap.size:=by
 rcases hk with rfl | rfl | hk
 ·exact V.hq.lt
 ·exact V.hm.lt
 ·exact (V.hn.own hk).1
theorem bX.cF (V:bX w q h W b rv nv F s) {k:Nat} {c:List Value} {T:TypeId} (hc:ah w k c T) (h1:T≠164) (h2:T≠83) (h3:T≠3):¬ eW q b nv k:=by
 rintro (rfl | rfl | hk2)
 ·exact hc.ne V.hq h1 rfl
 ·exact hc.ne V.hm h3 rfl
 ·obtain ⟨_,c',hc'⟩:=V.hn.own hk2;exact hc.ne hc' h2 rfl
theorem bX.ae {S:Nat→Prop} (V:bX w q h W b rv nv F s) (k:aa S w w') (h1:∀ j,eW q b nv j→¬ S j) (h2:∀ j,h.Own j→¬ S j) (h3:∀ j,F j→¬ S j):bX w' q h W b rv nv F s:=
 ⟨k.ai V.hq (h1 _ (.inl rfl)),V.hw.ae k h2,V.hm.ae k (h1 _ (.inr (.inl rfl))),V.hn.ae k (fun j hj _=>h3 j hj) (fun j hj=>h1 j (.inr (.inr hj))),V.hl,fun j hj=>⟨Nat.lt_of_lt_of_le (V.hF j hj).1 k.size,(V.hF j hj).2⟩,V.hO⟩
theorem bX.same (V:bX w q h W b rv nv F s) (k:aa (fun _=>False) w w'):bX w' q h W b rv nv F s:=V.ae k (fun _ _ h=>h) (fun _ _ h=>h) (fun _ _ h=>h)
def iD (w:World) (q:Nat) (h:bZ) (W:Wd) (b:Nat) (rv nv:Value) (F:Nat→Prop) (s':VS) (w':World):Prop:=
 ∃ nv' F',bX w' q h W b rv nv' F' s'∧aa (eW q b nv) w w'∧(∀ k,ag nv' k→ag nv k∨w.heap.size≤k)∧∀ k,F' k→F k∨w.heap.size≤k
def kN (w:World) (q:Nat) (h:bZ) (W:Wd) (b:Nat) (rv nv:Value) (F:Nat→Prop) (r:Vl × VS) (e:Ending) (w':World):Prop:=
 e=.returned (.agg #[.int .i64 r.1.1, .int .i64 r.1.2])∧iD w q h W b rv nv F r.2 w'
structure bY (w:World) (q:Nat) (h:bZ) (W:Wd) (b:Nat) (rv nv:Value) (F:Nat→Prop) (s:VS) (lv:Value) (l:List Vl) (wr:World) (nv':Value) (F':Nat→Prop):Prop where
 V:bX wr q h W b rv nv' F' s
 K:aa (eW q b nv) w wr
 o1:∀ k,ag nv' k→ag nv k∨w.heap.size≤k
 o2:∀ k,F' k→F k∨w.heap.size≤k
 L:Sl wr 78 2 lv l.length (au l)
 o3:∀ k,ag lv k→w.heap.size≤k∧¬ F' k
 ol:∀ k,h.Own k→k<w.heap.size
theorem bY.iE {lv:Value} {l:List Vl} {wr:World} {nv':Value} {F':Nat→Prop} (I:bY w q h W b rv nv F s lv l wr nv' F') {k:Nat} (hk:ag lv k):¬ eW q b nv' k∧¬ h.Own k:=by
 obtain ⟨_,c,hc⟩:=I.L.own hk;constructor
 ·rintro (rfl | rfl | h1)
  ·exact hc.ne I.V.hq (by decide) rfl
  ·exact I.V.hm.ne hc (by decide) rfl
  ·obtain ⟨_,c',hc'⟩:=I.V.hn.own h1;exact hc.ne hc' (by decide) rfl
 ·intro h1;have:=I.ol k h1;have:=(I.o3 k hk).1;omega
theorem bY.told {lv:Value} {l:List Vl} {wr w2:World} {nv':Value} {F':Nat→Prop} {s2:VS} (I:bY w q h W b rv nv F s lv l wr nv' F') (t:iD wr q h W b rv nv' F' s2 w2):∃ nv2 F2,bY w q h W b rv nv F s2 lv l w2 nv2 F2:=by
 obtain ⟨nv2,F2,V2,k2,p1,p2⟩:=t;refine ⟨nv2,F2,V2,I.K.then k2 (fun j hj=>?_),fun j hj=>?_,fun j hj=>?_,I.L.ae k2 (fun j hj=>(I.iE hj).1),fun j hj=>⟨(I.o3 j hj).1,fun hf=>?_⟩,I.ol⟩
 ·rcases hj with rfl | rfl | hj
  ·exact .inl (.inl rfl)
  ·exact .inl (.inr (.inl rfl))
  ·rcases I.o1 j hj with h | h
   ·exact .inl (.inr (.inr h))
   ·exact .inr h
 ·rcases p1 j hj with h | h
  ·exact I.o1 j h
  ·exact .inr (Nat.le_trans I.K.size h)
 ·rcases p2 j hj with h | h
  ·exact I.o2 j h
  ·exact .inr (Nat.le_trans I.K.size h)
 ·rcases p2 j hf with h | h
  ·exact (I.o3 j hj).2 h
  ·have:=(I.L.own hj).1;omega
theorem bY.app {lv:Value} {l:List Vl} {wr wa w2:World} {nv' lv2:Value} {F':Nat→Prop} {v:Vl} (I:bY w q h W b rv nv F s lv l wr nv' F') (ka:aa (fun _=>False) wr wa)
  (hs:Sl w2 78 2 lv2 (l.length+1) (au l ++ [.int .i64 v.1, .int .i64 v.2])) (hk:aa (ag lv) wa w2) (ho:∀ k,ag lv2 k→ag lv k∨wa.heap.size≤k):bY w q h W b rv nv F s lv2 (l ++ [v]) w2 nv' F':=by
 have k2:=(ka.mono (T:=ag lv) (fun _ _ h=>h.elim)).trans hk;refine ⟨I.V.ae k2 (fun j hj hl=>(I.iE hl).1 hj) (fun j hj hl=>(I.iE hl).2 hj) (fun j hj hl=>(I.o3 j hl).2 hj),I.K.then k2 (fun j hj=>.inr (I.o3 j hj).1),I.o1,I.o2,?_,fun j hj=>?_,I.ol⟩
 ·have e:au (l ++ [v])=au l ++ [.int .i64 v.1, .int .i64 v.2]:=by simp [au]
  rw [e,List.length_append];exact hs
 ·rcases ho j hj with h1 | h1
  ·exact I.o3 j h1
  ·have:=ka.size;have:=I.K.size;exact ⟨by omega,fun hf=>by have:=(I.V.hF j hf).1;omega⟩
theorem bY.same {lv:Value} {l:List Vl} {wr w2:World} {nv':Value} {F':Nat→Prop} (I:bY w q h W b rv nv F s lv l wr nv' F') (k:aa (fun _=>False) wr w2):bY w q h W b rv nv F s lv l w2 nv' F':=
 ⟨I.V.same k,I.K.trans (k.mono (fun _ _ h=>h.elim)),I.o1,I.o2,I.L.ae k (fun _ _ h=>h),I.o3,I.ol⟩
theorem bX.push {x:Int} {kd:Int} {wm wa w2:World} {nv2:Value} (V:bX w q h W b rv nv F s) (hm:eI wm b W.T.length (s.1 ++ [x])) (km:aa (·=b) w wm) (ka:aa (fun _=>False) wm wa)
  (cs:List Value) (hcs:bp 2 (dc w F) s.2 cs)
  (hs:Sl w2 83 2 nv2 (s.2.length+1) (cs ++ [.int .i64 kd, .slice none 0 0])) (hk:aa (ag nv) wa w2) (ho:∀ k,ag nv2 k→ag nv k∨wa.heap.size≤k) :
  iD w q h W b rv nv F (s.1 ++ [x],s.2 ++ [(kd,[])]) (w2.setCell ⟨q,3,none⟩ nv2):=by
 have K1:aa (eW q b nv) w w2:=((km.mono (fun j _ hj=>.inr (.inl hj))).trans (ka.mono (fun _ _ h=>h.elim))).trans (hk.mono (fun j _ hj=>.inr (.inr hj)));have K2:=K1.setCell (p:=⟨q,3,none⟩) (.inl (.inl rfl)) nv2;have hsz:=km.size;have hsz2:=ka.size;have hsz3:=hk.size;have nq:¬ ag nv q:=fun hq=>by obtain ⟨_,c,hc⟩:=V.hn.own hq;exact V.hq.ne hc (by decide) rfl
 have nb:¬ ag nv b:=fun hq=>by obtain ⟨_,c,hc⟩:=V.hn.own hq;exact V.hm.ne hc (by decide) rfl
 have qb:q≠b:=V.hq.ne V.hm (by decide);have hq2:=hk.ai (ka.ai (km.ai V.hq qb) (fun h=>h)) nq;have ne2:∀ k,ag nv2 k→k≠q:=fun k hk2 e=>by
  obtain ⟨_,c,hc⟩:=hs.own hk2;exact hc.ne hq2 (by decide) e
 have setk:=(aa.refl (·=q) w2).setCell (p:=⟨q,3,none⟩) (.inl rfl) nv2;refine ⟨nv2,F,⟨by simpa using hq2.aF 3 nv2,V.hw.ae K2 (fun j hj=>V.fR hj),?_,⟨_,by rw [List.length_append];exact hs.ae setk ne2,?_⟩,by simp [V.hl],fun j hj=>⟨?_,?_⟩,V.hO⟩,K2,fun j hj=>?_,fun j hj=>.inl hj⟩
 ·exact (hm.ae (ka.mono (T:=ag nv) (fun _ _ h=>h.elim) |>.trans hk) nb).ae setk (Ne.symm qb)
 ·refine bp.app (hcs.mono (fun a _ r hr=>hr.ae K2 (fun j hj _=>(V.hF j hj).2))) rfl ?_;exact ⟨none,0,rfl,Rd.nil _ _,(fun a ha=>by cases ha),Nat.zero_le _⟩
 ·have:=(V.hF j hj).1;have:=K2.size;omega
 ·rintro (e | e | e)
  ·exact (V.hF j hj).2 (.inl e)
  ·exact (V.hF j hj).2 (.inr (.inl e))
  ·rcases ho j e with h1 | h1
   ·exact (V.hF j hj).2 (.inr (.inr h1))
   ·have:=(V.hF j hj).1;omega
 ·rcases ho j hj with h1 | h1
  ·exact .inl h1
  ·exact .inr (by omega)
theorem bY.done {lv:Value} {l:List Vl} {wr:World} {nv':Value} {F':Nat→Prop} {kd:Int} {n:Nat} {g o cap:Nat} {ao:Option Addr} {lc:Nat} (hlv:lv=.slice ao l.length lc) (I:bY w q h W b rv nv F s lv l wr nv' F')
  (hnv:nv'=.slice (some ⟨g,o,none⟩) s.2.length cap) (hn:s.2[n]? = some (kd,[])):iD w q h W b rv nv F (s.1,s.2.set n (kd,l)) (wr.setCell ⟨g,o+n*2+1,none⟩ lv):=by
 subst hnv hlv;have hlt:n<s.2.length:=(List.getElem?_eq_some_iff.1 hn).1;have hgo:ag (.slice (some ⟨g,o,none⟩) s.2.length cap) g:=rfl;have hne:=fun k hk=>I.iE (k:=k) hk;have setk:=(aa.refl (·=g) wr).setCell (p:=⟨g,o+n*2+1,none⟩) (.inl rfl) (.slice ao l.length lc);have K2:aa (eW q b nv) w (wr.setCell ⟨g,o+n*2+1,none⟩ (.slice ao l.length lc)):=I.K.setCell (p:=⟨g,o+n*2+1,none⟩) (by
  rcases I.o1 g hgo with h1 | h1
  ·exact .inl (.inr (.inr h1))
  ·exact .inr h1) _
 obtain ⟨cs,hs,hr⟩:=I.V.hn;have hgq:¬ q=g:=fun e=>by
  obtain ⟨_,c,hc⟩:=hs.own hgo;exact I.V.hq.ne hc (by decide) e
 have hgb:¬ b=g:=fun e=>by
  obtain ⟨_,c,hc⟩:=hs.own hgo;exact I.V.hm.ne hc (by decide) e
 obtain ⟨ao',cap',e1,hrd,hcm,hnc⟩:=I.L.rd;cases e1;have hlF:∀ k,ag (.slice ao l.length lc) k→¬ k=g:=fun k hk e=>by
  subst e;exact (hne _ hk).1 (.inr (.inr hgo))
 refine ⟨.slice (some ⟨g,o,none⟩) s.2.length cap,fun k=>F' k∨ag (.slice ao l.length lc) k,⟨setk.ai I.V.hq hgq,I.V.hw.ae setk (fun j hj e=>?_),I.V.hm.ae setk hgb,?_,by simp [I.V.hl],fun j hj=>?_,fun j hj=>hj.elim (I.V.hO j) (fun h=>(hne j h).2)⟩,K2,I.o1,fun j hj=>?_⟩
 ·subst e;exact I.V.fR hj (.inr (.inr hgo))
 ·have hsl:(s.2.set n (kd,l)).length=s.2.length:=by simp
  refine ⟨cs.set (n*2+1) (.slice ao l.length lc),?_,?_⟩
  ·rw [hsl];exact hs.set (j:=n*2+1) (by omega)
  ·have hr':bp 2 (dc (wr.setCell ⟨g,o+n*2+1,none⟩ (.slice ao l.length lc)) (fun k=>F' k∨ag (.slice ao l.length lc) k)) s.2 cs:=
    hr.mono (fun a _ r h1=>(h1.ae setk (fun j hj _ e=>by subst e;exact (I.V.hF j hj).2 (.inr (.inr hgo)))).more (fun j hj=>.inl hj))
   refine bp.setCell hlt (by decide) hr' (fun r h2 h3=>?_);have e2:s.2[n]=(kd,[]):=by rw [Le hlt] at hn;exact Option.some.inj hn
   rw [e2] at h3;obtain ⟨_,_,rfl,-⟩:=h3;refine ⟨ao,lc,rfl,hrd.ae setk (fun a ha _ e=>?_),fun a ha=>.inr ?_,hcm⟩
   ·subst ha;exact hlF a.block rfl e
   ·subst ha;rfl
 ·rcases hj with hj | hj
  ·exact ⟨Nat.lt_of_lt_of_le (I.V.hF j hj).1 setk.size,(I.V.hF j hj).2⟩
  ·exact ⟨Nat.lt_of_lt_of_le (I.L.own hj).1 setk.size,(hne j hj).1⟩
 ·rcases hj with hj | hj
  ·exact I.o2 j hj
  ·exact .inr (I.o3 j hj).1
end
end
section
open Go.RowKit
section
variable {w w':World} {h:bZ} {W:Wd} {q b:Nat} {rv nv:Value} {F:Nat→Prop} {s:VS}
theorem bX.seen (V:bX w q h W b rv nv F s) {i:Nat} (hi:i<W.T.length):w.cell? ⟨b,i,none⟩=some (.int .i64 (if (i:Int) ∈ s.1 then ((s.1.idxOf (i:Int):Nat):Int)+1 else 0)):=(V.hm.cell i).trans (iC hi)
theorem bX.cells (V:bX w q h W b rv nv F s):w.cell? ⟨q,0,none⟩=some (.pointer (some ⟨h.p,0,none⟩))∧w.cell? ⟨q,1,none⟩=some (.slice (some ⟨b,0,none⟩) W.T.length W.T.length)∧w.cell? ⟨q,2,none⟩=some rv∧w.cell? ⟨q,3,none⟩=some nv∧q<w.heap.size:=
 ⟨V.hq.cell 0,V.hq.cell 1,V.hq.cell 2,V.hq.cell 3,V.hq.lt⟩
theorem kv (v:Vl) (n:Nat) (V:bX w q h W b rv nv F s) (hv:v.1=3→W.live v.2) (hm:v.1=3→v.2 ∈ s.1) (hl:s.1.length≤1000000) :
  Calls Try.prog 107 #[.pointer (some ⟨q,0,none⟩), .agg #[.int .i64 v.1, .int .i64 v.2]] w fun e w'=>kN w q h W b rv nv F (valM W.gr n v s) e w':=by
 have HV:=Hz V;obtain ⟨kd,x⟩:=v;dsimp only at hv hm ⊢;have ka:=(Kz w).alloc (.cells #[.int .i64 kd, .int .i64 x] 78);have hb1:ah (w.alloc (.cells #[.int .i64 kd, .int .i64 x] 78)) w.heap.size [.int .i64 kd, .int .i64 x] 78:=ah.newAt _ rfl rfl;have ka2:=ka.alloc (.cells #[.int .i64 0, .int .i64 0] 78);have hb2:ah ((w.alloc (.cells #[.int .i64 kd, .int .i64 x] 78)).alloc (.cells #[.int .i64 0, .int .i64 0] 78)) (w.heap.size+1) [.int .i64 0, .int .i64 0] 78:=ah.newAt _ (by simp) rfl;have B1:=Hz (hb1.alloc (.cells #[.int .i64 0, .int .i64 0] 78));have B2:=Hz hb2;have V1:=Hz (V.same ka2);have KA:=Hz ka2;clear ka hb1 hb2 ka2 V;go_enter Try.func107,Try.ntmps107;go_upto_region 1 with fail
 generalize (w.alloc (.cells #[.int .i64 kd, .int .i64 x] 78)).alloc (.cells #[.int .i64 0, .int .i64 0] 78)=w1 at *;obtain ⟨sb,hsb⟩:∃ k,w.heap.size=k:=⟨_,rfl⟩;rw [hsb] at B1 B2;rw [hsb];have HSB:=Hz hsb;clear hsb;have s0:=B1.out.cell 0;have s1:=B1.out.cell 1;have sl:=B1.out.lt;have l0:=B2.out.cell 0;have l1:=B2.out.cell 1;have ll:=B2.out.lt;have f0:=B2.out.free 0;have f1:=B2.out.free 1;simp only [Lz,Ls] at s0 s1 l0 l1;have FIN:=Hz (fun (wz:World) (k:aa (·=sb+1) w1 wz)=>(show iD w q h W b rv nv F s wz from by
  have ho:∀ j,h.Own j→j<w.heap.size:=fun j hj=>HV.out.hw.cR hj;have V2:=V1.out.ae k (fun j hj e=>by have:=HV.out.lt hj;rw [HSB.out] at this;omega) (fun j hj e=>by have:=ho j hj;rw [HSB.out] at this;omega) (fun j hj e=>by have:=(HV.out.hF j hj).1;rw [HSB.out] at this;omega)
  exact ⟨nv,F,V2,(KA.out.mono (fun _ _ h=>h.elim)).then k (fun j hj=>.inr (by rw [HSB.out];omega)),fun j hj=>.inl hj,fun j hj=>.inl hj⟩))
 by_cases h3:kd=3
 case neg=>
  have HE:=Hz (show valM W.gr n (kd,x) s=((kd,x),s) from cQ W.gr n s h3);have e3:(kd != 3)=true:=by simpa using h3
  clear h3;go_wp2_with (refine aQ rfl 78 (.tmp 3) rfl (by kernel_rfl) sb 0 rfl _ _ s0 s1 ?_);have hb2:=(B2.out.aF 0 (.int .i64 kd)).aF 1 (.int .i64 x);have x0:=hb2.cell 0;have x1:=hb2.cell 1;simp only [List.set_cons_zero,List.set_cons_succ,Lz,Ls] at x0 x1;refine bodyPost_ret (v:=.agg #[.int .i64 kd, .int .i64 x]) (by simp [results,Try.results107,go_sem,x0,x1]) rfl ?_;refine ⟨by rw [HE.out],?_⟩;rw [HE.out];exact FIN.out _ (((aa.refl (·=sb+1) w1).setCell (p:=⟨sb+1,0,none⟩) (.inl rfl) _).setCell (p:=⟨sb+1,1,none⟩) (.inl rfl) _)
 subst h3;have HM:=Hz (hm rfl);have hlv:=hv rfl;obtain ⟨x,rfl⟩:=Int.eq_ofNat_of_zero_le hlv.1;have HE:=Hz (show valM W.gr n (3,(x:Int)) s=(eB (s.1.idxOf (x:Int)),s) from dQ W.gr n rfl HM.out);have hxl:x<W.T.length:=by have:=hlv.2.1;omega
 have hxi:(x:Int)<W.T.length:=hlv.2.1;have hx0:=V1.out.seen hxl;rw [if_pos HM.out] at hx0;have hil:s.1.idxOf (x:Int)≤1000000:=by have:=List.idxOf_le_length (l:=s.1) (a:=(x:Int));omega
 obtain ⟨-,q1,-,-,ql⟩:=V1.out.cells;have hbl:=V1.out.hm.lt;clear hm hv hlv;generalize s.1.idxOf (x:Int)=ix at *;have hne:(((ix:Int)+1) == 0)=false:=by simp;omega
 have hwr:IntKind.i64.wrap (ix:Int)=(ix:Int):=IntWalk.i64_in _ (by omega);go_wp2_with fail;refine aq (.free 0 (.free 1 (.free 2 (.free 4 (.pure 3 (.pure 5 (.free 6 (.pure 7 (.free 8 (.fin)))))))))) [] (fun w'=>w'.cell? ⟨q,1,none⟩=some (.slice (some ⟨b,0,none⟩) W.T.length W.T.length)∧w'.cell? ⟨sb,1,none⟩=some (.int .i64 x)∧w'.cell? ⟨b,x,none⟩=some (.int .i64 ((ix:Int)+1))) (by kernel_rfl) (by kernel_rfl) ⟨q1,s1,hx0⟩ ?_
 iterate 9 ((first | refine ak rfl rfl fun K hK=>?_ | refine aj rfl rfl fun K hK=>?_ | refine ay rfl rfl fun K hK=>?_ | refine av rfl rfl fun K hK=>?_ | refine ax rfl rfl fun K hK=>?_);go_simp;refine hK _ ?_;clear hK K)
 refine aA ?_;go_wp2_with fail;refine aq (.free 0 (.free 1 (.free 2 (.free 4 (.pure 3 (.pure 5 (.free 6 (.pure 7 (.free 8 (.free 9 (.run 10 (.swi [] (.fin))))))))))))) [10] (fun w'=>w'.cell? ⟨q,1,none⟩=some (.slice (some ⟨b,0,none⟩) W.T.length W.T.length)∧w'.cell? ⟨sb,1,none⟩=some (.int .i64 x)∧w'.cell? ⟨b,x,none⟩=some (.int .i64 ((ix:Int)+1))) (by kernel_rfl) (by kernel_rfl) ⟨q1,s1,hx0⟩ ?_
 iterate 10 ((first | refine ak rfl rfl fun K hK=>?_ | refine aj rfl rfl fun K hK=>?_ | refine ay rfl rfl fun K hK=>?_ | refine av rfl rfl fun K hK=>?_ | refine ax rfl rfl fun K hK=>?_);go_simp;refine hK _ ?_;clear hK K)
 refine aG rfl rfl rfl (fun K hK=>?_);unfold aM;go_simp;refine hK _ _ ?_;clear hK K;refine aE (fun _=>True) trivial (aA ?_);go_wp2_with fail;have hb2:=((B2.out.aF 0 (.int .i64 3)).aF 1 (.int .i64 ix)).drew.drew;have x0:=hb2.cell 0;have x1:=hb2.cell 1;simp only [List.set_cons_zero,List.set_cons_succ,Lz,Ls] at x0 x1;refine bodyPost_ret (v:=.agg #[.int .i64 3, .int .i64 ix]) (by simp [results,Try.results107,go_sem,x0,x1]) rfl ?_;refine ⟨by rw [HE.out];rfl,?_⟩;rw [HE.out];exact FIN.out _ ((((aa.refl (·=sb+1) w1).setCell (p:=⟨sb+1,0,none⟩) (.inl rfl) _).setCell (p:=⟨sb+1,1,none⟩) (.inl rfl) _).drew.drew)
end
end
section
open Go.RowKit
structure ej where
 mb:Nat
 wb:Nat
 vb:Nat
 fb:Nat
def ej.fn (g:ej):Value:=.func (.func 108) #[] #[.pointer (some ⟨g.mb,0,none⟩), .pointer (some ⟨g.wb,0,none⟩), .pointer (some ⟨g.vb,0,none⟩), .pointer (some ⟨g.fb,0,none⟩)]
structure cx (w:World) (g:ej) (h:RW) (W:Wd) (rv mv nv:Value) (F:Nat→Prop) (s:VS):Prop where
 H:aK w h W
 hm:ah w g.mb [mv] 50
 hw:ah w g.wb [.pointer (some ⟨h.p,0,none⟩)] 94
 hv:ah w g.vb [rv,nv] 72
 hf:ah w g.fb [g.fn] 165
 M:Sl w 3 1 mv s.1.length (s.1.map (Value.int .i64))
 N:cz w nv F s.2
 hF:∀ k,F k→k<w.heap.size∧∃ c,ah w k c 78
 bd:∀ i ∈ s.1,0≤i∧i≤1000000
def dH (g:ej) (mv nv:Value) (k:Nat):Prop:=k=g.mb∨k=g.vb∨ag mv k∨ag nv k
section
variable {w w':World} {g:ej} {h:RW} {W:Wd} {rv mv nv:Value} {F:Nat→Prop} {s:VS}
theorem cx.cF (V:cx w g h W rv mv nv F s) {k:Nat} {c:List Value} {T:TypeId} (hc:ah w k c T) (h1:T≠50) (h2:T≠72) (h3:T≠3) (h4:T≠83):¬ dH g mv nv k:=by
 rintro (rfl | rfl | hk | hk)
 ·exact hc.ne V.hm h1 rfl
 ·exact hc.ne V.hv h2 rfl
 ·obtain ⟨_,c',hc'⟩:=V.M.own hk;exact hc.ne hc' h3 rfl
 ·obtain ⟨_,c',hc'⟩:=V.N.own hk;exact hc.ne hc' h4 rfl
theorem cx.c6 (V:cx w g h W rv mv nv F s) {k:Nat} (hk:h.Own k):¬ dH g mv nv k:=by
 obtain ⟨_,c,T,hc,hT⟩:=V.H.aX hk;rcases hT with rfl | rfl | rfl | rfl <;> exact V.cF hc (by decide) (by decide) (by decide) (by decide)
theorem cx.ae {S:Nat→Prop} (V:cx w g h W rv mv nv F s) (k:aa S w w') (h1:∀ j,dH g mv nv j→¬ S j) (h2:∀ j,h.Own j→¬ S j) (h3:∀ j,F j→¬ S j) (h4:¬ S g.wb) (h5:¬ S g.fb):cx w' g h W rv mv nv F s:=
 ⟨V.H.ae k h2,k.ai V.hm (h1 _ (.inl rfl)),k.ai V.hw h4,k.ai V.hv (h1 _ (.inr (.inl rfl))),k.ai V.hf h5,V.M.ae k (fun j hj=>h1 j (.inr (.inr (.inl hj)))),V.N.ae k (fun j hj _=>h3 j hj) (fun j hj=>h1 j (.inr (.inr (.inr hj)))),
  fun j hj=>by obtain ⟨a,c,hc⟩:=V.hF j hj;exact ⟨Nat.lt_of_lt_of_le a k.size,c,k.ai hc (h3 j hj)⟩,V.bd⟩
theorem cx.same (V:cx w g h W rv mv nv F s) (k:aa (fun _=>False) w w'):cx w' g h W rv mv nv F s:=V.ae k (fun _ _ h=>h) (fun _ _ h=>h) (fun _ _ h=>h) (fun h=>h) (fun h=>h)
theorem cx.other {b:Nat} (V:cx w g h W rv mv nv F s) (k:aa (·=b) w w') (hb:¬ dH g mv nv b) (h2:¬ h.Own b) (h3:¬ F b) (h4:b≠g.wb) (h5:b≠g.fb):cx w' g h W rv mv nv F s:=
 V.ae k (fun j hj e=>hb (e ▸ hj)) (fun j hj e=>h2 (e ▸ hj)) (fun j hj e=>h3 (e ▸ hj)) (fun e=>h4 e.symm) (fun e=>h5 e.symm)
def eC (w:World) (g:ej) (h:RW) (W:Wd) (rv mv nv:Value) (F:Nat→Prop) (s':VS) (w':World):Prop:=
 ∃ mv' nv' F',cx w' g h W rv mv' nv' F' s'∧aa (dH g mv nv) w w'∧(∀ k,ag mv' k→ag mv k∨w.heap.size≤k)∧(∀ k,ag nv' k→ag nv k∨w.heap.size≤k)∧∀ k,F' k→F k∨w.heap.size≤k
theorem eC.refl (V:cx w g h W rv mv nv F s) (k:aa (fun _=>False) w w'):eC w g h W rv mv nv F s w':=
 ⟨mv,nv,F,V.same k,k.mono (fun _ _ h=>h.elim),fun _ h=>.inl h,fun _ h=>.inl h,fun _ h=>.inl h⟩
theorem dH.step {mv' nv':Value} (o0:∀ k,ag mv' k→ag mv k∨w.heap.size≤k) (o1:∀ k,ag nv' k→ag nv k∨w.heap.size≤k) {k:Nat} (hk:dH g mv' nv' k):dH g mv nv k∨w.heap.size≤k:=by
 rcases hk with rfl | rfl | hk | hk
 ·exact .inl (.inl rfl)
 ·exact .inl (.inr (.inl rfl))
 ·exact (o0 k hk).imp (fun h=>.inr (.inr (.inl h))) id
 ·exact (o1 k hk).imp (fun h=>.inr (.inr (.inr h))) id
theorem eC.done {w1 w2 w3:World} {s':VS} {b:Nat} (k1:aa (fun _=>False) w w1) (t:eC w1 g h W rv mv nv F s' w2) (hb0:w.heap.size≤b) (hb1:b<w1.heap.size) (hF:¬ F b) (hO:¬ h.Own b) (hbt:∃ c,ah w2 b c 78) (k:aa (·=b) w2 w3) :
  eC w g h W rv mv nv F s' w3:=by
 obtain ⟨mv',nv',F',V,k2,o0,o1,o2⟩:=t;obtain ⟨c,hc⟩:=hbt;refine ⟨mv',nv',F',V.other k (V.cF hc (by decide) (by decide) (by decide) (by decide)) hO (fun hf=>?_) (hc.ne V.hw (by decide)) (hc.ne V.hf (by decide)),((k1.mono (fun _ _ h=>h.elim)).trans k2).then k (fun j hj=>.inr (by rw [hj];exact hb0)),
  fun j hj=>(o0 j hj).imp id (fun h=>Nat.le_trans k1.size h),fun j hj=>(o1 j hj).imp id (fun h=>Nat.le_trans k1.size h),fun j hj=>(o2 j hj).imp id (fun h=>Nat.le_trans k1.size h)⟩
 rcases o2 b hf with h1 | h1
 ·exact hF h1
 ·omega
def gO (w:World) (g:ej) (h:RW) (W:Wd) (rv mv nv:Value) (F:Nat→Prop) (r:Vl × VS) (e:Ending) (w':World):Prop:=
 e=.returned (.agg #[.int .i64 r.1.1, .int .i64 r.1.2])∧eC w g h W rv mv nv F r.2 w'
theorem jh (v:Vl) (n:Nat) (V:cx w g h W rv mv nv F s) (h3:v.1≠3) :
  Calls Try.prog 108 #[.agg #[.int .i64 v.1, .int .i64 v.2], .pointer (some ⟨g.mb,0,none⟩), .pointer (some ⟨g.wb,0,none⟩), .pointer (some ⟨g.vb,0,none⟩), .pointer (some ⟨g.fb,0,none⟩)] w (gO w g h W rv mv nv F (valM W.gr n v s)):=by
 have HE:=Hz (cQ W.gr n s h3);have HV:=Hz V;obtain ⟨v1,v2⟩:=v;dsimp only at h3 ⊢;have hd:(v1 != 3)=true:=by simpa using h3
 clear h3 V;go_enter Try.func108,Try.ntmps108;go_upto_region 1 with (fail)
 have ka:=(Kz w).alloc (.cells #[.int .i64 (v1), .int .i64 v2] 78);have xb1:ah (w.alloc (.cells #[.int .i64 (v1), .int .i64 v2] 78)) w.heap.size [.int .i64 (v1), .int .i64 v2] 78:=ah.newAt _ rfl rfl;have sz1:(w.alloc (.cells #[.int .i64 (v1), .int .i64 v2] 78)).heap.size=w.heap.size+1:=by simp
 have K1:=Hz (ka.alloc (.cells #[.int .i64 0, .int .i64 0] 78));have XB:=Hz (xb1.alloc (.cells #[.int .i64 0, .int .i64 0] 78));have RB:=Hz (show ah ((w.alloc (.cells #[.int .i64 (v1), .int .i64 v2] 78)).alloc (.cells #[.int .i64 0, .int .i64 0] 78)) (w.heap.size+1) [.int .i64 0, .int .i64 0] 78 from ah.newAt _ sz1.symm rfl);have V1:=Hz (HV.out.same K1.out);have RNF:Hid (¬ F (w.heap.size+1)):=fun hf=>by have:=(HV.out.hF _ hf).1;omega
 have RNO:Hid (¬ h.Own (w.heap.size+1)):=fun hf=>by have:=(HV.out.H.aX hf).1;omega
 have XNO:Hid (¬ h.Own w.heap.size):=fun hf=>by have:=(HV.out.H.aX hf).1;omega
 have XNF:Hid (¬ F w.heap.size):=fun hf=>by have:=(HV.out.hF _ hf).1;omega
 clear ka xb1 sz1;generalize (w.alloc (.cells #[.int .i64 (v1), .int .i64 v2] 78)).alloc (.cells #[.int .i64 0, .int .i64 0] 78)=w1 at *;generalize hxb:w.heap.size=xb at XB RB RNF RNO XNO XNF ⊢;have HXB:=Hz hxb;clear hxb;generalize hrb:xb+1=rb at RB RNF RNO ⊢;have HRX:=Hz hrb;clear hrb;have HRB:=Hz (show w.heap.size≤rb by have:=HXB.out;have:=HRX.out;omega);have b0:=XB.out.cell 0;have b1:=XB.out.cell 1;have bl:=XB.out.lt;have r0:=RB.out.cell 0;have r1:=RB.out.cell 1;have rl:=RB.out.lt;have f0:=RB.out.free 0;have f1:=RB.out.free 1;simp only [Lz,Ls] at b0 b1 r0 r1;go_wp2_with (refine aQ rfl 78 (.tmp 5) rfl (by kernel_rfl) xb 0 rfl _ _ b0 b1 ?_);have hb3:=(RB.out.aF 0 (.int .i64 v1)).aF 1 (.int .i64 v2);have x0':=hb3.cell 0;have x1':=hb3.cell 1;simp only [List.set_cons_zero,List.set_cons_succ,Lz,Ls] at x0' x1';refine bodyPost_ret (v:=.agg #[.int .i64 v1, .int .i64 v2]) (by simp [results,Try.results108,go_sem,x0',x1']) rfl ?_;unfold gO;rw [HE.out];refine ⟨rfl,?_⟩;have set:=((aa.refl (·=rb) w1).setCell (p:=⟨rb,0,none⟩) (.inl rfl) (.int .i64 v1)).setCell (p:=⟨rb,1,none⟩) (.inl rfl) (.int .i64 v2);exact eC.done K1.out (eC.refl V1.out (aa.refl _ _)) HRB.out rl RNF.out RNO.out ⟨_,RB.out⟩ set
theorem mX {l:List Int} {x:Int} {k:Nat} (hk:k<l.length) (hx:l.getD k 0=x) (h:∀ j,j<k→l.getD j 0≠x):l.idxOf x=k:=by
 induction l generalizing k with
 | nil=>simp at hk
 | cons a l ih=>
  rw [List.idxOf_cons];cases k with
  | zero=>
   have:a=x:=by simpa using hx
   subst this;simp
  | succ k=>
   have h0:=h 0 (by omega);have h0:a≠x:=by simpa using h0
   have:(a == x)=false:=by simpa using h0
   rw [this];have:=ih (k:=k) (by simpa using hk) (by simpa using hx) (fun j hj=>by have:=h (j+1) (by omega);simpa using this);simp [this]
theorem kx (v2:Int) (n:Nat) (V:cx w g h W rv mv nv F s) (hm:v2 ∈ s.1) (hsl:s.1.length≤5000) :
  Calls Try.prog 108 #[.agg #[.int .i64 3, .int .i64 v2], .pointer (some ⟨g.mb,0,none⟩), .pointer (some ⟨g.wb,0,none⟩), .pointer (some ⟨g.vb,0,none⟩), .pointer (some ⟨g.fb,0,none⟩)] w (gO w g h W rv mv nv F (valM W.gr n (3,v2) s)):=by
 have HE:=Hz (dQ W.gr n (v:=(3,v2)) (s:=s) rfl hm);have HV:=Hz V;have HM:=Hz hm;have HSL:=Hz hsl;clear V hm hsl;go_enter Try.func108,Try.ntmps108;go_upto_region 1 with (fail)
 have ka:=(Kz w).alloc (.cells #[.int .i64 (3), .int .i64 v2] 78);have xb1:ah (w.alloc (.cells #[.int .i64 (3), .int .i64 v2] 78)) w.heap.size [.int .i64 (3), .int .i64 v2] 78:=ah.newAt _ rfl rfl;have sz1:(w.alloc (.cells #[.int .i64 (3), .int .i64 v2] 78)).heap.size=w.heap.size+1:=by simp
 have K1:=Hz (ka.alloc (.cells #[.int .i64 0, .int .i64 0] 78));have XB:=Hz (xb1.alloc (.cells #[.int .i64 0, .int .i64 0] 78));have RB:=Hz (show ah ((w.alloc (.cells #[.int .i64 (3), .int .i64 v2] 78)).alloc (.cells #[.int .i64 0, .int .i64 0] 78)) (w.heap.size+1) [.int .i64 0, .int .i64 0] 78 from ah.newAt _ sz1.symm rfl);have V1:=Hz (HV.out.same K1.out);have RNF:Hid (¬ F (w.heap.size+1)):=fun hf=>by have:=(HV.out.hF _ hf).1;omega
 have RNO:Hid (¬ h.Own (w.heap.size+1)):=fun hf=>by have:=(HV.out.H.aX hf).1;omega
 have XNO:Hid (¬ h.Own w.heap.size):=fun hf=>by have:=(HV.out.H.aX hf).1;omega
 have XNF:Hid (¬ F w.heap.size):=fun hf=>by have:=(HV.out.hF _ hf).1;omega
 clear ka xb1 sz1;generalize (w.alloc (.cells #[.int .i64 (3), .int .i64 v2] 78)).alloc (.cells #[.int .i64 0, .int .i64 0] 78)=w1 at *;generalize hxb:w.heap.size=xb at XB RB RNF RNO XNO XNF ⊢;have HXB:=Hz hxb;clear hxb;generalize hrb:xb+1=rb at RB RNF RNO ⊢;have HRX:=Hz hrb;clear hrb;have HRB:=Hz (show w.heap.size≤rb by have:=HXB.out;have:=HRX.out;omega);have b0:=XB.out.cell 0;have b1:=XB.out.cell 1;have bl:=XB.out.lt;simp only [Lz,Ls] at b0 b1;have c0:=V1.out.hm.cell 0;have cl:=V1.out.hm.lt;simp only [Lz] at c0;obtain ⟨mo,mc,emv,-,hml,-⟩:=V1.out.M.rd;have EMV:=Hz emv;rw [emv] at c0;have hsl:=HSL.out;clear emv hml;go_wp2_with fail;go_loopw [7] (fun i wr=>∃ k:Nat,k≤s.1.length∧i=.int .i64 k∧aa (fun _=>False) w1 wr∧∀ j,j<k→s.1.getD j 0≠v2) (fun i _=>s.1.length-(intOf i).toNat)
 case atStart=>exact ⟨0,Nat.zero_le _,rfl,aa.refl _ _,fun j hj=>by omega⟩
 case round=>
  clear c0 cl b0 b1 bl;obtain ⟨k,hk,rfl,hK,hN⟩:=hrel;have KR:=Hz hK;have HN:=Hz hN;clear hK hN;have VR:=Hz (V1.out.same KR.out);have XR:=Hz (KR.out.ai XB.out (fun h=>h));have RR:=Hz (KR.out.ai RB.out (fun h=>h));have b0:=XR.out.cell 0;have b1:=XR.out.cell 1;have bl:=XR.out.lt;have c0:=VR.out.hm.cell 0;have cl:=VR.out.hm.lt;simp only [Lz,Ls] at b0 b1 c0;rw [EMV.out] at c0;by_cases hlt:k<s.1.length
  ·obtain ⟨_,_,e',rd,-,-⟩:=VR.out.M.rd;rw [EMV.out] at e';cases e';obtain ⟨gm,om,rfl,d0⟩:=rd.int k hlt;have hgm:=((VR.out.M).own (k:=gm) (by rw [EMV.out];rfl)).1;generalize hy:s.1.getD k 0=y at *;have HY:=Hz hy;clear rd hy;go_wp2_with fail;refine aq (.free 1 (.free 4 (.pure 0 (.free 2 (.pure 3 (.pure 5 (.free 6 (.fin)))))))) [] (fun w'=>w'.cell? ⟨g.mb,0,none⟩=some (.slice (some ⟨gm,om,none⟩) s.1.length mc)∧w'.cell? ⟨gm,om+k,none⟩=some (.int .i64 y)∧w'.cell? ⟨xb,1,none⟩=some (.int .i64 v2)) (by kernel_rfl) (by kernel_rfl) ⟨c0,d0,b1⟩ ?_
   iterate 7 ((first | refine ak rfl rfl fun K hK=>?_ | refine aj rfl rfl fun K hK=>?_ | refine ay rfl rfl fun K hK=>?_ | refine av rfl rfl fun K hK=>?_ | refine ax rfl rfl fun K hK=>?_);go_simp;refine hK _ ?_;clear hK K)
   refine aA ?_;clear b0 b1 bl c0 cl d0 hgm;by_cases he:y=v2
   ·subst he;have HIX:=Hz (mX hlt HY.out HN.out);have RD:=Hz (show ah wr.drew rb [.int .i64 0, .int .i64 0] 78 from RR.out.drew);have KD:=Hz (KR.out.drew);clear RR XR VR;generalize wr.drew=wd at *;have r0:=RD.out.cell 0;have r1:=RD.out.cell 1;have rl:=RD.out.lt;have f0:=RD.out.free 0;have f1:=RD.out.free 1;simp only [Lz,Ls] at r0 r1;go_wp2_with fail;have hb3:=(RD.out.aF 0 (.int .i64 3)).aF 1 (.int .i64 k);have x0':=hb3.cell 0;have x1':=hb3.cell 1;simp only [List.set_cons_zero,List.set_cons_succ,Lz,Ls] at x0' x1';refine bodyPost_ret (v:=.agg #[.int .i64 3, .int .i64 k]) (by simp [results,Try.results108,go_sem,x0',x1']) rfl ?_;unfold gO;rw [HE.out];dsimp only;rw [HIX.out];refine ⟨rfl,?_⟩;have set:=((aa.refl (·=rb) wd).setCell (p:=⟨rb,0,none⟩) (.inl rfl) (.int .i64 3)).setCell (p:=⟨rb,1,none⟩) (.inl rfl) (.int .i64 k);exact eC.done K1.out (eC.refl V1.out KD.out) HRB.out RB.out.lt RNF.out RNO.out ⟨_,RD.out⟩ set
   ·have hd:(y == v2)=false:=by simpa using he
    have HN2:=Hz (show ∀ j,j<k+1→s.1.getD j 0≠v2 from fun j hj=>by
     rcases Nat.lt_or_eq_of_le (Nat.le_of_lt_succ hj) with h1 | rfl
     ·exact HN.out j h1
     ·rw [HY.out];exact he)
    clear he;go_wp2_with fail;go_roundw
    case rel=>exact ⟨k+1,hlt,by go_num,KR.out.drew,HN2.out⟩
    case measure=>simp [intOf];omega
  ·exfalso;obtain ⟨j,hj,he⟩:=List.mem_iff_getElem.1 HM.out;refine HN.out j (by omega) ?_;rw [Ld,Le hj];exact he
end
end
end Go.Proofs.Ytjifdalflepcoab
