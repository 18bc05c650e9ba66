/-
  Parts of the proof, merged: what the functions do, and plain laws.
-/
import Derived.Test.YtjifdalflepcoabGGBP4
import Derived.Test.YtjifdalflepcoabGGBP5
import Derived.Test.YtjifdalflepcoabGGBP0
import Derived.Test.YtjifdalflepcoabGGBP1
import Derived.Test.YtjifdalflepcoabGGBP2
import Derived.Laws.EntriesVeiled
import Derived.Lib.AppendZeros
set_option maxHeartbeats 16000000
set_option maxRecDepth 100000
set_option linter.unusedVariables false
set_option linter.unusedSimpArgs false
namespace Go.Proofs.Ytjifdalflepcoab
section
open Go.RowKit
theorem Wd.qg {W:Wd} {major:Bool} (h:(W.cut major).1≠0):(W.cut major).2=W:=by
 unfold Wd.cut at h ⊢;split
 ·rfl
 ·rename_i h1;rw [if_neg h1] at h;split
  ·rfl
  ·rename_i h2;rw [if_neg h2] at h;exact (h rfl).elim
end
section
open Go.RowKit
theorem Rd.sX {w:World} {ao:Option Addr} {l:List Nat} (h:Rd w ao (l.map fun (k:Nat)=>Value.int .i64 (k:Int))) (i:Nat) (hi:i<l.length) :
  ∃ g o,ao=some ⟨g,o,none⟩∧g<w.heap.size∧w.cell? ⟨g,o+i,none⟩=some (.int .i64 ((l.getD i 0:Nat):Int)):=by
 obtain ⟨g,o,rfl,hg,hc⟩:=h (by intro e;simp at e;subst e;simp at hi);refine ⟨g,o,rfl,hg,?_⟩;rw [hc i (by simpa using hi)];simp [List.getD,hi]
theorem Wd.mI (W:Wd) (n:Int):(W.room n).2.T.length=W.T.length:=by
 unfold Wd.room;split
 ·unfold Wd.cut;split
  ·rfl
  ·split
   ·rfl
   ·exact Wd.eZ
 ·rfl
section
variable {w:World} {h:RW} {W:Wd}
end
end
section
open Go.RowKit
theorem mY:(Try.prog.info? 188).map (fun i=>(i.zero,i.size,i.bytes))=some (some (.agg #[.int .i64 0, .slice none 0 0, .bool false, .bool false]),4,40):=by kernel_rfl
theorem Wd.pt {W:Wd} {n:Int} (h:(W.room n).1≠0):(W.room n).2=W:=by
 unfold Wd.room at h ⊢;split
 ·rename_i hc;rw [if_pos hc] at h;exact Wd.qg h
 ·rfl
section
variable {w:World} {h:bT} {W:Wd}
theorem iA (r:Nat) (kd:Int) (l:List Nat) (ao:Option Addr) (cap:Nat) (H:aG w h W) (hT:W.T.length≤90000) (hr:r<12) (hl:∀ k ∈ l,k<12) (hf:aQ kd l.length=true)
  (hs:Sl w 3 1 (.slice ao l.length cap) l.length (fV l)) :
  Calls Try.prog 96 #[.pointer (some ⟨h.p,0,none⟩), .int .i64 r, .int .i64 kd, .slice ao l.length cap] w fun e w'=>e=.returned (.int .i64 (W.aW r kd (l.map fun (k:Nat)=>(k:Int))).1)∧aI w h w' (W.aW r kd (l.map fun (k:Nat)=>(k:Int))).2:=by
 have HH:=Hz H;have HF:=Hz hf;have hl12:=(aX hf).2.2.2;have HLL:=Hz hl;have HS:=Hz hs;have hok:=H.ok;have HOK:=Hz hok;have g1:=hok.g1;have g2:=hok.g2;have uo:=hok.uo;have uy:=hok.uy;have m1:=hok.m1;have m2:=hok.m2;have HN:=Hz (show ∀ c,(W.room (1+(l.length:Int))).1=c→c≠0→W.aW r kd (l.map fun (k:Nat)=>(k:Int))=(c,W) from fun c hc h0=>by
  unfold Wd.aW
  rw [List.length_map,if_neg (by rw [hc];exact h0),hc])
 have HY:=Hz (show (W.room (1+(l.length:Int))).1=0→W.aW r kd (l.map fun (k:Nat)=>(k:Int))=(0,(W.room (1+(l.length:Int))).2.put r kd ((l.map fun (k:Nat)=>(k:Int)).map (W.room (1+(l.length:Int))).2.rt)) from fun h0=>by
  unfold Wd.aW
  rw [List.length_map,if_pos h0])
 have HRM:=Hz (ru (1+(l.length:Int)) H (by omega) (by omega) (by omega));clear H hf hl hs hok;go_enter Try.func96,Try.ntmps96;go_wp2_with fail;refine HRM.out.mono ?_;rintro e w1 ⟨rfl,hto⟩;have TO:=Hz hto;clear hto HRM;by_cases h0:(W.room (1+(l.length:Int))).1=0
 case neg=>
  have HE:=Hz (HN.out _ rfl h0);have HC:=Hz (Wd.pt h0);have hd2:((W.room (1+(l.length:Int))).1 != 0)=true:=by simpa using h0
  clear h0;generalize (W.room (1+(l.length:Int))).1=cc at *;go_wp2_with fail;go_ret;exact ⟨by rw [HE.out];rfl,by rw [HE.out];have:=TO.out;rw [HC.out] at this;exact this⟩
 obtain ⟨h2,H2,ep,hk2,ho2⟩:=TO.out;have HE:=Hz (show W.aW r kd (l.map fun (k:Nat)=>(k:Int))=(0,(W.room (1+(l.length:Int))).2.put r kd (l.map fun (j:Nat)=>(W.room (1+(l.length:Int))).2.rt (j:Int))) by rw [HY.out h0,List.map_map];rfl);have HRO:=Hz (Wd.ok.room HOK.out (1+l.length) (by omega));have hrm:=HRO.out.2 h0;have hTl:(W.room (1+(l.length:Int))).2.T.length≤90000:=by rw [Wd.mI];exact hT
 have HPK:=Hz (HRO.out.1.put (r:=r) (k:=kd) (l:=l.map fun (j:Nat)=>(W.room (1+(l.length:Int))).2.rt (j:Int)) (by rw [List.length_map];exact HF.out) (fun v hv=>by
  obtain ⟨j,hj,rfl⟩:=List.mem_map.1 hv
  exact Wd.fT H2.ok (j:Int)) (by rw [List.length_map];exact hrm))
 have S2:=Hz (HS.out.ae hk2 (fun b hb e=>by
  obtain ⟨_,c,hc⟩:=HS.out.own hb;obtain ⟨_,c',T,hc',hT⟩:=HH.out.cO e;refine hc.ne hc' ?_ rfl
  rcases hT with rfl | rfl | rfl | rfl <;> decide))
 have K2:=Hz hk2;have O2:=Hz ho2;have H2:=Hz H2;rw [h0];rw [←ep];have EP:=Hz ep;clear hk2 ho2 h0 HN HY HRO TO ep hrm;generalize (W.room (1+(l.length:Int))).2=W2 at *;obtain ⟨iv,hi,hz0,hz1,hz2⟩:=b7 eT;have Vi:=Hz hi;have Vz0:=Hz hz0;have Vz1:=Hz hz1;have Vz2:=Hz hz2;clear hi hz0 hz1 hz2;obtain ⟨it,hi,hz0,hz1,hz2⟩:=b7 mY;have Ti:=Hz hi;have Tz0:=Hz hz0;have Tz1:=Hz hz1;have Tz2:=Hz hz2;clear hi hz0 hz1 hz2;go_wp2_with fail;generalize hwb:w1.alloc (.cells #[.int .i64 kd, .slice none 0 0, .bool false, .bool false] 188)=wb;have KB:=Hz (show aa (fun _=>False) w1 wb by rw [←hwb];exact (aa.refl _ _).alloc _);have TB:=Hz (show ah wb w1.heap.size [.int .i64 kd, .slice none 0 0, .bool false, .bool false] 188 by rw [←hwb];exact ah.newAt _ rfl rfl);have HB:=Hz (H2.out.same KB.out);have SB:=Hz (S2.out.ae KB.out (fun _ _ h=>h));have OB:=Hz (fun b hb=>(H2.out.cO (k:=b) hb).1);have SO:=Hz (fun b hb=>(S2.out.own (k:=b) hb).1);have ZB:=Hz (show wb.heap.size=w1.heap.size+1 by rw [←hwb];simp);have ZK:=Hz K2.out.size;clear hwb;obtain ⟨tb,htb⟩:∃ n,w1.heap.size=n:=⟨_,rfl⟩;rw [htb] at TB OB SO ZB;rw [htb];have HTB:=Hz htb;clear htb;go_loopw [25] (fun u wr=>∃ (k:Nat) (fo:Option Addr) (fc:Nat),k≤l.length∧u=.int .i64 k∧aa (·=tb) wb wr∧ah wr tb [.int .i64 kd, .slice fo k fc, .bool false, .bool false] 188∧Sl wr 78 2 (.slice fo k fc) k (aC ((l.take k).map fun (j:Nat)=>W2.rt (j:Int)))∧∀ b,ag (.slice fo k fc) b→tb+1≤b) (fun u _=>l.length-(intOf u).toNat)
 case atStart=>exact ⟨0,none,0,Nat.zero_le _,rfl,aa.refl _ _,TB.out,Sl.nil _ _ _,fun b hb=>(cF hb).elim⟩
 case round=>
  obtain ⟨k,fo,fc,hk,rfl,hK,hB,hS,hO⟩:=hrel;have KR:=Hz hK;have BR:=Hz hB;have FS:=Hz hS;have FO:=Hz hO;have HR:=Hz (HB.out.ae hK (fun b hb e=>by have:=OB.out b hb;omega));have SR:=Hz (SB.out.ae hK (fun b hb e=>by have:=SO.out b hb;omega));have b1:=hB.cell 1;have bl:=hB.lt;have bf:=hB.free 1;simp only [Lz,Ls] at b1;clear hK hB hS hO;by_cases hlt:k<l.length
  ·obtain ⟨_,_,e',rdl,-,-⟩:=SR.out.rd;cases e';obtain ⟨gl,ol,rfl,hgl,l0⟩:=rdl.sX k hlt;have hm:=HLL.out (l.getD k 0) (by rw [Ld,Le hlt];exact List.getElem_mem _);have htk:((l.take (k+1)).map fun (j:Nat)=>W2.rt (j:Int))=((l.take k).map fun (j:Nat)=>W2.rt (j:Int)) ++ [W2.rt ((l.getD k 0:Nat):Int)]:=by
    rw [List.take_add_one,Le hlt,List.map_append,Ld,Le hlt];rfl
   generalize l.getD k 0=m at *;obtain ⟨g,o,rc,erv,hg,r0,r1⟩:=HR.out.root hm;have hrl:W2.roots.length=12:=HR.out.ok.hr;obtain ⟨-,c1,-⟩:=HR.out.cells;have pl:=HR.out.hp.lt;rw [erv,hrl] at c1;have HTK:=Hz htk;have hmi:(m:Int)<12:=by omega
   generalize W2.rt (m:Int)=v at *;obtain ⟨v1,v2⟩:=v;dsimp only at r0 r1;obtain ⟨L,hL⟩:∃ L,((l.take k).map fun (j:Nat)=>W2.rt (j:Int))=L:=⟨_,rfl⟩;rw [hL] at FS;have HT2:=Hz (show ((l.take (k+1)).map fun (j:Nat)=>W2.rt (j:Int))=L ++ [(v1,v2)] by rw [HTK.out,hL]);clear rdl htk HTK hL erv hrl;go_wp2_with fail;refine aq (.free 0 (.free 2 (.free 3 (.free 4 (.free 6 (.pure 1 (.pure 5 (.free 7 (.pure 8 (.run 9 (.run 10 (.swi [12] (.free 11 (.run 12 (.swi [] (.fin)))))))))))))))) [10,11,12] (fun w'=>w'.cell? ⟨tb,1,none⟩=some (.slice fo k fc)∧w'.cell? ⟨h2.p,1,none⟩=some (.slice (some ⟨g,o,none⟩) 12 rc)∧w'.cell? ⟨g,o+m*2,none⟩=some (.int .i64 v1)∧w'.cell? ⟨g,o+m*2+1,none⟩=some (.int .i64 v2)) (by kernel_rfl) (by kernel_rfl) ⟨b1,c1,r0,r1⟩ ?_
   iterate 9 ((first | refine ak rfl rfl fun K hK=>?_ | refine aj rfl rfl fun K hK=>?_ | refine aB rfl rfl fun K hK=>?_ | refine aw rfl rfl fun K hK=>?_ | refine aA rfl rfl fun K hK=>?_);go_simp;refine hK _ ?_;clear hK K)
   refine bO rfl rfl (fun K hK=>?_);unfold aM;go_simp;have hka:aa (fun _=>False) wr ((wr.alloc (.cells #[.int .i64 v1, .int .i64 v2] 78)).drew):=((Kz wr).alloc (.cells #[.int .i64 v1, .int .i64 v2] 78)).drew;have hcc:∀ (a:Nat) (q:Nat),a<wr.heap.size→((wr.alloc (.cells #[.int .i64 v1, .int .i64 v2] 78)).drew).cell? ⟨a,q,none⟩=wr.cell? ⟨a,q,none⟩:=fun a q ha=>World.cell?_of_block (w:=wr) (a:=⟨a,q,none⟩) (hka.block a ha (fun h=>h));refine hK _ _ (fun hg'=>⟨(hcc _ _ bl).trans b1,(hcc _ _ pl).trans c1,(hcc _ _ hg).trans r0,(hcc _ _ hg).trans r1⟩) ?_;clear hK K hcc;refine aK rfl rfl rfl (fun K hK=>?_);refine de (.tmp 30) (.tmp 38) 69 rfl 78 iv (.agg #[.int .i64 0, .int .i64 0]) 2 16 Try.underlying69 Vi.out Vz0.out Vz1.out Vz2.out rfl (by decide) _ k (aC L) rfl (FS.out.ae hka (fun _ _ h=>h)) ⟨wr.heap.size,0,none⟩ 1 1 [.int .i64 v1, .int .i64 v2] rfl rfl (bM wr 78 #[.int .i64 v1, .int .i64 v2]) (by intro u hu;simp at hu;rcases hu with rfl | rfl <;> rfl) (by unfold maxLen;omega) (by omega) ?_;intro v2' w2 hs2 hk2 ho2;refine hK _ _ ?_;clear hK K;obtain ⟨ao2,ac2,rfl,-,-,-⟩:=hs2.rd;have hno:∀ b,ag (.slice fo k fc) b→b≠tb:=fun b hb e=>by have:=FO.out b hb;omega
   have hb2:=hk2.ai (hka.ai BR.out (fun h=>h)) (fun hb=>hno _ hb rfl);have KN:aa (·=tb) wb w2:=(KR.out.trans (hka.mono (fun _ _ h=>h.elim))).then hk2 (fun j hj=>.inr (by have:=FO.out j hj;rw [ZB.out];exact this));have hoN:∀ b,ag (.slice ao2 (k+1) ac2) b→tb+1≤b:=fun b hb=>by
    rcases ho2 b hb with h1 | h1
    ·exact FO.out b h1
    ·have:=BR.out.lt;first | omega | (simp at h1;omega)
   have x1:=hb2.cell 1;have xl:=hb2.lt;have xf:=hb2.free 1;simp only [Lz,Ls] at x1;have KN2:=Hz (KN.setCell (p:=⟨tb,1,none⟩) (.inl rfl) (.slice ao2 (k+1) ac2));have BN:=Hz (show ah (w2.setCell ⟨tb,1,none⟩ (.slice ao2 (k+1) ac2)) tb [.int .i64 kd, .slice ao2 (k+1) ac2, .bool false, .bool false] 188 by simpa using hb2.aF 1 (.slice ao2 (k+1) ac2));have SN:=Hz (show Sl (w2.setCell ⟨tb,1,none⟩ (.slice ao2 (k+1) ac2)) 78 2 (.slice ao2 (k+1) ac2) (k+1) (aC (L ++ [(v1,v2)])) by
    have e2:aC (L ++ [(v1,v2)])=aC L ++ [.int .i64 v1, .int .i64 v2]:=by simp [aC]
    rw [e2]
    exact hs2.ae ((aa.refl (·=tb) w2).setCell (p:=⟨tb,1,none⟩) (.inl rfl) (.slice ao2 (k+1) ac2)) (fun b hb e=>by have:=hoN b hb;omega))
   have ON:=Hz hoN;clear hs2 hk2 ho2 hka hno hb2 KN hoN b1 c1 l0 r0 r1 bl pl bf;refine aH (fun _=>True) trivial ?_
   iterate 1 ((first | refine ak rfl rfl fun K hK=>?_ | refine aj rfl rfl fun K hK=>?_);go_simp;refine hK _ ?_;clear hK K)
   refine aK rfl rfl rfl (fun K hK=>?_);unfold aM;go_simp;refine hK _ _ ?_;clear hK K;refine aH (fun _=>True) trivial (aD ?_);clear x1 xl xf;go_wp2_with fail;go_roundw
   case rel=>exact ⟨k+1,ao2,ac2,hlt,by go_num,KN2.out,BN.out,by rw [HT2.out];exact SN.out,ON.out⟩
   case measure=>simp [intOf];omega
  ·obtain rfl:k=l.length:=by omega
   rw [List.take_length] at FS;have HLN:=Hz (show (l.map fun (j:Nat)=>W2.rt (j:Int)).length=l.length from List.length_map _);obtain ⟨g,o,rc,erv,hg,-,-⟩:=HR.out.root hr;have hrl:W2.roots.length=12:=HR.out.ok.hr;obtain ⟨no,nc,eth⟩:=HR.out.tv;obtain ⟨c0,c1,-⟩:=HR.out.cells;have pl:=HR.out.hp.lt;have hrs:=HR.out.hr;rw [erv,hrl] at c1 hrs;rw [eth] at c0;have RS:=Hz hrs;have ERV:=Hz erv;have HRL:=Hz hrl;have ETH:=Hz eth;clear erv hrl eth hrs;go_wp2_with fail;have h12:(r:Int)<12:=by omega
   have h12':¬ (12:Int)≤(r:Int):=by omega
   have h12n:¬ (12:Nat)≤r:=by omega
   refine aq (.free 0 (.free 1 (.free 2 (.free 4 (.free 5 (.free 6 (.free 7 (.pure 3 (.pure 8 (.free 9 (.free 10 (.free 11 (.run 12 (.swi [] (.fin))))))))))))))) [12] (fun w'=>w'.cell? ⟨h2.p,0,none⟩=some (.slice no W2.T.length nc)∧w'.cell? ⟨h2.p,1,none⟩=some (.slice (some ⟨g,o,none⟩) 12 rc)) (by kernel_rfl) (by kernel_rfl) ⟨c0,c1⟩ ?_
   iterate 12 ((first | refine ak rfl rfl fun K hK=>?_ | refine aj rfl rfl fun K hK=>?_ | refine aB rfl rfl fun K hK=>?_ | refine aw rfl rfl fun K hK=>?_ | refine aA rfl rfl fun K hK=>?_);go_simp;refine hK _ ?_;clear hK K)
   refine aK rfl rfl rfl (fun K hK=>?_);refine bD 78 (.tmp 53) (.tmp 52) rfl rfl g o 12 rc r (aC W2.roots) 78 (.int .i64 3) (.int .i64 W2.T.length) rfl rfl (RS.out.ae (Kz wr).drew (fun _ _ h=>h)) hr (by kernel_rfl) rfl rfl ?_;intro w3 hs3 hk3 hz3;refine hK _ _ ?_;clear hK K;refine aH (fun _=>True) trivial (aD ?_);have hkw:aa (·=g) wr w3:=((Kz wr).drew.mono (fun _ _ h=>h.elim)).trans hk3;have KW:=Hz hkw;obtain ⟨_,cg,hcg⟩:=RS.out.own (k:=g) rfl;have ne:∀ {b:Nat} {c:List Value} {T:TypeId},ah wr b c T→T≠78→¬ b=g:=fun hb hT e=>hb.ne hcg hT e;have HP3:=hkw.ai HR.out.hp (ne HR.out.hp (by decide));have BR3:=hkw.ai BR.out (ne BR.out (by decide));obtain ⟨cs,hsT1,hRT⟩:=H2.out.ht;have hsT:=(hsT1.ae KB.out (fun _ _ h=>h)).ae KR.out (fun b hb e=>by have:=OB.out b (.inr (.inl hb));omega);have hsT3:=hsT.ae hkw (fun b hb=>by obtain ⟨_,c,hc⟩:=hsT.own hb;exact ne hc (by decide));have hgo:ag h2.rv g:=by rw [ERV.out];rfl
   have hgt:=OB.out g (.inr (.inr (.inl hgo)));have FS3:=FS.out.ae hkw (fun b hb e=>by have:=FO.out b hb;omega);rw [ETH.out] at hsT3;have c0:=HP3.cell 0;have pl:=HP3.lt;have t0:=BR3.cell 0;have t1:=BR3.cell 1;have t2:=BR3.cell 2;have t3:=BR3.cell 3;have bl:=BR3.lt;simp only [Lz,Ls] at c0 t0 t1 t2 t3;rw [ETH.out] at c0;have RS3:=Hz hs3;have HP3:=Hz HP3;have BR3:=Hz BR3;have TS3:=Hz hsT3;have RT:=Hz hRT;have FS3:=Hz FS3;have TS:=Hz hsT;have GO:=Hz hgo;have HGT:=Hz hgt;clear hkw hcg ne hsT hsT3 hRT hs3 hk3 hz3 b1 bf c1 hg h12 h12' h12n hgo hgt;go_wp2_with fail;refine aq (.free 0 (.free 1 (.free 2 (.free 3 (.pure 4 (.pure 5 (.run 6 (.run 7 (.swi [10] (.free 8 (.free 9 (.run 10 (.swi [] (.fin)))))))))))))) [7,8,9,10] (fun w'=>w'.cell? ⟨h2.p,0,none⟩=some (.slice no W2.T.length nc)∧w'.cell? ⟨tb,0,none⟩=some (.int .i64 kd)∧w'.cell? ⟨tb,1,none⟩=some (.slice fo l.length fc)∧w'.cell? ⟨tb,2,none⟩=some (.bool false)∧w'.cell? ⟨tb,3,none⟩=some (.bool false)) (by kernel_rfl) (by kernel_rfl) ⟨c0,t0,t1,t2,t3⟩ ?_
   iterate 6 ((first | refine ak rfl rfl fun K hK=>?_ | refine aj rfl rfl fun K hK=>?_ | refine gU rfl rfl _ (fun w' hG=>by obtain ⟨c0,t0,t1,t2,t3⟩:=hG;exact kZ (cs:=[_,_,_,_]) rfl (by decide +kernel) rfl (aE (by assumption) (aE (by assumption) (aE (by assumption) (aE (by assumption) dw))))) (fun K hK=>?_) | refine aB rfl rfl fun K hK=>?_ | refine aw rfl rfl fun K hK=>?_ | refine aA rfl rfl fun K hK=>?_);go_simp;refine hK _ ?_;clear hK K)
   refine bO rfl rfl (fun K hK=>?_);unfold aM;go_simp;have hka:aa (fun _=>False) w3 ((w3.alloc (.cells #[.int .i64 kd, .slice fo l.length fc, .bool false, .bool false] 188)).drew):=((Kz w3).alloc (.cells #[.int .i64 kd, .slice fo l.length fc, .bool false, .bool false] 188)).drew;refine hK _ _ (fun hg=>⟨(hka.ai HP3.out (fun h=>h)).cell 0 |>.trans (by simp [ETH.out]),(hka.ai BR3.out (fun h=>h)).cell 0,(hka.ai BR3.out (fun h=>h)).cell 1,(hka.ai BR3.out (fun h=>h)).cell 2,(hka.ai BR3.out (fun h=>h)).cell 3⟩) ?_;clear hK K;refine aK rfl rfl rfl (fun K hK=>?_);refine de (.tmp 58) (.tmp 60) 144 rfl 188 it (.agg #[.int .i64 0, .slice none 0 0, .bool false, .bool false]) 4 40 Try.underlying144 Ti.out Tz0.out Tz1.out Tz2.out rfl (by decide) _ W2.T.length cs rfl (TS3.out.ae hka (fun _ _ h=>h)) ⟨w3.heap.size,0,none⟩ 1 1 [.int .i64 kd, .slice fo l.length fc, .bool false, .bool false] rfl rfl (bM w3 188 #[.int .i64 kd, .slice fo l.length fc, .bool false, .bool false]) (by intro u hu;simp at hu;rcases hu with rfl | rfl | rfl <;> rfl) (by unfold maxLen;omega) (by omega) ?_;intro v4 w4 hs4 hk4 ho4;refine hK _ _ ?_;clear hK K;obtain ⟨vo4,vc4,rfl,-,-,-⟩:=hs4.rd;have nTV:∀ {b:Nat} {c:List Value} {T:TypeId},ah w3 b c T→T≠188→¬ ag (.slice no W2.T.length nc) b:=fun hb hT e=>by
    obtain ⟨_,c',hc'⟩:=TS3.out.own e;exact hb.ne hc' hT rfl
   have HP4:=Hz (hk4.ai (hka.ai HP3.out (fun h=>h)) (nTV HP3.out (by decide)));have RS4:=Hz ((RS3.out.ae hka (fun _ _ h=>h)).ae hk4 (fun b hb e=>by obtain ⟨_,c,hc⟩:=RS3.out.own hb;exact nTV hc (by decide) e));have FS4:=Hz ((FS3.out.ae hka (fun _ _ h=>h)).ae hk4 (fun b hb e=>by obtain ⟨_,c,hc⟩:=FS3.out.own hb;exact nTV hc (by decide) e));have BR4:=Hz (hk4.ai (hka.ai BR3.out (fun h=>h)) (fun e=>by
    have:=OB.out tb (.inr (.inl (by rw [ETH.out];exact e)));omega))
   have TS4:=Hz hs4;have K13:=Hz (show aa (fun b=>ag h2.rv b∨ag h2.tv b∨b=h2.p) w1 w3 from ((KB.out.mono (fun _ _ h=>h.elim)).then KR.out (fun b hb=>.inr (by rw [HTB.out,hb];exact Nat.le_refl _))).then KW.out (fun b hb=>.inl (.inl (hb ▸ GO.out))));have K14:=Hz ((K13.out.then hka (fun _ h=>h.elim)).then hk4 (fun b hb=>.inl (.inr (.inl (by rw [ETH.out];exact hb)))));have O4:=Hz (show ∀ b,ag (.slice vo4 (W2.T.length+1) vc4) b→ag h2.tv b∨w1.heap.size≤b from fun b hb=>by
    rcases ho4 b hb with h1 | h1
    ·exact .inl (by rw [ETH.out];exact h1)
    ·have:=K13.out.size;exact .inr (by first | omega | (simp at h1;omega)))
   have x0:=HP4.out.cell 0;have xl:=HP4.out.lt;have xf:=HP4.out.free 0;simp only [Lz] at x0;clear hs4 hk4 ho4 hka c0 t0 t1 t2 t3 bl pl nTV;refine aH (fun _=>True) trivial ?_
   iterate 2 ((first | refine ak rfl rfl fun K hK=>?_ | refine aj rfl rfl fun K hK=>?_);go_simp;refine hK _ ?_;clear hK K)
   refine aK rfl rfl rfl (fun K hK=>?_);unfold aM;go_simp;refine hK _ _ ?_;clear hK K;refine aH (fun _=>True) trivial (aD ?_);have hset:=(aa.refl (·=h2.p) w4).setCell (p:=⟨h2.p,0,none⟩) (.inl rfl) (.slice vo4 (W2.T.length+1) vc4);have hnp:∀ {b:Nat} {c:List Value} {T:TypeId},ah w4 b c T→T≠146→¬ b=h2.p:=fun hb hT=>hb.ne HP4.out hT;have kd0:=Kz (w4.setCell ⟨h2.p,0,none⟩ (.slice vo4 (W2.T.length+1) vc4));have HP5:=Hz (show ah (w4.setCell ⟨h2.p,0,none⟩ (.slice vo4 (W2.T.length+1) vc4)) h2.p _ _ from HP4.out.aF 0 (.slice vo4 (W2.T.length+1) vc4));have RS5:=Hz (RS4.out.ae hset (fun b hb e=>by obtain ⟨_,c,hc⟩:=RS4.out.own hb;exact hnp hc (by decide) e));have FS5:=Hz (FS4.out.ae hset (fun b hb e=>by obtain ⟨_,c,hc⟩:=FS4.out.own hb;exact hnp hc (by decide) e));have TS5:=Hz (TS4.out.ae hset (fun b hb e=>by obtain ⟨_,c,hc⟩:=TS4.out.own hb;exact hnp hc (by decide) e));have BR5:=Hz (hset.ai BR4.out (fun e=>hnp BR4.out (by decide) e));have K15:=Hz (K14.out.then hset (fun b hb=>.inl (.inr (.inr hb))));clear x0 xl xf hset hnp kd0 HP4 RS4 FS4 TS4 BR4 K14 HP3 RS3 FS3 TS3 BR3 RS SR;go_wp2_with fail;generalize w4.setCell ⟨h2.p,0,none⟩ (.slice vo4 (W2.T.length+1) vc4)=w5 at *;have p4:=HP5.out.cell 4;have pl:=HP5.out.lt;have f4:=HP5.out.free 4;have t1:=BR5.out.cell 1;have bl:=BR5.out.lt;simp only [List.set_cons_zero,Lz,Ls] at p4 t1;have hy2:=HPK.out.uy;have hm2:=HPK.out.m2;rw [Wd.jl] at hy2;have hy0:0≤W2.aL:=eP _ _;have hmo:(W2.put r kd (l.map fun (j:Nat)=>W2.rt (j:Int))).most≤256:=hm2;have hyl:W2.aL≤256:=by omega
   have hwr:IntKind.i64.wrap (W2.aL+(1+(l.length:Int)))=W2.aL+(1+l.length):=IntWalk.i64_in _ (by omega);clear hy2 hm2 hmo;refine aq (.free 0 (.free 1 (.free 2 (.pure 3 (.run 4 (.free 5 (.free 6 (.free 7 (.run 8 (.swi [] (.fin))))))))))) [8] (fun w'=>w'.cell? ⟨h2.p,4,none⟩=some (.int .i64 W2.aL)) (by kernel_rfl) (by kernel_rfl) p4 ?_
   iterate 4 ((first | refine ak rfl rfl fun K hK=>?_ | refine aj rfl rfl fun K hK=>?_ | refine aB rfl rfl fun K hK=>?_ | refine aw rfl rfl fun K hK=>?_ | refine aA rfl rfl fun K hK=>?_);go_simp;refine hK _ ?_;clear hK K)
   refine bO rfl rfl (fun K hK=>?_);unfold aM;go_simp;refine (mG (g:=tb) (o:=0) (n:=l.length) (fo:=fo) (fc:=fc) (w:=w5.drew) bl t1 (by omega)).mono ?_;rintro e w6 ⟨rfl,rfl⟩;refine hK _ _ (fun h=>h) ?_;clear hK K
   iterate 3 ((first | refine ak rfl rfl fun K hK=>?_ | refine aj rfl rfl fun K hK=>?_);go_simp;refine hK _ ?_;clear hK K)
   refine aK rfl rfl rfl (fun K hK=>?_);unfold aM;go_simp;refine hK _ _ ?_;clear hK K;refine aH (fun _=>True) trivial (aD ?_);go_wp2_with fail;go_ret;refine ⟨by rw [HE.out];rfl,?_⟩;rw [HE.out];have hset:=((aa.refl (·=h2.p) w5).setCell (p:=⟨h2.p,4,none⟩) (.inl rfl) (.int .i64 (W2.aL+(1+(l.length:Int))))).drew;have hnp:∀ {b:Nat} {c:List Value} {T:TypeId},ah w5 b c T→T≠146→¬ b=h2.p:=fun hb hT=>hb.ne HP5.out hT;have hlen:=HLN.out;have hput:=H2.out.sW (w':=(w5.setCell ⟨h2.p,4,none⟩ (.int .i64 (W2.aL+(1+(l.length:Int))))).drew) (r:=r) (kd:=kd) (l:=(l.map fun (j:Nat)=>W2.rt (j:Int))) (tv:=.slice vo4 (W2.T.length+1) vc4) (fu:=.slice fo l.length fc) (cs:=cs)
    (by rw [hlen];simpa using (HP5.out.aF 4 (.int .i64 (W2.aL+(1+(l.length:Int))))).drew) RT.out TS.out.1 (TS5.out.ae hset (fun b hb e=>by obtain ⟨_,c,hc⟩:=TS5.out.own hb;exact hnp hc (by decide) e))
    (by rw [ERV.out,HRL.out];exact RS5.out.ae hset (fun b hb e=>by obtain ⟨_,c,hc⟩:=RS5.out.own hb;exact hnp hc (by decide) e)) (by rw [hlen];exact FS5.out.ae hset (fun b hb e=>by obtain ⟨_,c,hc⟩:=FS5.out.own hb;exact hnp hc (by decide) e))
    (fun b hb=>by have:=FO.out b hb;rw [HTB.out];omega) (K15.out.then hset (fun b hb=>.inl (.inr (.inr hb)))) O4.out HPK.out
   exact aI.step EP.out K2.out O2.out hput
end
end
section
open Go.RowKit
def px (h:bT) (W:Wd) (k:Int):Value:=
 if W.au k<0 then .pointer none else match h.tv with
  | .slice (some a) _ _=>.pointer (some ⟨a.block,a.off+(W.au k).toNat*4,none⟩)
  | _=>.pointer none
section
variable {w w':World} {h:bT} {W:Wd}
theorem fR {k:Int} (hn:W.au k<0):px h W k=.pointer none:=by unfold px;rw [if_pos hn]
theorem fS {k:Int} {g o nc:Nat} (hn:¬ W.au k<0) (e:h.tv=.slice (some ⟨g,o,none⟩) W.T.length nc):px h W k=.pointer (some ⟨g,o+(W.au k).toNat*4,none⟩):=by unfold px;rw [if_neg hn,e]
theorem aG.dt (H:aG w h W) {k:Nat} (hk:k<12):∃ g o rc,h.rv=.slice (some ⟨g,o,none⟩) 12 rc∧g<w.heap.size∧w.cell? ⟨h.p,1,none⟩=some (.slice (some ⟨g,o,none⟩) 12 rc)∧w.cell? ⟨g,o+k*2,none⟩=some (.int .i64 (W.rt k).1)∧w.cell? ⟨g,o+k*2+1,none⟩=some (.int .i64 (W.rt k).2) ∧
  Sl w 78 2 (.slice (some ⟨g,o,none⟩) 12 rc) 12 (aC W.roots):=by
 obtain ⟨g,o,rc,e,hg,h0,h1⟩:=H.root hk;have hc:=H.cells.2.1;have hr:=H.hr;rw [H.ok.hr] at e hr;rw [e] at hc hr;exact ⟨g,o,rc,e,hg,hc,h0,h1,hr⟩
theorem kC (k:Nat) (hk:k<12) (H:aG w h W) :
  Calls Try.prog 135 #[.pointer (some ⟨h.p,0,none⟩), .int .i64 k] w fun e w'=>e=.returned (px h W k)∧aa (fun _=>False) w w':=by
 obtain ⟨g,o,rc,erv,hg,q1,r0,r1,-⟩:=H.dt hk;obtain ⟨p0,-⟩:=H.cells;have pl:=H.hp.lt;have hki:(k:Int)<12:=by omega
 by_cases h3:(W.rt k).1=3
 ·have hth:W.au k=(W.rt k).2:=by unfold Wd.au;rw [if_pos h3]
  have hlv:W.live (W.rt k).2:=Wd.bp (Wd.fT H.ok k) h3;obtain ⟨gt,ot,nc,etl,-,hgt,-⟩:=H.nth (i:=(W.rt k).2.toNat) (by have:=hlv.1;have:=hlv.2.1;omega);have HE:=Hz (fS (h:=h) (k:=k) (by have:=hlv.1;omega) etl);rw [etl] at p0;rw [hth] at HE;rw [h3] at r0;have h0:=hlv.1;have h1:=hlv.2.1;clear H hth hlv erv h3 etl;generalize (W.rt k).2=x at *;obtain ⟨x,rfl⟩:=Int.eq_ofNat_of_zero_le h0;rw [Int.toNat_natCast] at HE;go_enter Try.func135,Try.ntmps135;go_wp2_with fail;refine aq (.free 0 (.free 1 (.free 2 (.free 4 (.free 5 (.free 6 (.free 8 (.pure 3 (.pure 7 (.free 9 (.free 10 (.pure 11 (.free 12 (.free 13 (.fin))))))))))))))) [] (fun w'=>w'.cell? ⟨h.p,0,none⟩=some (.slice (some ⟨gt,ot,none⟩) W.T.length nc)∧w'.cell? ⟨h.p,1,none⟩=some (.slice (some ⟨g,o,none⟩) 12 rc)∧w'.cell? ⟨g,o+k*2+1,none⟩=some (.int .i64 x)) (by kernel_rfl) (by kernel_rfl) ⟨p0,q1,r1⟩ ?_
  iterate 14 ((first | refine ak rfl rfl fun K hK=>?_ | refine aj rfl rfl fun K hK=>?_ | refine aB rfl rfl fun K hK=>?_ | refine aw rfl rfl fun K hK=>?_ | refine aA rfl rfl fun K hK=>?_);go_simp;refine hK _ ?_;clear hK K)
  refine aD ?_;go_wp2_with fail;go_ret;exact ⟨by rw [HE.out];rfl,(aa.refl _ _).drew⟩
 ·have HE:=Hz (fR (h:=h) (W:=W) (k:=k) (by unfold Wd.au;rw [if_neg h3];omega));have e3:((W.rt k).1 != 3)=true:=by simpa using h3
  clear H erv h3 r1;generalize (W.rt k).1=x at *;go_enter Try.func135,Try.ntmps135;go_wp2_with fail;go_ret;exact ⟨by rw [HE.out];rfl,aa.refl _ _⟩
def qh (h:bT) (W:Wd) (a:Nat) (i c:Int) (e:Ending):Prop:=
 ∃ p:Option Addr,e=.returned (.tuple #[.pointer p, .int .i64 c])∧(c=0→∃ gf of fc,h.fv (W.au a).toNat=.slice (some ⟨gf,of,none⟩) (W.th (W.au a)).fs.length fc∧p=some ⟨gf,of+i.toNat*2,none⟩)
theorem aG.rowAt (H:aG w h W) {i:Int} (hi:W.live i):∃ g o nc fo fc,h.tv=.slice (some ⟨g,o,none⟩) W.T.length nc∧g<w.heap.size∧w.cell? ⟨g,o+i.toNat*4,none⟩=some (.int .i64 (W.th i).k) ∧
  w.cell? ⟨g,o+i.toNat*4+1,none⟩=some (.slice fo (W.th i).fs.length fc)∧h.fv i.toNat=.slice fo (W.th i).fs.length fc∧Sl w 78 2 (.slice fo (W.th i).fs.length fc) (W.th i).fs.length (aC (W.th i).fs):=by
 obtain ⟨g,o,nc,e,-,hg,-,hr⟩:=H.nth (i:=i.toNat) (by have:=hi.1;have:=hi.2.1;omega);have e2:W.T.getD i.toNat Th.none=W.th i:=rfl;rw [e2] at hr;have hs:=hr.s hi.2.2;obtain ⟨fo,fc,ef,-,-,-⟩:=hs.rd;have hf:=hr.f hi.2.2;rw [ef] at hf hs;exact ⟨g,o,nc,fo,fc,e,hg,hr.k hi.2.2,hf,ef,hs⟩
theorem mJ (a:Nat) (i:Int) (x:St) (hxa:x.a=a) (hxi:x.i=i) (ha:a<12) (H:aG w h W) :
  Calls Try.prog 99 #[.pointer (some ⟨h.p,0,none⟩), .int .i64 a, .int .i64 i] w fun e w'=>qh h W a i (W.bm x) e∧aa (fun _=>False) w w':=by
 have HO:=Hz (kC a ha H);have HC:=Hz (show W.bm x=if W.au a<0∨(W.th (W.au a)).k=5 then 2 else if i<0∨((W.th (W.au a)).fs.length:Int)≤i then 1 else 0 by unfold Wd.bm;rw [hxa,hxi]);clear hxa hxi;by_cases hn:W.au a<0
 ·rw [fR hn] at HO;have HE:=Hz (show W.bm x=2 by rw [HC.out,if_pos (.inl hn)]);clear H hn;go_enter Try.func99,Try.ntmps99;go_wp2_with fail;refine HO.out.mono ?_;rintro e w1 ⟨rfl,hk⟩;have K1:=Hz hk;clear hk;go_wp2_with fail;go_ret2;rw [HE.out];exact ⟨⟨none,rfl,fun h=>by cases h⟩,K1.out⟩
 have hlv:=Wd.bJ H.ok hn;obtain ⟨g,o,nc,fo,fc,etl,hg,t0,t1,ef,hs⟩:=H.rowAt hlv;rw [fS hn etl] at HO;have HF:=Hz ef;have HS:=Hz hs;have hfl:=(aX (H.ok.tk _ hlv)).2.2.2;have KK:=Hz (fun (w1:World) (k:aa (fun _=>False) w w1)=>(show w1.cell? ⟨g,o+(W.au a).toNat*4,none⟩=some (.int .i64 (W.th (W.au a)).k)∧w1.cell? ⟨g,o+(W.au a).toNat*4+1,none⟩=some (.slice fo (W.th (W.au a)).fs.length fc)∧g<w1.heap.size from by
  have hb:=k.block g hg (fun h=>h);refine ⟨?_,?_,Nat.lt_of_lt_of_le hg k.size⟩
  ·rw [←t0];simp only [World.cell?,hb]
  ·rw [←t1];simp only [World.cell?,hb]))
 clear t0 t1 hg etl ef hs hlv H;by_cases h5:(W.th (W.au a)).k=5
 ·have HE:=Hz (show W.bm x=2 by rw [HC.out,if_pos (.inr h5)]);rw [h5] at KK;clear h5 HC;go_enter Try.func99,Try.ntmps99;go_wp2_with fail;refine HO.out.mono ?_;rintro e w1 ⟨rfl,hk⟩;have K1:=Hz hk;obtain ⟨t0,t1,hg⟩:=KK.out _ hk;clear hk;go_wp2_with fail;go_ret2;rw [HE.out];exact ⟨⟨none,rfl,fun h=>by cases h⟩,K1.out⟩
 have e5:((W.th (W.au a)).k == 5)=false:=by simpa using h5
 have HD:=Hz (show W.bm x=if i<0∨((W.th (W.au a)).fs.length:Int)≤i then 1 else 0 by rw [HC.out,if_neg (by rintro (h1 | h1);exact hn h1;exact h5 h1)]);clear h5 hn HC;generalize (W.th (W.au a)).k=kd at *;obtain ⟨n,hnn⟩:∃ n,(W.th (W.au a)).fs.length=n:=⟨_,rfl⟩;have HN:=Hz hnn;rw [hnn] at KK HD HF hfl;clear hnn;by_cases hi:i<0
 ·have HE:=Hz (show W.bm x=1 by rw [HD.out,if_pos (.inl hi)]);clear HD;go_enter Try.func99,Try.ntmps99;go_wp2_with fail;refine HO.out.mono ?_;rintro e w1 ⟨rfl,hk⟩;have K1:=Hz hk;obtain ⟨t0,t1,hg⟩:=KK.out _ hk;clear hk;go_wp2_with fail;go_ret2;rw [HE.out];exact ⟨⟨none,rfl,fun h=>by cases h⟩,K1.out⟩
 by_cases hi2:(n:Int)≤i
 ·have HE:=Hz (show W.bm x=1 by rw [HD.out,if_pos (.inr hi2)]);clear HD;go_enter Try.func99,Try.ntmps99;go_wp2_with fail;refine HO.out.mono ?_;rintro e w1 ⟨rfl,hk⟩;have K1:=Hz hk;obtain ⟨t0,t1,hg⟩:=KK.out _ hk;clear hk;go_wp2_with fail;go_ret2;rw [HE.out];exact ⟨⟨none,rfl,fun h=>by cases h⟩,K1.out⟩
 have HE:=Hz (show W.bm x=0 by rw [HD.out,if_neg (by rintro (h1 | h1);exact hi h1;exact hi2 h1)]);obtain ⟨i,rfl⟩:=Int.eq_ofNat_of_zero_le (show 0≤i by omega);have hi3:(i:Int)<n:=by omega
 clear hi hi2 HD;obtain ⟨gf,of,rfl⟩:∃ gf of,fo=some ⟨gf,of,none⟩:=by
  have hs:=HS.out;rw [HN.out] at hs;obtain ⟨g',o',_,_,e',-⟩:=hs.laid (by omega);cases e';exact ⟨_,_,rfl⟩
 go_enter Try.func99,Try.ntmps99;go_wp2_with fail;refine HO.out.mono ?_;rintro e w1 ⟨rfl,hk⟩;have K1:=Hz hk;obtain ⟨t0,t1,hg⟩:=KK.out _ hk;clear hk;go_wp2_with fail;go_ret2;rw [HE.out];exact ⟨⟨_,rfl,fun _=>⟨gf,of,fc,by rw [HN.out];exact HF.out,rfl⟩⟩,K1.out⟩
end
end
section
open Go.RowKit
def fW (n:Nat) (met:List Int):List Value:=(List.range n).map fun (i:Nat)=>Value.int .i64 (if (i:Int) ∈ met then ((met.idxOf (i:Int):Nat):Int)+1 else 0)
theorem g8 (n:Nat) (met:List Int):(fW n met).length=n:=by simp [fW]
theorem gS {n:Nat} {met:List Int} {i:Nat} (h:i<n):(fW n met)[i]? = some (.int .i64 (if (i:Int) ∈ met then ((met.idxOf (i:Int):Nat):Int)+1 else 0)):=by
 unfold fW;rw [List.getElem?_map,List.getElem?_range h];rfl
theorem lB (n:Nat):fW n []=List.replicate n (.int .i64 0):=by
 apply List.ext_getElem?;intro i;by_cases h:i<n
 ·rw [gS h,List.getElem?_replicate,if_pos h];simp
 ·rw [List.getElem?_eq_none (by rw [g8];omega),List.getElem?_eq_none (by simp;omega)]
theorem kD {n:Nat} {met:List Int} {x:Nat} (hx:x<n) (hm:¬ (x:Int) ∈ met):(fW n met).set x (.int .i64 ((met.length:Int)+1))=fW n (met ++ [(x:Int)]):=by
 apply List.ext_getElem?;intro i;rw [List.getElem?_set];by_cases h:i<n
 ·have r1:=gS (met:=met) h;have r2:=gS (met:=met ++ [(x:Int)]) h;rw [r2,r1];by_cases e:x=i
  ·subst e;rw [if_pos rfl,if_pos (by rw [g8];exact h),if_pos (by simp),List.idxOf_append,if_neg hm];simp
  ·rw [if_neg e];have hne:¬ (i:Int)=(x:Int):=by omega
   by_cases h1:(i:Int) ∈ met
   ·rw [if_pos h1,if_pos (by simp [h1]),List.idxOf_append,if_pos h1]
   ·rw [if_neg h1,if_neg (by simp [h1,hne])]
 ·rw [if_neg (by omega),List.getElem?_eq_none (by rw [g8];omega),List.getElem?_eq_none (by rw [g8];omega)]
def fe (w:World) (b n:Nat) (met:List Int):Prop:=ah w b (fW n met) 3
theorem fe.ae {w w':World} {b n:Nat} {met:List Int} {S:Nat→Prop} (h:fe w b n met) (k:aa S w w') (hn:¬ S b):fe w' b n met:=k.ai h hn
section
variable {w w':World} {h:bT} {W:Wd}
structure bW (w:World) (q:Nat) (h:bT) (W:Wd) (b:Nat) (rv nv:Value) (F:Nat→Prop) (s:VS):Prop where
 hq:ah w q [.pointer (some ⟨h.p,0,none⟩), .slice (some ⟨b,0,none⟩) W.T.length W.T.length,rv,nv] 164
 hw:aG w h W
 hm:fe w b W.T.length s.1
 hn:bQ w nv F s.2
 hl:s.2.length=s.1.length
 hF:∀ k,F k→k<w.heap.size∧¬ (k=q∨k=b∨ag nv k)
 hO:∀ k,F k→¬ h.Own k
def fD (q b:Nat) (nv:Value) (k:Nat):Prop:=k=q∨k=b∨ag nv k
variable {q b:Nat} {rv nv:Value} {F:Nat→Prop} {s:VS}
theorem bW.gE (V:bW w q h W b rv nv F s) {k:Nat} (hk:h.Own k):¬ fD q b nv k:=by
 obtain ⟨-,c,T,hc,hT⟩:=V.hw.cO hk;have hne:T≠164∧T≠83∧T≠3:=by rcases hT with rfl | rfl | rfl | rfl <;> exact ⟨by decide,by decide,by decide⟩
 rintro (rfl | rfl | hk2)
 ·exact hc.ne V.hq hne.1 rfl
 ·exact hc.ne V.hm hne.2.2 rfl
 ·obtain ⟨_,c',hc'⟩:=V.hn.own hk2;exact hc.ne hc' hne.2.1 rfl
theorem bW.lt (V:bW w q h W b rv nv F s) {k:Nat} (hk:fD q b nv k):k<w.heap.size:=by
 rcases hk with rfl | rfl | hk
 ·exact V.hq.lt
 ·exact V.hm.lt
 ·exact (V.hn.own hk).1
theorem bW.dC (V:bW w q h W b rv nv F s) {k:Nat} {c:List Value} {T:TypeId} (hc:ah w k c T) (h1:T≠164) (h2:T≠83) (h3:T≠3):¬ fD q b nv k:=by
 rintro (rfl | rfl | hk2)
 ·exact hc.ne V.hq h1 rfl
 ·exact hc.ne V.hm h3 rfl
 ·obtain ⟨_,c',hc'⟩:=V.hn.own hk2;exact hc.ne hc' h2 rfl
theorem bW.ae {S:Nat→Prop} (V:bW w q h W b rv nv F s) (k:aa S w w') (h1:∀ j,fD q b nv j→¬ S j) (h2:∀ j,h.Own j→¬ S j) (h3:∀ j,F j→¬ S j):bW w' q h W b rv nv F s:=
 ⟨k.ai V.hq (h1 _ (.inl rfl)),V.hw.ae k h2,V.hm.ae k (h1 _ (.inr (.inl rfl))),V.hn.ae k (fun j hj _=>h3 j hj) (fun j hj=>h1 j (.inr (.inr hj))),V.hl,fun j hj=>⟨Nat.lt_of_lt_of_le (V.hF j hj).1 k.size,(V.hF j hj).2⟩,V.hO⟩
theorem bW.same (V:bW w q h W b rv nv F s) (k:aa (fun _=>False) w w'):bW w' q h W b rv nv F s:=V.ae k (fun _ _ h=>h) (fun _ _ h=>h) (fun _ _ h=>h)
def iT (w:World) (q:Nat) (h:bT) (W:Wd) (b:Nat) (rv nv:Value) (F:Nat→Prop) (s':VS) (w':World):Prop:=
 ∃ nv' F',bW w' q h W b rv nv' F' s'∧aa (fD q b nv) w w'∧(∀ k,ag nv' k→ag nv k∨w.heap.size≤k)∧∀ k,F' k→F k∨w.heap.size≤k
def kW (w:World) (q:Nat) (h:bT) (W:Wd) (b:Nat) (rv nv:Value) (F:Nat→Prop) (r:Vl × VS) (e:Ending) (w':World):Prop:=
 e=.returned (.agg #[.int .i64 r.1.1, .int .i64 r.1.2])∧iT w q h W b rv nv F r.2 w'
structure bX (w:World) (q:Nat) (h:bT) (W:Wd) (b:Nat) (rv nv:Value) (F:Nat→Prop) (s:VS) (lv:Value) (l:List Vl) (wr:World) (nv':Value) (F':Nat→Prop):Prop where
 V:bW wr q h W b rv nv' F' s
 K:aa (fD q b nv) w wr
 o1:∀ k,ag nv' k→ag nv k∨w.heap.size≤k
 o2:∀ k,F' k→F k∨w.heap.size≤k
 L:Sl wr 78 2 lv l.length (aC l)
 o3:∀ k,ag lv k→w.heap.size≤k∧¬ F' k
 ol:∀ k,h.Own k→k<w.heap.size
theorem bX.iU {lv:Value} {l:List Vl} {wr:World} {nv':Value} {F':Nat→Prop} (I:bX w q h W b rv nv F s lv l wr nv' F') {k:Nat} (hk:ag lv k):¬ fD q b nv' k∧¬ h.Own k:=by
 obtain ⟨_,c,hc⟩:=I.L.own hk;constructor
 ·rintro (rfl | rfl | h1)
  ·exact hc.ne I.V.hq (by decide) rfl
  ·exact I.V.hm.ne hc (by decide) rfl
  ·obtain ⟨_,c',hc'⟩:=I.V.hn.own h1;exact hc.ne hc' (by decide) rfl
 ·intro h1;have:=I.ol k h1;have:=(I.o3 k hk).1;omega
theorem bX.told {lv:Value} {l:List Vl} {wr w2:World} {nv':Value} {F':Nat→Prop} {s2:VS} (I:bX w q h W b rv nv F s lv l wr nv' F') (t:iT wr q h W b rv nv' F' s2 w2):∃ nv2 F2,bX w q h W b rv nv F s2 lv l w2 nv2 F2:=by
 obtain ⟨nv2,F2,V2,k2,p1,p2⟩:=t;refine ⟨nv2,F2,V2,I.K.then k2 (fun j hj=>?_),fun j hj=>?_,fun j hj=>?_,I.L.ae k2 (fun j hj=>(I.iU hj).1),fun j hj=>⟨(I.o3 j hj).1,fun hf=>?_⟩,I.ol⟩
 ·rcases hj with rfl | rfl | hj
  ·exact .inl (.inl rfl)
  ·exact .inl (.inr (.inl rfl))
  ·rcases I.o1 j hj with h | h
   ·exact .inl (.inr (.inr h))
   ·exact .inr h
 ·rcases p1 j hj with h | h
  ·exact I.o1 j h
  ·exact .inr (Nat.le_trans I.K.size h)
 ·rcases p2 j hj with h | h
  ·exact I.o2 j h
  ·exact .inr (Nat.le_trans I.K.size h)
 ·rcases p2 j hf with h | h
  ·exact (I.o3 j hj).2 h
  ·have:=(I.L.own hj).1;omega
theorem bX.app {lv:Value} {l:List Vl} {wr wa w2:World} {nv' lv2:Value} {F':Nat→Prop} {v:Vl} (I:bX w q h W b rv nv F s lv l wr nv' F') (ka:aa (fun _=>False) wr wa)
  (hs:Sl w2 78 2 lv2 (l.length+1) (aC l ++ [.int .i64 v.1, .int .i64 v.2])) (hk:aa (ag lv) wa w2) (ho:∀ k,ag lv2 k→ag lv k∨wa.heap.size≤k):bX w q h W b rv nv F s lv2 (l ++ [v]) w2 nv' F':=by
 have k2:=(ka.mono (T:=ag lv) (fun _ _ h=>h.elim)).trans hk;refine ⟨I.V.ae k2 (fun j hj hl=>(I.iU hl).1 hj) (fun j hj hl=>(I.iU hl).2 hj) (fun j hj hl=>(I.o3 j hl).2 hj),I.K.then k2 (fun j hj=>.inr (I.o3 j hj).1),I.o1,I.o2,?_,fun j hj=>?_,I.ol⟩
 ·have e:aC (l ++ [v])=aC l ++ [.int .i64 v.1, .int .i64 v.2]:=by simp [aC]
  rw [e,List.length_append];exact hs
 ·rcases ho j hj with h1 | h1
  ·exact I.o3 j h1
  ·have:=ka.size;have:=I.K.size;exact ⟨by omega,fun hf=>by have:=(I.V.hF j hf).1;omega⟩
theorem bX.same {lv:Value} {l:List Vl} {wr w2:World} {nv':Value} {F':Nat→Prop} (I:bX w q h W b rv nv F s lv l wr nv' F') (k:aa (fun _=>False) wr w2):bX w q h W b rv nv F s lv l w2 nv' F':=
 ⟨I.V.same k,I.K.trans (k.mono (fun _ _ h=>h.elim)),I.o1,I.o2,I.L.ae k (fun _ _ h=>h),I.o3,I.ol⟩
theorem bW.push {x:Int} {kd:Int} {wm wa w2:World} {nv2:Value} (V:bW w q h W b rv nv F s) (hm:fe wm b W.T.length (s.1 ++ [x])) (km:aa (·=b) w wm) (ka:aa (fun _=>False) wm wa)
  (cs:List Value) (hcs:bg 2 (dn w F) s.2 cs)
  (hs:Sl w2 83 2 nv2 (s.2.length+1) (cs ++ [.int .i64 kd, .slice none 0 0])) (hk:aa (ag nv) wa w2) (ho:∀ k,ag nv2 k→ag nv k∨wa.heap.size≤k) :
  iT w q h W b rv nv F (s.1 ++ [x],s.2 ++ [(kd,[])]) (w2.setCell ⟨q,3,none⟩ nv2):=by
 have K1:aa (fD q b nv) w w2:=((km.mono (fun j _ hj=>.inr (.inl hj))).trans (ka.mono (fun _ _ h=>h.elim))).trans (hk.mono (fun j _ hj=>.inr (.inr hj)));have K2:=K1.setCell (p:=⟨q,3,none⟩) (.inl (.inl rfl)) nv2;have hsz:=km.size;have hsz2:=ka.size;have hsz3:=hk.size;have nq:¬ ag nv q:=fun hq=>by obtain ⟨_,c,hc⟩:=V.hn.own hq;exact V.hq.ne hc (by decide) rfl
 have nb:¬ ag nv b:=fun hq=>by obtain ⟨_,c,hc⟩:=V.hn.own hq;exact V.hm.ne hc (by decide) rfl
 have qb:q≠b:=V.hq.ne V.hm (by decide);have hq2:=hk.ai (ka.ai (km.ai V.hq qb) (fun h=>h)) nq;have ne2:∀ k,ag nv2 k→k≠q:=fun k hk2 e=>by
  obtain ⟨_,c,hc⟩:=hs.own hk2;exact hc.ne hq2 (by decide) e
 have setk:=(aa.refl (·=q) w2).setCell (p:=⟨q,3,none⟩) (.inl rfl) nv2;refine ⟨nv2,F,⟨by simpa using hq2.aF 3 nv2,V.hw.ae K2 (fun j hj=>V.gE hj),?_,⟨_,by rw [List.length_append];exact hs.ae setk ne2,?_⟩,by simp [V.hl],fun j hj=>⟨?_,?_⟩,V.hO⟩,K2,fun j hj=>?_,fun j hj=>.inl hj⟩
 ·exact (hm.ae (ka.mono (T:=ag nv) (fun _ _ h=>h.elim) |>.trans hk) nb).ae setk (Ne.symm qb)
 ·refine bg.app (hcs.mono (fun a _ r hr=>hr.ae K2 (fun j hj _=>(V.hF j hj).2))) rfl ?_;exact ⟨none,0,rfl,Rd.nil _ _,(fun a ha=>by cases ha),Nat.zero_le _⟩
 ·have:=(V.hF j hj).1;have:=K2.size;omega
 ·rintro (e | e | e)
  ·exact (V.hF j hj).2 (.inl e)
  ·exact (V.hF j hj).2 (.inr (.inl e))
  ·rcases ho j e with h1 | h1
   ·exact (V.hF j hj).2 (.inr (.inr h1))
   ·have:=(V.hF j hj).1;omega
 ·rcases ho j hj with h1 | h1
  ·exact .inl h1
  ·exact .inr (by omega)
theorem bX.done {lv:Value} {l:List Vl} {wr:World} {nv':Value} {F':Nat→Prop} {kd:Int} {n:Nat} {g o cap:Nat} {ao:Option Addr} {lc:Nat} (hlv:lv=.slice ao l.length lc) (I:bX w q h W b rv nv F s lv l wr nv' F')
  (hnv:nv'=.slice (some ⟨g,o,none⟩) s.2.length cap) (hn:s.2[n]? = some (kd,[])):iT w q h W b rv nv F (s.1,s.2.set n (kd,l)) (wr.setCell ⟨g,o+n*2+1,none⟩ lv):=by
 subst hnv hlv;have hlt:n<s.2.length:=(List.getElem?_eq_some_iff.1 hn).1;have hgo:ag (.slice (some ⟨g,o,none⟩) s.2.length cap) g:=rfl;have hne:=fun k hk=>I.iU (k:=k) hk;have setk:=(aa.refl (·=g) wr).setCell (p:=⟨g,o+n*2+1,none⟩) (.inl rfl) (.slice ao l.length lc);have K2:aa (fD q b nv) w (wr.setCell ⟨g,o+n*2+1,none⟩ (.slice ao l.length lc)):=I.K.setCell (p:=⟨g,o+n*2+1,none⟩) (by
  rcases I.o1 g hgo with h1 | h1
  ·exact .inl (.inr (.inr h1))
  ·exact .inr h1) _
 obtain ⟨cs,hs,hr⟩:=I.V.hn;have hgq:¬ q=g:=fun e=>by
  obtain ⟨_,c,hc⟩:=hs.own hgo;exact I.V.hq.ne hc (by decide) e
 have hgb:¬ b=g:=fun e=>by
  obtain ⟨_,c,hc⟩:=hs.own hgo;exact I.V.hm.ne hc (by decide) e
 obtain ⟨ao',cap',e1,hrd,hcm,hnc⟩:=I.L.rd;cases e1;have hlF:∀ k,ag (.slice ao l.length lc) k→¬ k=g:=fun k hk e=>by
  subst e;exact (hne _ hk).1 (.inr (.inr hgo))
 refine ⟨.slice (some ⟨g,o,none⟩) s.2.length cap,fun k=>F' k∨ag (.slice ao l.length lc) k,⟨setk.ai I.V.hq hgq,I.V.hw.ae setk (fun j hj e=>?_),I.V.hm.ae setk hgb,?_,by simp [I.V.hl],fun j hj=>?_,fun j hj=>hj.elim (I.V.hO j) (fun h=>(hne j h).2)⟩,K2,I.o1,fun j hj=>?_⟩
 ·subst e;exact I.V.gE hj (.inr (.inr hgo))
 ·have hsl:(s.2.set n (kd,l)).length=s.2.length:=by simp
  refine ⟨cs.set (n*2+1) (.slice ao l.length lc),?_,?_⟩
  ·rw [hsl];exact hs.set (j:=n*2+1) (by omega)
  ·have hr':bg 2 (dn (wr.setCell ⟨g,o+n*2+1,none⟩ (.slice ao l.length lc)) (fun k=>F' k∨ag (.slice ao l.length lc) k)) s.2 cs:=
    hr.mono (fun a _ r h1=>(h1.ae setk (fun j hj _ e=>by subst e;exact (I.V.hF j hj).2 (.inr (.inr hgo)))).more (fun j hj=>.inl hj))
   refine bg.setCell hlt (by decide) hr' (fun r h2 h3=>?_);have e2:s.2[n]=(kd,[]):=by rw [Le hlt] at hn;exact Option.some.inj hn
   rw [e2] at h3;obtain ⟨_,_,rfl,-⟩:=h3;refine ⟨ao,lc,rfl,hrd.ae setk (fun a ha _ e=>?_),fun a ha=>.inr ?_,hcm⟩
   ·subst ha;exact hlF a.block rfl e
   ·subst ha;rfl
 ·rcases hj with hj | hj
  ·exact ⟨Nat.lt_of_lt_of_le (I.V.hF j hj).1 setk.size,(I.V.hF j hj).2⟩
  ·exact ⟨Nat.lt_of_lt_of_le (I.L.own hj).1 setk.size,(hne j hj).1⟩
 ·rcases hj with hj | hj
  ·exact I.o2 j hj
  ·exact .inr (I.o3 j hj).1
end
end
section
open Go.RowKit
section
variable {w w':World} {h:bT} {W:Wd} {q b:Nat} {rv nv:Value} {F:Nat→Prop} {s:VS}
theorem bW.seen (V:bW w q h W b rv nv F s) {i:Nat} (hi:i<W.T.length):w.cell? ⟨b,i,none⟩=some (.int .i64 (if (i:Int) ∈ s.1 then ((s.1.idxOf (i:Int):Nat):Int)+1 else 0)):=(V.hm.cell i).trans (gS hi)
theorem bW.cells (V:bW w q h W b rv nv F s):w.cell? ⟨q,0,none⟩=some (.pointer (some ⟨h.p,0,none⟩))∧w.cell? ⟨q,1,none⟩=some (.slice (some ⟨b,0,none⟩) W.T.length W.T.length)∧w.cell? ⟨q,2,none⟩=some rv∧w.cell? ⟨q,3,none⟩=some nv∧q<w.heap.size:=
 ⟨V.hq.cell 0,V.hq.cell 1,V.hq.cell 2,V.hq.cell 3,V.hq.lt⟩
theorem kE (v:Vl) (n:Nat) (V:bW w q h W b rv nv F s) (hv:v.1=3→W.live v.2) (hm:v.1=3→v.2 ∈ s.1) (hl:s.1.length≤1000000) :
  Calls Try.prog 107 #[.pointer (some ⟨q,0,none⟩), .agg #[.int .i64 v.1, .int .i64 v.2]] w fun e w'=>kW w q h W b rv nv F (valM W.gr n v s) e w':=by
 have HV:=Hz V;obtain ⟨kd,x⟩:=v;dsimp only at hv hm ⊢;have ka:=(Kz w).alloc (.cells #[.int .i64 kd, .int .i64 x] 78);have hb1:ah (w.alloc (.cells #[.int .i64 kd, .int .i64 x] 78)) w.heap.size [.int .i64 kd, .int .i64 x] 78:=ah.newAt _ rfl rfl;have ka2:=ka.alloc (.cells #[.int .i64 0, .int .i64 0] 78);have hb2:ah ((w.alloc (.cells #[.int .i64 kd, .int .i64 x] 78)).alloc (.cells #[.int .i64 0, .int .i64 0] 78)) (w.heap.size+1) [.int .i64 0, .int .i64 0] 78:=ah.newAt _ (by simp) rfl;have B1:=Hz (hb1.alloc (.cells #[.int .i64 0, .int .i64 0] 78));have B2:=Hz hb2;have V1:=Hz (V.same ka2);have KA:=Hz ka2;clear ka hb1 hb2 ka2 V;go_enter Try.func107,Try.ntmps107;go_upto_region 1 with fail
 generalize (w.alloc (.cells #[.int .i64 kd, .int .i64 x] 78)).alloc (.cells #[.int .i64 0, .int .i64 0] 78)=w1 at *;obtain ⟨sb,hsb⟩:∃ k,w.heap.size=k:=⟨_,rfl⟩;rw [hsb] at B1 B2;rw [hsb];have HSB:=Hz hsb;clear hsb;have s0:=B1.out.cell 0;have s1:=B1.out.cell 1;have sl:=B1.out.lt;have l0:=B2.out.cell 0;have l1:=B2.out.cell 1;have ll:=B2.out.lt;have f0:=B2.out.free 0;have f1:=B2.out.free 1;simp only [Lz,Ls] at s0 s1 l0 l1;have FIN:=Hz (fun (wz:World) (k:aa (·=sb+1) w1 wz)=>(show iT w q h W b rv nv F s wz from by
  have ho:∀ j,h.Own j→j<w.heap.size:=fun j hj=>HV.out.hw.dE hj;have V2:=V1.out.ae k (fun j hj e=>by have:=HV.out.lt hj;rw [HSB.out] at this;omega) (fun j hj e=>by have:=ho j hj;rw [HSB.out] at this;omega) (fun j hj e=>by have:=(HV.out.hF j hj).1;rw [HSB.out] at this;omega)
  exact ⟨nv,F,V2,(KA.out.mono (fun _ _ h=>h.elim)).then k (fun j hj=>.inr (by rw [HSB.out];omega)),fun j hj=>.inl hj,fun j hj=>.inl hj⟩))
 by_cases h3:kd=3
 case neg=>
  have HE:=Hz (show valM W.gr n (kd,x) s=((kd,x),s) from cj W.gr n s h3);have e3:(kd != 3)=true:=by simpa using h3
  clear h3;go_wp2_with (refine bd rfl 78 (.tmp 3) rfl (by kernel_rfl) sb 0 rfl _ _ s0 s1 ?_);have hb2:=(B2.out.aF 0 (.int .i64 kd)).aF 1 (.int .i64 x);have x0:=hb2.cell 0;have x1:=hb2.cell 1;simp only [List.set_cons_zero,List.set_cons_succ,Lz,Ls] at x0 x1;refine bodyPost_ret (v:=.agg #[.int .i64 kd, .int .i64 x]) (by simp [results,Try.results107,go_sem,x0,x1]) rfl ?_;refine ⟨by rw [HE.out],?_⟩;rw [HE.out];exact FIN.out _ (((aa.refl (·=sb+1) w1).setCell (p:=⟨sb+1,0,none⟩) (.inl rfl) _).setCell (p:=⟨sb+1,1,none⟩) (.inl rfl) _)
 subst h3;have HM:=Hz (hm rfl);have hlv:=hv rfl;obtain ⟨x,rfl⟩:=Int.eq_ofNat_of_zero_le hlv.1;have HE:=Hz (show valM W.gr n (3,(x:Int)) s=(eu (s.1.idxOf (x:Int)),s) from dx W.gr n rfl HM.out);have hxl:x<W.T.length:=by have:=hlv.2.1;omega
 have hxi:(x:Int)<W.T.length:=hlv.2.1;have hx0:=V1.out.seen hxl;rw [if_pos HM.out] at hx0;have hil:s.1.idxOf (x:Int)≤1000000:=by have:=List.idxOf_le_length (l:=s.1) (a:=(x:Int));omega
 obtain ⟨-,q1,-,-,ql⟩:=V1.out.cells;have hbl:=V1.out.hm.lt;clear hm hv hlv;generalize s.1.idxOf (x:Int)=ix at *;have hne:(((ix:Int)+1) == 0)=false:=by simp;omega
 have hwr:IntKind.i64.wrap (ix:Int)=(ix:Int):=IntWalk.i64_in _ (by omega);go_wp2_with fail;refine aq (.free 0 (.free 1 (.free 2 (.free 4 (.pure 3 (.pure 5 (.free 6 (.pure 7 (.free 8 (.fin)))))))))) [] (fun w'=>w'.cell? ⟨q,1,none⟩=some (.slice (some ⟨b,0,none⟩) W.T.length W.T.length)∧w'.cell? ⟨sb,1,none⟩=some (.int .i64 x)∧w'.cell? ⟨b,x,none⟩=some (.int .i64 ((ix:Int)+1))) (by kernel_rfl) (by kernel_rfl) ⟨q1,s1,hx0⟩ ?_
 iterate 9 ((first | refine ak rfl rfl fun K hK=>?_ | refine aj rfl rfl fun K hK=>?_ | refine aB rfl rfl fun K hK=>?_ | refine aw rfl rfl fun K hK=>?_ | refine aA rfl rfl fun K hK=>?_);go_simp;refine hK _ ?_;clear hK K)
 refine aD ?_;go_wp2_with fail;refine aq (.free 0 (.free 1 (.free 2 (.free 4 (.pure 3 (.pure 5 (.free 6 (.pure 7 (.free 8 (.free 9 (.run 10 (.swi [] (.fin))))))))))))) [10] (fun w'=>w'.cell? ⟨q,1,none⟩=some (.slice (some ⟨b,0,none⟩) W.T.length W.T.length)∧w'.cell? ⟨sb,1,none⟩=some (.int .i64 x)∧w'.cell? ⟨b,x,none⟩=some (.int .i64 ((ix:Int)+1))) (by kernel_rfl) (by kernel_rfl) ⟨q1,s1,hx0⟩ ?_
 iterate 10 ((first | refine ak rfl rfl fun K hK=>?_ | refine aj rfl rfl fun K hK=>?_ | refine aB rfl rfl fun K hK=>?_ | refine aw rfl rfl fun K hK=>?_ | refine aA rfl rfl fun K hK=>?_);go_simp;refine hK _ ?_;clear hK K)
 refine aK rfl rfl rfl (fun K hK=>?_);unfold aM;go_simp;refine hK _ _ ?_;clear hK K;refine aH (fun _=>True) trivial (aD ?_);go_wp2_with fail;have hb2:=((B2.out.aF 0 (.int .i64 3)).aF 1 (.int .i64 ix)).drew.drew;have x0:=hb2.cell 0;have x1:=hb2.cell 1;simp only [List.set_cons_zero,List.set_cons_succ,Lz,Ls] at x0 x1;refine bodyPost_ret (v:=.agg #[.int .i64 3, .int .i64 ix]) (by simp [results,Try.results107,go_sem,x0,x1]) rfl ?_;refine ⟨by rw [HE.out];rfl,?_⟩;rw [HE.out];exact FIN.out _ ((((aa.refl (·=sb+1) w1).setCell (p:=⟨sb+1,0,none⟩) (.inl rfl) _).setCell (p:=⟨sb+1,1,none⟩) (.inl rfl) _).drew.drew)
end
end
section
open Go.RowKit
section
variable {w w':World} {h:bT} {W:Wd} {q b:Nat} {rv nv:Value} {F:Nat→Prop} {s:VS}
def mK (h:bT) (W:Wd) (q b:Nat) (rv:Value) (n:Nat):Prop:=∀ (v:Vl) (nv:Value) (F:Nat→Prop) (s:VS) (w:World),bW w q h W b rv nv F s→(v.1=3→W.live v.2)→cK W.all s.1≤n→s.1.length+cK W.all s.1≤5000 →
 Calls Try.prog 107 #[.pointer (some ⟨q,0,none⟩), .agg #[.int .i64 v.1, .int .i64 v.2]] w fun e w'=>kW w q h W b rv nv F (valM W.gr n v s) e w'
theorem py {x:Int} {j:Nat} (hj:j<(W.th x).fs.length):(W.gr x).2[j]? = some ((W.th x).fs.getD j (0,0)):=by
 show ((W.th x).fs ++ _)[j]? = _
 rw [List.getElem?_append_left hj,Ld,Le hj];rfl
theorem qi {x:Int} {j:Nat} (hk:(W.th x).k=5) (h0:(W.th x).fs.length=0) (hj:j<(cS W.wait x).length):(W.gr x).2[j]? = some (3,(cS W.wait x).getD j 0):=by
 show ((W.th x).fs ++ (if (W.th x).k=5 then (cS W.wait x).map fun y=>((3,y):Vl) else []))[j]? = _
 rw [if_pos hk,List.length_eq_zero_iff.1 h0,List.nil_append,List.getElem?_map,Le hj,Ld,Le hj];rfl
theorem ry {x:Int}:(W.gr x).2.length=(W.th x).fs.length+if (W.th x).k=5 then (cS W.wait x).length else 0:=by
 show ((W.th x).fs ++ (if (W.th x).k=5 then (cS W.wait x).map fun y=>((3,y):Vl) else [])).length=_
 rw [List.length_append];split <;> simp
theorem rz (n:Nat) (ih:mK h W q b rv n) (x:Nat) (nv:Value) (F:Nat→Prop) (s:VS) (w:World) (V:bW w q h W b rv nv F s) (hlv:W.live (x:Int)) (hm:¬ (x:Int) ∈ s.1) (hT:W.T.length≤100000)
  (hu:cK W.all s.1≤n+1) (hc:s.1.length+cK W.all s.1≤5000) :
  Calls Try.prog 144 #[.pointer (some ⟨q,0,none⟩), .int .i64 x] w fun e w'=>e=.returned (.tuple #[])∧iT w q h W b rv nv F (valM W.gr (n+1) (3,(x:Int)) s).2 w':=by
 have HV:=Hz V;have HLV:=Hz hlv;have HOK:=Hz V.hw.ok;have hx:=Wd.fL.2 hlv;have HNEW:=Hz (df W.gr n (v:=(3,(x:Int))) rfl hm);have HM:=Hz hm;have HX:=Hz hx;have hp:=gN hx hm;have HU:=Hz (show cK W.all (s.1 ++ [(x:Int)])≤n by omega);have HC:=Hz (show (s.1 ++ [(x:Int)]).length+cK W.all (s.1 ++ [(x:Int)])≤5000 by rw [List.length_append];simp;omega);have hl5:s.1.length≤5000:=by omega
 obtain ⟨ni,hi,hz0,hz1,hz2⟩:=b7 jh;have Ni:=Hz hi;have Nz0:=Hz hz0;have Nz1:=Hz hz1;have Nz2:=Hz hz2;clear hi hz0 hz1 hz2;obtain ⟨vi,hi,hz0,hz1,hz2⟩:=b7 eT;have Vi:=Hz hi;have Vz0:=Hz hz0;have Vz1:=Hz hz1;have Vz2:=Hz hz2;clear hi hz0 hz1 hz2;obtain ⟨cs,hsl,hcs⟩:=V.hn;obtain ⟨no,nc,rfl,-,hnm,-⟩:=hsl.rd;have HSL:=Hz hsl;have HCS:=Hz hcs;have HLL:=Hz V.hl;have hs5:s.2.length≤5000:=by rw [V.hl];exact hl5
 have hxl:x<W.T.length:=by have:=hlv.2.1;omega
 have hxi:(x:Int)<W.T.length:=hlv.2.1;have hx0:=V.seen hxl;rw [if_neg hm] at hx0;have hbf:=V.hm.free x;have hbl:=V.hm.lt;obtain ⟨c0,c1,-,c3,cl⟩:=V.cells;obtain ⟨gt,ot,ntc,fo,fc,etl,hgt,t0,t1,efv,hfs⟩:=V.hw.rowAt hlv;rw [Int.toNat_natCast] at t0 t1 efv;obtain ⟨p0,-⟩:=V.hw.cells;rw [etl] at p0;have pl:=V.hw.hp.lt;have hwr:IntKind.i64.wrap ((s.2.length:Int)+1)=(s.2.length:Int)+1:=IntWalk.i64_in _ (by omega);have HTV:=Hz etl;clear hm hp hu hc hsl hcs hnm hfs efv etl V hx hlv;go_enter Try.func144,Try.ntmps144;go_upto_region 2 with fail
 have hset:=HV.out.hm.aF x (.int .i64 ((s.2.length:Int)+1));rw [HV.out.hl,kD hxl HM.out,←HV.out.hl] at hset;have KM:=Hz ((aa.refl (·=b) w).setCell (p:=⟨b,x,none⟩) (.inl rfl) (.int .i64 ((s.2.length:Int)+1)));have HSEE:=Hz (show fe _ b W.T.length (s.1 ++ [(x:Int)]) from hset);have Wm:=Hz (HV.out.hw.ae KM.out (fun j hj e=>HV.out.gE hj (.inr (.inl e))));have HQM:=Hz (KM.out.ai HV.out.hq (fun e=>HV.out.hq.ne HV.out.hm (by decide) e));clear hset hx0 hbf hbl c0 c1 c3 cl t0 t1 p0 pl hgt hwr;generalize w.setCell ⟨b,x,none⟩ (.int .i64 ((s.2.length:Int)+1))=wm at *;have c0:=HQM.out.cell 0;have c3:=HQM.out.cell 3;have cl:=HQM.out.lt;simp only [Lz,Ls] at c0 c3;obtain ⟨gt',ot',ntc',fo,fc,etl,hgt,t0,t1,efv,hfs⟩:=Wm.out.rowAt HLV.out;rw [HTV.out] at etl;cases etl;rw [Int.toNat_natCast] at t0 t1 efv;obtain ⟨p0,-⟩:=Wm.out.cells;rw [HTV.out] at p0;have pl:=Wm.out.hp.lt;have HFS:=Hz hfs;have HEF:=Hz efv;have hfl:=(aX (HOK.out.tk _ HLV.out)).2.2.2;have HFT:=Hz (HOK.out.tk _ HLV.out);have HFV:=Hz (fun j (hj:j<(W.th (x:Int)).fs.length)=>py (W:=W) (x:=(x:Int)) hj);have HLEN:=Hz (ry (W:=W) (x:=(x:Int)));have HWT:=Hz (fun j hk h0 hj=>qi (W:=W) (x:=(x:Int)) (j:=j) hk h0 hj);have HTVV:=Hz (HOK.out.tv _ HLV.out);clear efv hfs;go_upto_region 3 with fail
 obtain ⟨kd,hkd⟩:∃ k,(W.th (x:Int)).k=k:=⟨_,rfl⟩;have HKT:=Hz hkd;rw [hkd] at t0;clear hkd;refine aq (.free 0 (.free 1 (.free 2 (.free 3 (.free 4 (.free 6 (.free 7 (.free 8 (.pure 5 (.pure 9 (.free 10 (.run 11 (.run 12 (.swi [16] (.free 13 (.free 14 (.free 15 (.run 16 (.swi [] (.fin)))))))))))))))))))) [12,13,14,15,16] (fun w'=>w'.cell? ⟨q,3,none⟩=some (.slice no s.2.length nc)∧w'.cell? ⟨gt,ot+x*4,none⟩=some (.int .i64 kd)) (by kernel_rfl) (by kernel_rfl) ⟨c3,t0⟩ ?_
 iterate 11 ((first | refine ak rfl rfl fun K hK=>?_ | refine aj rfl rfl fun K hK=>?_ | refine aB rfl rfl fun K hK=>?_ | refine aw rfl rfl fun K hK=>?_ | refine aA rfl rfl fun K hK=>?_);go_simp;refine hK _ ?_;clear hK K)
 refine bO rfl rfl (fun K hK=>?_);unfold aM;go_simp;have hka:aa (fun _=>False) wm ((wm.alloc (.cells #[.int .i64 kd, .slice none 0 0] 83)).drew):=((Kz wm).alloc (.cells #[.int .i64 kd, .slice none 0 0] 83)).drew;refine hK _ _ (fun _=>⟨(World.cell?_of_block (w:=wm) (a:=⟨q,3,none⟩) (hka.block _ cl (fun h=>h))).trans c3,(World.cell?_of_block (w:=wm) (a:=⟨gt,ot+x*4,none⟩) (hka.block _ hgt (fun h=>h))).trans t0⟩) ?_;clear hK K;refine aK rfl rfl rfl (fun K hK=>?_);refine de (.tmp 39) (.tmp 45) 70 rfl 83 ni (.agg #[.int .i64 0, .slice none 0 0]) 2 32 Try.underlying70 Ni.out Nz0.out Nz1.out Nz2.out rfl (by decide) _ s.2.length cs rfl ((HSL.out.ae KM.out (fun j hj e=>by subst e;obtain ⟨_,c,hc⟩:=HSL.out.own hj;exact HV.out.hm.ne hc (by decide) rfl)).ae hka (fun _ _ h=>h)) ⟨wm.heap.size,0,none⟩ 1 1 [.int .i64 kd, .slice none 0 0] rfl rfl (bM wm 83 #[.int .i64 kd, .slice none 0 0]) (by intro u hu;simp at hu;rcases hu with rfl | rfl <;> rfl) (by unfold maxLen;omega) (by omega) ?_;intro v2 w2 hs2 hk2 ho2;refine hK _ _ ?_;clear hK K;have HT2:=Hz (HV.out.push (x:=(x:Int)) (kd:=kd) HSEE.out KM.out hka cs HCS.out hs2 hk2 ho2);have nq:¬ ag (.slice no s.2.length nc) q:=fun hq=>by obtain ⟨_,c,hc⟩:=HSL.out.own hq;exact HV.out.hq.ne hc (by decide) rfl
 have hq2:=hk2.ai (hka.ai HQM.out (fun h=>h)) nq;have x3:=hq2.cell 3;have xl:=hq2.lt;have xf:=hq2.free 3;simp only [Lz,Ls] at x3;obtain ⟨vo2,vc2,rfl,-,-,-⟩:=hs2.rd;clear hs2 hk2 ho2 hka nq hq2 c3 c0 cl t0 t1 p0 pl hgt;refine aH (fun _=>True) trivial ?_
 iterate 3 ((first | refine ak rfl rfl fun K hK=>?_ | refine aj rfl rfl fun K hK=>?_);go_simp;refine hK _ ?_;clear hK K)
 refine aK rfl rfl rfl (fun K hK=>?_);unfold aM;go_simp;refine hK _ _ ?_;clear hK K;refine aH (fun _=>True) trivial (aD ?_);clear x3 xl xf;have HI:=Hz (show ∃ nv1 F1,bX w q h W b rv (.slice no s.2.length nc) F (s.1 ++ [(x:Int)],s.2 ++ [(kd,[])]) (.slice none 0 0) [] (w2.setCell ⟨q,3,none⟩ (.slice vo2 (s.2.length+1) vc2)) nv1 F1 by
  obtain ⟨nv1,F1,V1,k1,p1,p2⟩:=HT2.out
  exact ⟨nv1,F1,V1,k1,p1,p2,Sl.nil _ _ _,fun k hk=>(cF hk).elim,fun k hk=>HV.out.hw.dE hk⟩)
 clear HT2;generalize w2.setCell ⟨q,3,none⟩ (.slice vo2 (s.2.length+1) vc2)=w3 at *;have hkd:(W.gr (x:Int)).1=kd:=HKT.out;have HKP:=Hz (fun j=>nh W.gr n (x:Int) s j HLL.out);have HUN:=Hz (fun j=>oS (Wd.rV HOK.out) (n:=n) (s:=s) HX.out j HU.out HC.out);have HI0:=Hz (show ∃ nv1 F1,bX w q h W b rv (.slice no s.2.length nc) F (NS W.gr n (x:Int) s 0).2 (.slice none 0 0) (NS W.gr n (x:Int) s 0).1 w3 nv1 F1 by rw [ng,hkd];exact HI.out);have HKD:=Hz hkd;clear HI hkd;have ih':=Hz ih;obtain ⟨f,hff⟩:∃ f,(W.th (x:Int)).fs.length=f:=⟨_,rfl⟩;have HFF:=Hz hff;rw [hff] at HFV HLEN HEF hfl;rw [HKT.out] at HLEN;have ROW:=Hz (fun (wx:World) (G:aG wx h W)=>(show gt<wx.heap.size∧wx.cell? ⟨gt,ot+x*4,none⟩=some (.int .i64 kd)∧wx.cell? ⟨gt,ot+x*4+1,none⟩=some (.slice fo f fc)∧Sl wx 78 2 (.slice fo f fc) f (aC (W.th (x:Int)).fs) from by
  obtain ⟨gt',ot',ntc',fo',fc',etl,hgt,t0,t1,efv,hfs⟩:=G.rowAt HLV.out;rw [HTV.out] at etl;cases etl;rw [Int.toNat_natCast] at t0 t1 efv;rw [HEF.out,hff] at efv;cases efv;rw [hff] at t1 hfs;rw [HKT.out] at t0
  exact ⟨hgt,t0,t1,hfs⟩))
 clear hff HFS;obtain ⟨hgt,t0,t1,-⟩:=ROW.out w3 HI0.out.choose_spec.choose_spec.V.hw;go_wp2_with fail;clear hgt t0 t1;go_loopw [6,55] (fun lv i wr=>∃ (j:Nat) (nv1:Value) (F1:Nat→Prop),j≤f∧i=.int .i64 j∧bX w q h W b rv (.slice no s.2.length nc) F (NS W.gr n (x:Int) s j).2 lv (NS W.gr n (x:Int) s j).1 wr nv1 F1) (fun _ i _=>f-(intOf i).toNat)
 case atStart=>
  obtain ⟨nv1,F1,hI⟩:=HI0.out;exact ⟨0,nv1,F1,Nat.zero_le _,rfl,hI⟩
 case round=>
  clear HI0;obtain ⟨j,nv1,F1,hj,rfl,hI⟩:=hrel;have HI:=Hz hI;by_cases hlt:j<f
  ·have HST:=Hz (kO W.gr n (x:Int) s (HFV.out j hlt));have hjl:=l5 W.gr n (x:Int) s (j:=j) (by rw [HLEN.out];omega);have HJL:=Hz hjl;obtain ⟨hgt,-,-,hfs⟩:=ROW.out wr hI.V.hw;obtain ⟨_,_,e',hrd,-,-⟩:=hfs.rd;cases e';obtain ⟨gf,of,rfl,hgf,u0,u1⟩:=hrd.dA j (by rw [HFF.out];exact hlt);obtain ⟨lo,lc,rfl,-,-,-⟩:=hI.L.rd;rw [hjl] at HI ⊢;have hin:(W.th (x:Int)).fs.getD j (0,0) ∈ (W.th (x:Int)).fs:=by rw [Ld,Le (by rw [HFF.out];exact hlt)];exact List.getElem_mem _
   have HVL:=Hz (fun h3=>Wd.bp (HTVV.out _ hin) h3);clear hI hjl hfs hrd hin;generalize (W.th (x:Int)).fs.getD j (0,0)=v at *;have hji:(j:Int)<f:=by omega
   go_upto_region 8 with (refine bd rfl 78 (.tmp 57) rfl (by kernel_rfl) gf (of+j*2) rfl _ _ u0 u1 ?_);have ka:=(Kz wr).alloc (.cells #[.int .i64 v.1, .int .i64 v.2] 78);have BV:=Hz (show ah (wr.alloc (.cells #[.int .i64 v.1, .int .i64 v.2] 78)) wr.heap.size _ 78 from ah.newAt _ rfl rfl);have HI1:=Hz (HI.out.same ka);clear ka u0 u1 hgf hgt HI;generalize wr.alloc (.cells #[.int .i64 v.1, .int .i64 v.2] 78)=wv at *;generalize wr.heap.size=vb at *;have c0:=BV.out.cell 0;have c1:=BV.out.cell 1;have cl:=BV.out.lt;simp only [Lz,Ls] at c0 c1;go_wp2_with (refine bd rfl 78 (.tmp 8) rfl (by kernel_rfl) vb 0 rfl _ _ c0 c1 ?_);refine (ih'.out v nv1 F1 _ _ HI1.out.V HVL.out (HUN.out j).1 (HUN.out j).2).mono ?_;rintro e w4 ⟨rfl,ht⟩;obtain ⟨nv2,F2,hI2⟩:=HI1.out.told ht;obtain ⟨⟨⟨r1,r2⟩,sr⟩,hr⟩:∃ t,valM W.gr n v (NS W.gr n (x:Int) s j).2=t:=⟨_,rfl⟩;rw [hr] at hI2 HST ⊢;dsimp only at hI2 HST ⊢;have HI2:=Hz hI2;have HL2:=Hz (show Sl w4 78 2 (.slice lo j lc) j (aC (NS W.gr n (x:Int) s j).1) by have:=hI2.L;rw [HJL.out] at this;exact this);clear hI2 ht c0 c1 cl hr HI1 BV;go_wp2_with (at_builtin;refine cB rfl (.tmp 59) (.tmp 63) 69 rfl 78 vi (.agg #[.int .i64 0, .int .i64 0]) 2 16 Try.underlying69 Vi.out Vz0.out Vz1.out Vz2.out rfl (by decide) _ j (aC (NS W.gr n (x:Int) s j).1) rfl (HL2.out.ae ((Kz w4).alloc _) (fun _ _ h=>h)) ⟨(w4).heap.size,0,none⟩ 1 1 [.int .i64 r1, .int .i64 r2] rfl rfl (bM w4 78 #[.int .i64 r1, .int .i64 r2]) (by intro u hu;simp at hu;rcases hu with rfl | rfl <;> rfl) (by unfold maxLen;omega) (by omega) ?_);intro v6 w6 hs6 hk6 ho6;have HI5:=Hz (HI2.out.app (v:=(r1,r2)) ((Kz w4).alloc _) (by rw [HJL.out];exact hs6) hk6 (by simpa using ho6));clear hs6 hk6 ho6;go_wp2_with fail;go_roundw
   case rel=>exact ⟨j+1,nv2,F2,by omega,by go_num,by rw [HST.out];exact HI5.out⟩
   case measure=>simp [intOf];omega
  ·obtain rfl:j=f:=by omega
   clear hlt hj;obtain ⟨hgt,t0,t1,-⟩:=ROW.out wr hI.V.hw;by_cases hk5:kd=5
   ·subst hk5;have hj0:j=0:=by
     have:=HFT.out;rw [HKT.out,HFF.out] at this;simp [aQ] at this;omega
    subst hj0;rw [if_pos rfl] at HLEN;have HGW:=Hz (fun (j:Nat) (hj:j<(cS W.wait (x:Int)).length)=>HWT.out j HKT.out HFF.out hj);have hwl:(cS W.wait (x:Int)).length≤24:=by have h1:=oM (x:Int) W.wait;have h2:=HOK.out.hq;unfold cS;unfold gK at h1;omega
    have hwl2:W.wait.length≤1000000:=by have h2:=HOK.out.hq;omega
    have c0:=hI.V.hq.cell 0;have cl:=hI.V.hq.lt;have pl:=hI.V.hw.hp.lt;simp only [Lz,Ls] at c0;have HAT:=Hz (sT h.p h.gv h.wv W.regs W.wait (x:Int) wr hI.V.hw.side hwl2);clear hI;go_wp2_with fail;refine HAT.out.mono ?_;rintro e w4 ⟨ao,ac,rfl,hs4,hk4,ho4⟩;have hI4:=HI.out.same hk4;have HI4:=Hz hI4;have HS4:=Hz hs4;have HO4:Hid (∀ k,ag (.slice ao (gK (x:Int) W.wait).length ac) k→wr.heap.size≤k):=fun k hk=>ho4 k hk;clear hs4 hk4 ho4 hI4 c0 cl pl HAT hgt t0 t1;have hLW:gK (x:Int) W.wait=cS W.wait (x:Int):=rfl;rw [hLW] at HS4 HO4 ⊢;have HRU:=Hz (show ∀ y ∈ cS W.wait (x:Int),W.live y from fun y hy=>by
     unfold cS at hy;obtain ⟨e,he,rfl⟩:=List.mem_map.1 hy
     exact (HOK.out.wv e (List.mem_filter.1 he).1).2.2)
    clear hLW;generalize cS W.wait (x:Int)=L at *;simp only [Nat.zero_add] at HLEN;go_wp2_with fail;go_loopw [6,80] (fun lv i wx=>∃ (j:Nat) (nv1:Value) (F1:Nat→Prop),j≤L.length∧i=.int .i64 j∧bX w q h W b rv (.slice no s.2.length nc) F (NS W.gr n (x:Int) s j).2 lv (NS W.gr n (x:Int) s j).1 wx nv1 F1∧Sl wx 2 1 (.slice ao L.length ac) L.length (L.map (Value.int .i64))) (fun _ i _=>L.length-(intOf i).toNat)
    case atStart=>
     exact ⟨0,nv1,F1,Nat.zero_le _,rfl,HI4.out,HS4.out⟩
    case round=>
     clear HI HI4 HS4 HO4;rename_i nv0 F0 _ _ _;obtain ⟨j,nv1,F1,hj,rfl,hI,hsr⟩:=hrel;have HI:=Hz hI;have HSR:=Hz hsr;obtain ⟨_,_,e',hrd,-,-⟩:=hsr.rd;cases e';clear hsr;by_cases hlt:j<L.length
     ·have HST:=Hz (kO W.gr n (x:Int) s (HGW.out j hlt));have hjl:=l5 W.gr n (x:Int) s (j:=j) (by rw [HLEN.out];omega);have HJL:=Hz hjl;obtain ⟨lo,lc,rfl,-,-,-⟩:=hI.L.rd;rw [hjl] at HI ⊢;obtain ⟨gg,go,rfl,ggl,g0⟩:=hrd.int64 j hlt;have HLU:=Hz (HRU.out (L.getD j 0) (by rw [Ld,Le hlt];exact List.getElem_mem hlt));clear hI hjl hrd;generalize L.getD j 0=y at *;go_wp2_with fail;refine (ih'.out (3,y) nv1 F1 _ _ HI.out.V (fun _=>HLU.out) (HUN.out j).1 (HUN.out j).2).mono ?_;rintro e w5 ⟨rfl,ht⟩;have HSR5:=Hz (HSR.out.ae ht.choose_spec.choose_spec.2.1 (fun k hk=>by obtain ⟨_,c,hc⟩:=HSR.out.own hk;exact HI.out.V.dC hc (by decide) (by decide) (by decide)));obtain ⟨nv2,F2,hI2⟩:=HI.out.told ht;obtain ⟨⟨⟨r1,r2⟩,sr⟩,hr⟩:∃ t,valM W.gr n (3,y) (NS W.gr n (x:Int) s j).2=t:=⟨_,rfl⟩;rw [hr] at hI2 HST ⊢;dsimp only at hI2 HST ⊢;have HI2:=Hz hI2;have HL2:=Hz (show Sl w5 78 2 (.slice lo j lc) j (aC (NS W.gr n (x:Int) s j).1) by have:=hI2.L;rw [HJL.out] at this;exact this);clear hI2 ht g0 ggl hr;go_wp2_with (at_builtin;refine cB rfl (.tmp 84) (.tmp 89) 69 rfl 78 vi (.agg #[.int .i64 0, .int .i64 0]) 2 16 Try.underlying69 Vi.out Vz0.out Vz1.out Vz2.out rfl (by decide) _ j (aC (NS W.gr n (x:Int) s j).1) rfl (HL2.out.ae ((Kz w5).alloc _) (fun _ _ h=>h)) ⟨(w5).heap.size,0,none⟩ 1 1 [.int .i64 r1, .int .i64 r2] rfl rfl (bM w5 78 #[.int .i64 r1, .int .i64 r2]) (by intro u hu;simp at hu;rcases hu with rfl | rfl <;> rfl) (by unfold maxLen;omega) (by omega) ?_);intro v6 w6 hs6 hk6 ho6;have HI5:=Hz (HI2.out.app (v:=(r1,r2)) ((Kz w5).alloc _) (by rw [HJL.out];exact hs6) hk6 (by simpa using ho6));have hka6:=(Kz w5).alloc (.cells #[.int .i64 r1, .int .i64 r2] 78);have HSR6:=Hz ((HSR5.out.ae hka6 (fun _ _ h=>h)).ae hk6 (fun k hk hk2=>by
       obtain ⟨_,c,hc⟩:=(HSR5.out.ae hka6 (fun _ _ h=>h)).own hk;obtain ⟨_,c',hc'⟩:=(HL2.out.ae hka6 (fun _ _ h=>h)).own hk2
       exact hc.ne hc' (by decide) rfl))
      clear hs6 hk6 ho6 hka6;go_wp2_with fail;go_roundw
      case rel=>exact ⟨j+1,nv2,F2,by omega,by go_num,by rw [HST.out];exact HI5.out,HSR6.out⟩
      case measure=>simp [intOf];omega
     ·obtain rfl:j=L.length:=by omega
      clear hlt hj;have HI9:=Hz hI;obtain ⟨cs9,hs9,hr9⟩:=hI.V.hn;have hlt9:s.1.length<(NS W.gr n (x:Int) s L.length).2.2.length:=(List.getElem?_eq_some_iff.1 (HKP.out L.length)).1;obtain ⟨g,o,cap9,cur,rfl,hb9,h91,h92,h93,h94⟩:=hs9.laid (by omega);have c3:=hI.V.hq.cell 3;have cl:=hI.V.hq.lt;have g1:=hb9.cell (o+s.2.length*2+1);have gl:=hb9.lt;have gf:=hb9.free (o+s.2.length*2+1);have hs9l:s.2.length<(NS W.gr n (x:Int) s L.length).2.2.length:=by rw [HLL.out];exact hlt9
      have hs9i:(s.2.length:Int)<((NS W.gr n (x:Int) s L.length).2.2.length:Int):=by omega
      obtain ⟨u9,hu9⟩:∃ u,cur[o+s.2.length*2+1]? = some u:=⟨_,Le (by omega)⟩;simp only [Lz,Ls] at c3;rw [hu9] at g1;obtain ⟨lo9,lc9,rfl,-,-,-⟩:=hI.L.rd;have hs9m:(NS W.gr n (x:Int) s L.length).2.2.length≤cap9:=h91;clear hI hr9 hs9 hb9 h92 h93 h94 hlt9 h91 hu9;go_wp2_with fail;go_end0;have hd:=bX.done (kd:=5) (n:=s.1.length) rfl HI9.out rfl (by have hkp:=HKP.out L.length;rw [HKD.out] at hkp;exact hkp);refine ⟨rfl,?_⟩;rw [HNEW.out];have hfull:NS W.gr n (x:Int) s L.length=fldM (valM W.gr n) (W.gr (x:Int)).2 (s.1 ++ [(x:Int)],s.2 ++ [((W.gr (x:Int)).1,[])]):=by
       unfold NS;rw [List.take_of_length_le (by rw [HLEN.out];simp)]
      rw [←hfull,HKD.out];rw [←HLL.out] at hd ⊢;exact hd
   ·have hkb:(kd == 5)=false:=by simpa using hk5
    rw [if_neg hk5] at HLEN;clear hk5;have HI9:=Hz hI;obtain ⟨cs9,hs9,hr9⟩:=hI.V.hn;have hlt9:s.1.length<(NS W.gr n (x:Int) s j).2.2.length:=(List.getElem?_eq_some_iff.1 (HKP.out j)).1;obtain ⟨g,o,cap9,cur,rfl,hb9,h91,h92,h93,h94⟩:=hs9.laid (by omega);have c3:=hI.V.hq.cell 3;have cl:=hI.V.hq.lt;have g1:=hb9.cell (o+s.2.length*2+1);have gl:=hb9.lt;have gf:=hb9.free (o+s.2.length*2+1);have hs9l:s.2.length<(NS W.gr n (x:Int) s j).2.2.length:=by rw [HLL.out];exact hlt9
    have hs9i:(s.2.length:Int)<((NS W.gr n (x:Int) s j).2.2.length:Int):=by omega
    obtain ⟨u9,hu9⟩:∃ u,cur[o+s.2.length*2+1]? = some u:=⟨_,Le (by omega)⟩;simp only [Lz,Ls] at c3;rw [hu9] at g1;obtain ⟨lo9,lc9,rfl,-,-,-⟩:=hI.L.rd;have hs9m:(NS W.gr n (x:Int) s j).2.2.length≤cap9:=h91;clear hI hr9 hs9 hb9 h92 h93 h94 hlt9 h91 hu9;go_wp2_with fail;go_end0;have hd:=bX.done (kd:=kd) (n:=s.1.length) rfl HI9.out rfl (by have hkp:=HKP.out j;rw [HKD.out] at hkp;exact hkp);refine ⟨rfl,?_⟩;rw [HNEW.out];have hfull:NS W.gr n (x:Int) s j=fldM (valM W.gr n) (W.gr (x:Int)).2 (s.1 ++ [(x:Int)],s.2 ++ [((W.gr (x:Int)).1,[])]):=by
     unfold NS;rw [List.take_of_length_le (by rw [HLEN.out];simp)]
    rw [←hfull,HKD.out];rw [←HLL.out] at hd ⊢;exact hd
end
end
section
open Go.RowKit
structure fE where
 nb:Nat
 sb:Nat
 vb:Nat
 xb:Nat
 fb:Nat
def fE.fn (g:fE):Value:=.func (.func 111) #[] #[.pointer (some ⟨g.nb,0,none⟩), .pointer (some ⟨g.vb,0,none⟩), .pointer (some ⟨g.xb,0,none⟩), .pointer (some ⟨g.fb,0,none⟩)]
structure cE (w0 w:World) (g:fE) (V:List Vl × List Nd) (xv yv rv nv:Value) (F:Nat→Prop) (s:VS):Prop where
 K0:aa (fun _=>False) w0 w
 hn:ah w g.nb [.slice (some ⟨g.sb,0,none⟩) V.2.length V.2.length] 50
 hs:ah w g.sb (fW V.2.length s.1) 3
 hv:ah w g.vb [rv,nv] 72
 hx:ah w g.xb [xv,yv] 72
 hf:ah w g.fb [g.fn] 165
 N:bQ w nv F s.2
 hl:s.2.length=s.1.length
 hF:∀ k,F k→k<w.heap.size∧∃ c,ah w k c 78
 ls:w0.heap.size≤g.sb
 lv:w0.heap.size≤g.vb
 ln:∀ k,ag nv k→w0.heap.size≤k
 ne:g.vb≠g.xb
def eA (g:fE) (nv:Value) (k:Nat):Prop:=k=g.sb∨k=g.vb∨ag nv k
section
variable {w0 w w':World} {g:fE} {V:List Vl × List Nd} {xv yv rv nv:Value} {F:Nat→Prop} {s:VS}
theorem cE.dC (T:cE w0 w g V xv yv rv nv F s) {k:Nat} {c:List Value} {t:TypeId} (hc:ah w k c t) (h1:t≠3) (h2:t≠72) (h3:t≠83):¬ eA g nv k:=by
 rintro (rfl | rfl | hk)
 ·exact hc.ne T.hs h1 rfl
 ·exact hc.ne T.hv h2 rfl
 ·obtain ⟨_,c',hc'⟩:=T.N.own hk;exact hc.ne hc' h3 rfl
theorem cE.sY (T:cE w0 w g V xv yv rv nv F s):¬ eA g nv g.xb:=by
 rintro (h | h | hk)
 ·exact T.hx.ne T.hs (by decide) h
 ·exact T.ne h.symm
 ·obtain ⟨_,c',hc'⟩:=T.N.own hk;exact T.hx.ne hc' (by decide) rfl
theorem cE.lo (T:cE w0 w g V xv yv rv nv F s) {k:Nat} (hk:eA g nv k):w0.heap.size≤k:=by
 rcases hk with rfl | rfl | hk
 ·exact T.ls
 ·exact T.lv
 ·exact T.ln k hk
theorem cE.ae {S:Nat→Prop} (T:cE w0 w g V xv yv rv nv F s) (k:aa S w w') (h1:∀ j,eA g nv j→¬ S j) (h2:¬ S g.nb) (h3:¬ S g.xb) (h4:¬ S g.fb) (h5:∀ j,F j→¬ S j) (h6:∀ j,S j→w0.heap.size≤j):cE w0 w' g V xv yv rv nv F s:=
 ⟨T.K0.then k (fun b hb=>.inr (h6 b hb)),k.ai T.hn h2,k.ai T.hs (h1 _ (.inl rfl)),k.ai T.hv (h1 _ (.inr (.inl rfl))),k.ai T.hx h3,k.ai T.hf h4,T.N.ae k (fun j hj _=>h5 j hj) (fun j hj=>h1 j (.inr (.inr hj))),T.hl,
  fun j hj=>by obtain ⟨a,c,hc⟩:=T.hF j hj;exact ⟨Nat.lt_of_lt_of_le a k.size,c,k.ai hc (h5 j hj)⟩,T.ls,T.lv,T.ln,T.ne⟩
theorem cE.same (T:cE w0 w g V xv yv rv nv F s) (k:aa (fun _=>False) w w'):cE w0 w' g V xv yv rv nv F s:=T.ae k (fun _ _ h=>h) (fun h=>h) (fun h=>h) (fun h=>h) (fun _ _ h=>h) (fun _ h=>h.elim)
theorem cE.other {b:Nat} {c:List Value} (T:cE w0 w g V xv yv rv nv F s) (k:aa (·=b) w w') (hb:ah w b c 78) (h3:¬ F b) (h4:w0.heap.size≤b):cE w0 w' g V xv yv rv nv F s:=
 T.ae k (fun j hj e=>T.dC hb (by decide) (by decide) (by decide) (e ▸ hj)) (fun e=>T.hn.ne hb (by decide) e) (fun e=>T.hx.ne hb (by decide) e) (fun e=>T.hf.ne hb (by decide) e) (fun j hj e=>h3 (e ▸ hj)) (fun j e=>by rw [e];exact h4)
def gq (w0 w:World) (g:fE) (V:List Vl × List Nd) (xv yv rv nv:Value) (F:Nat→Prop) (s':VS) (w':World):Prop:=
 ∃ nv' F',cE w0 w' g V xv yv rv nv' F' s'∧aa (eA g nv) w w'∧(∀ k,ag nv' k→ag nv k∨w.heap.size≤k)∧∀ k,F' k→F k∨w.heap.size≤k
theorem gq.refl (T:cE w0 w g V xv yv rv nv F s) (k:aa (fun _=>False) w w'):gq w0 w g V xv yv rv nv F s w':=
 ⟨nv,F,T.same k,k.mono (fun _ _ h=>h.elim),fun _ h=>.inl h,fun _ h=>.inl h⟩
theorem eA.step {nv':Value} (o1:∀ k,ag nv' k→ag nv k∨w.heap.size≤k) {k:Nat} (hk:eA g nv' k):eA g nv k∨w.heap.size≤k:=by
 rcases hk with rfl | rfl | hk
 ·exact .inl (.inl rfl)
 ·exact .inl (.inr (.inl rfl))
 ·exact (o1 k hk).imp (fun h=>.inr (.inr h)) id
theorem gq.done {w1 w2 w3:World} {s':VS} {b:Nat} (hw:w0.heap.size≤w.heap.size) (k1:aa (fun _=>False) w w1) (t:gq w0 w1 g V xv yv rv nv F s' w2) (hb0:w.heap.size≤b) (hb1:b<w1.heap.size) (hF:¬ F b) (hbt:∃ c,ah w2 b c 78) (k:aa (·=b) w2 w3) :
  gq w0 w g V xv yv rv nv F s' w3:=by
 obtain ⟨nv',F',T,k2,o1,o2⟩:=t;obtain ⟨c,hc⟩:=hbt;refine ⟨nv',F',T.other k hc (fun hf=>?_) (Nat.le_trans hw hb0),((k1.mono (fun _ _ h=>h.elim)).trans k2).then k (fun j hj=>.inr (by rw [hj];exact hb0)),
  fun j hj=>(o1 j hj).imp id (fun h=>Nat.le_trans k1.size h),fun j hj=>(o2 j hj).imp id (fun h=>Nat.le_trans k1.size h)⟩
 rcases o2 b hf with h1 | h1
 ·exact hF h1
 ·omega
def lM (w0 w:World) (g:fE) (V:List Vl × List Nd) (xv yv rv nv:Value) (F:Nat→Prop) (r:Vl × VS) (e:Ending) (w':World):Prop:=
 e=.returned (.agg #[.int .i64 r.1.1, .int .i64 r.1.2])∧gq w0 w g V xv yv rv nv F r.2 w'
theorem cE.seen (T:cE w0 w g V xv yv rv nv F s) {i:Nat} (hi:i<V.2.length):w.cell? ⟨g.sb,i,none⟩=some (.int .i64 (if (i:Int) ∈ s.1 then ((s.1.idxOf (i:Int):Nat):Int)+1 else 0)):=(T.hs.cell i).trans (gS hi)
structure fF (w0 w1:World) (g:fE) (V:List Vl × List Nd) (xv yv rv nv:Value) (F:Nat→Prop) (xb rb:Nat) (xc rc:List Value) (s:VS) (lv:Value) (l:List Vl) (wr:World) (nv':Value) (F':Nat→Prop):Prop where
 T:cE w0 wr g V xv yv rv nv' F' s
 K:aa (eA g nv) w1 wr
 o1:∀ k,ag nv' k→ag nv k∨w1.heap.size≤k
 o2:∀ k,F' k→F k∨w1.heap.size≤k
 L:Sl wr 78 2 lv l.length (aC l)
 o3:∀ k,ag lv k→w1.heap.size≤k∧¬ F' k
 X:ah wr xb xc 78
 R:ah wr rb rc 78
 xl:xb<w1.heap.size
 rl:rb<w1.heap.size
 wl:w0.heap.size≤w1.heap.size
section
variable {w1 wr w2 wa:World} {xb rb:Nat} {xc rc:List Value} {lv lv2 nv':Value} {l:List Vl} {F':Nat→Prop} {s2:VS} {v:Vl}
theorem fF.iU (I:fF w0 w1 g V xv yv rv nv F xb rb xc rc s lv l wr nv' F') {k:Nat} (hk:ag lv k):¬ eA g nv' k:=by
 obtain ⟨_,c,hc⟩:=I.L.own hk;exact I.T.dC hc (by decide) (by decide) (by decide)
theorem fF.qK {nv2:Value} {F2:Nat→Prop} (I:fF w0 w1 g V xv yv rv nv F xb rb xc rc s lv l wr nv' F') (T2:cE w0 w2 g V xv yv rv nv2 F2 s2) (k2:aa (eA g nv') wr w2) (p1:∀ k,ag nv2 k→ag nv' k∨wr.heap.size≤k) (p2:∀ k,F2 k→F' k∨wr.heap.size≤k):fF w0 w1 g V xv yv rv nv F xb rb xc rc s2 lv l w2 nv2 F2:=by
 refine ⟨T2,I.K.then k2 (fun j hj=>eA.step I.o1 hj),fun j hj=>?_,fun j hj=>?_,I.L.ae k2 (fun j hj=>I.iU hj),fun j hj=>⟨(I.o3 j hj).1,fun hf=>?_⟩,k2.ai I.X (I.T.dC I.X (by decide) (by decide) (by decide)),k2.ai I.R (I.T.dC I.R (by decide) (by decide) (by decide)),I.xl,I.rl,I.wl⟩
 ·rcases p1 j hj with h | h
  ·exact I.o1 j h
  ·exact .inr (Nat.le_trans I.K.size h)
 ·rcases p2 j hj with h | h
  ·exact I.o2 j h
  ·exact .inr (Nat.le_trans I.K.size h)
 ·rcases p2 j hf with h | h
  ·exact (I.o3 j hj).2 h
  ·have:=(I.L.own hj).1;omega
theorem fF.other {b:Nat} (I:fF w0 w1 g V xv yv rv nv F xb rb xc rc s lv l wr nv' F') (k:aa (·=b) wr w2) (hb:∃ c,ah wr b c 78) (h0:w1.heap.size≤b) (h1:¬ F' b) (h2:¬ ag lv b):fF w0 w1 g V xv yv rv nv F xb rb xc rc s lv l w2 nv' F':=by
 obtain ⟨c,hc⟩:=hb;exact ⟨I.T.other k hc h1 (Nat.le_trans I.wl h0),I.K.then k (fun j hj=>.inr (by rw [hj];exact h0)),I.o1,I.o2,I.L.ae k (fun j hj e=>h2 (e ▸ hj)),I.o3,k.ai I.X (fun e=>by have:=I.xl;omega),k.ai I.R (fun e=>by have:=I.rl;omega),I.xl,I.rl,I.wl⟩
theorem fF.app (I:fF w0 w1 g V xv yv rv nv F xb rb xc rc s lv l wr nv' F') (ka:aa (fun _=>False) wr wa)
  (hs:Sl w2 78 2 lv2 (l.length+1) (aC l ++ [.int .i64 v.1, .int .i64 v.2])) (hk:aa (ag lv) wa w2) (ho:∀ k,ag lv2 k→ag lv k∨wa.heap.size≤k):fF w0 w1 g V xv yv rv nv F xb rb xc rc s lv2 (l ++ [v]) w2 nv' F':=by
 have k2:=(ka.mono (T:=ag lv) (fun _ _ h=>h.elim)).trans hk;have ne:∀ {b:Nat} {c:List Value} {t:TypeId},ah wr b c t→t≠78→¬ ag lv b:=fun hb ht e=>by obtain ⟨_,c',hc'⟩:=I.L.own e;exact hb.ne hc' ht rfl
 refine ⟨I.T.ae k2 (fun j hj hl=>I.iU hl hj) (ne I.T.hn (by decide)) (ne I.T.hx (by decide)) (ne I.T.hf (by decide)) (fun j hj hl=>(I.o3 j hl).2 hj) (fun j hl=>Nat.le_trans I.wl (I.o3 j hl).1),I.K.then k2 (fun j hj=>.inr (I.o3 j hj).1),I.o1,I.o2,?_,fun j hj=>?_,
  k2.ai I.X (fun hl=>by have:=(I.o3 _ hl).1;have:=I.xl;omega),k2.ai I.R (fun hl=>by have:=(I.o3 _ hl).1;have:=I.rl;omega),I.xl,I.rl,I.wl⟩
 ·have e:aC (l ++ [v])=aC l ++ [.int .i64 v.1, .int .i64 v.2]:=by simp [aC]
  rw [e,List.length_append];exact hs
 ·rcases ho j hj with h1 | h1
  ·exact I.o3 j h1
  ·have h2:=ka.size;have h3:=I.K.size;refine ⟨by omega,fun hf=>?_⟩;have:=(I.T.hF j hf).1;omega
theorem fF.same (I:fF w0 w1 g V xv yv rv nv F xb rb xc rc s lv l wr nv' F') (k:aa (fun _=>False) wr w2):fF w0 w1 g V xv yv rv nv F xb rb xc rc s lv l w2 nv' F':=
 ⟨I.T.same k,I.K.trans (k.mono (fun _ _ h=>h.elim)),I.o1,I.o2,I.L.ae k (fun _ _ h=>h),I.o3,k.ai I.X (fun h=>h),k.ai I.R (fun h=>h),I.xl,I.rl,I.wl⟩
theorem fF.done {kd:Int} {n gn o cap lc:Nat} {ao2:Option Addr} (hlv:lv=.slice ao2 l.length lc) (I:fF w0 w1 g V xv yv rv nv F xb rb xc rc s lv l wr nv' F')
  (hnv:nv'=.slice (some ⟨gn,o,none⟩) s.2.length cap) (hn:s.2[n]? = some (kd,[])):gq w0 w1 g V xv yv rv nv F (s.1,s.2.set n (kd,l)) (wr.setCell ⟨gn,o+n*2+1,none⟩ lv)∧ah (wr.setCell ⟨gn,o+n*2+1,none⟩ lv) rb rc 78∧ah (wr.setCell ⟨gn,o+n*2+1,none⟩ lv) xb xc 78:=by
 subst hnv hlv;have hlt:n<s.2.length:=(List.getElem?_eq_some_iff.1 hn).1;have hgo:ag (.slice (some ⟨gn,o,none⟩) s.2.length cap) gn:=rfl;have setk:=(aa.refl (·=gn) wr).setCell (p:=⟨gn,o+n*2+1,none⟩) (.inl rfl) (.slice ao2 l.length lc);have K2:aa (eA g nv) w1 (wr.setCell ⟨gn,o+n*2+1,none⟩ (.slice ao2 l.length lc)):=I.K.setCell (p:=⟨gn,o+n*2+1,none⟩) (by
  rcases I.o1 gn hgo with h1 | h1
  ·exact .inl (.inr (.inr h1))
  ·exact .inr h1) _
 obtain ⟨cs,hs,hr⟩:=I.T.N;obtain ⟨_,gc,hgc⟩:=hs.own hgo;have gne:∀ {b:Nat} {c:List Value} {T:TypeId},ah wr b c T→T≠83→¬ b=gn:=fun hb hT e=>hb.ne hgc hT e;obtain ⟨ao',cap',e1,hrd,hcm,hnc⟩:=I.L.rd;cases e1;refine ⟨⟨.slice (some ⟨gn,o,none⟩) s.2.length cap,fun k=>F' k∨ag (.slice ao2 l.length lc) k,⟨I.T.K0.setCell (p:=⟨gn,o+n*2+1,none⟩) (.inr (I.T.ln gn hgo)) _,setk.ai I.T.hn (gne I.T.hn (by decide)),setk.ai I.T.hs (gne I.T.hs (by decide)),setk.ai I.T.hv (gne I.T.hv (by decide)),setk.ai I.T.hx (gne I.T.hx (by decide)),setk.ai I.T.hf (gne I.T.hf (by decide)),?_,by simp [I.T.hl],fun j hj=>?_,I.T.ls,I.T.lv,I.T.ln,I.T.ne⟩,K2,I.o1,fun j hj=>?_⟩,setk.ai I.R (gne I.R (by decide)),setk.ai I.X (gne I.X (by decide))⟩
 ·have hsl:(s.2.set n (kd,l)).length=s.2.length:=by simp
  refine ⟨cs.set (n*2+1) (.slice ao2 l.length lc),?_,?_⟩
  ·rw [hsl];exact hs.set (j:=n*2+1) (by omega)
  ·have hr':bg 2 (dn (wr.setCell ⟨gn,o+n*2+1,none⟩ (.slice ao2 l.length lc)) (fun k=>F' k∨ag (.slice ao2 l.length lc) k)) s.2 cs:=
    hr.mono (fun a _ r h1=>(h1.ae setk (fun j hj _=>by obtain ⟨_,c,hc⟩:=I.T.hF j hj;exact gne hc (by decide))).more (fun j hj=>.inl hj))
   refine bg.setCell hlt (by decide) hr' (fun r h2 h3=>?_);have e2:s.2[n]=(kd,[]):=by rw [Le hlt] at hn;exact Option.some.inj hn
   rw [e2] at h3;obtain ⟨_,_,rfl,-⟩:=h3;refine ⟨ao2,lc,rfl,hrd.ae setk (fun a ha _ e=>?_),fun a ha=>.inr ?_,hcm⟩
   ·subst ha;obtain ⟨_,c,hc⟩:=I.L.own (k:=a.block) rfl;exact gne hc (by decide) e
   ·subst ha;rfl
 ·rcases hj with hj | hj
  ·obtain ⟨a,c,hc⟩:=I.T.hF j hj;exact ⟨Nat.lt_of_lt_of_le a setk.size,c,setk.ai hc (gne hc (by decide))⟩
  ·obtain ⟨a,c,hc⟩:=I.L.own hj;exact ⟨Nat.lt_of_lt_of_le a setk.size,c,setk.ai hc (gne hc (by decide))⟩
 ·rcases hj with hj | hj
  ·exact I.o2 j hj
  ·exact .inr (I.o3 j hj).1
theorem cE.push {x:Int} {kd:Int} {wm:World} {nv2:Value} (T:cE w0 w g V xv yv rv nv F s) (hm:ah wm g.sb (fW V.2.length (s.1 ++ [x])) 3) (km:aa (·=g.sb) w wm) (ka:aa (fun _=>False) wm wa)
  (cs:List Value) (hcs:bg 2 (dn w F) s.2 cs)
  (hs:Sl w2 83 2 nv2 (s.2.length+1) (cs ++ [.int .i64 kd, .slice none 0 0])) (hk:aa (ag nv) wa w2) (ho:∀ k,ag nv2 k→ag nv k∨wa.heap.size≤k) :
  gq w0 w g V xv yv rv nv F (s.1 ++ [x],s.2 ++ [(kd,[])]) (w2.setCell ⟨g.vb,1,none⟩ nv2):=by
 have K1:aa (eA g nv) w w2:=((km.mono (fun j _ hj=>.inl hj)).trans (ka.mono (fun _ _ h=>h.elim))).trans (hk.mono (fun j _ hj=>.inr (.inr hj)));have K2:=K1.setCell (p:=⟨g.vb,1,none⟩) (.inl (.inr (.inl rfl))) nv2;have hsz:=km.size;have hsz2:=ka.size;have hsz3:=hk.size;have hw0:=T.K0.size;have nn:∀ {b:Nat} {c:List Value} {t:TypeId},ah w b c t→t≠83→¬ ag nv b:=fun hb ht e=>by obtain ⟨_,c',hc'⟩:=T.N.own e;exact hb.ne hc' ht rfl
 have vs:g.vb≠g.sb:=T.hv.ne T.hs (by decide);have hv2:=hk.ai (ka.ai (km.ai T.hv vs) (fun h=>h)) (nn T.hv (by decide));have ne2:∀ k,ag nv2 k→k≠g.vb:=fun k hk2 e=>by
  obtain ⟨_,c,hc⟩:=hs.own hk2;exact hc.ne hv2 (by decide) e
 have setk:=(aa.refl (·=g.vb) w2).setCell (p:=⟨g.vb,1,none⟩) (.inl rfl) nv2;refine ⟨nv2,F,⟨T.K0.then K2 (fun b hb=>.inr (T.lo hb)),K2.ai T.hn (T.dC T.hn (by decide) (by decide) (by decide)),?_,by simpa using hv2.aF 1 nv2,K2.ai T.hx T.sY,K2.ai T.hf (T.dC T.hf (by decide) (by decide) (by decide)),⟨_,by rw [List.length_append];exact hs.ae setk ne2,?_⟩,by simp [T.hl],fun j hj=>?_,T.ls,T.lv,fun j hj=>?_,T.ne⟩,K2,fun j hj=>?_,fun j hj=>.inl hj⟩
 ·exact setk.ai (hk.ai (ka.ai hm (fun h=>h)) (nn T.hs (by decide))) (Ne.symm vs)
 ·refine bg.app (hcs.mono (fun a _ r hr=>hr.ae K2 (fun j hj _=>by obtain ⟨_,c,hc⟩:=T.hF j hj;exact T.dC hc (by decide) (by decide) (by decide)))) rfl ?_;exact ⟨none,0,rfl,Rd.nil _ _,(fun a ha=>by cases ha),Nat.zero_le _⟩
 ·obtain ⟨a,c,hc⟩:=T.hF j hj;exact ⟨Nat.lt_of_lt_of_le a K2.size,c,K2.ai hc (T.dC hc (by decide) (by decide) (by decide))⟩
 ·rcases ho j hj with h1 | h1
  ·exact T.ln j h1
  ·omega
 ·rcases ho j hj with h1 | h1
  ·exact .inl h1
  ·exact .inr (by omega)
end
end
end
section
open Go.RowKit
structure pz (w0:World) (V:List Vl × List Nd) (xv yv:Value):Prop where
 rt:∃ xo xc,xv=.slice xo V.1.length xc∧Rd w0 xo (aC V.1)
 nd:∃ F,bQ w0 yv F V.2
 ok:cT V
 l1:V.1.length≤100000
 l2:V.2.length≤4000
def da (V:List Vl × List Nd):List Int:=(List.range V.2.length).map (Int.ofNat ·)
section
variable {w0 w w':World} {g:fE} {V:List Vl × List Nd} {xv yv rv nv:Value} {F:Nat→Prop} {s:VS}
theorem du {i:Int}:i ∈ da V↔0≤i∧i<V.2.length:=by
 unfold da;simp only [List.mem_map,List.mem_range];constructor
 ·rintro ⟨k,hk,rfl⟩;have e:Int.ofNat k=(k:Int):=rfl;rw [e];omega
 ·rintro ⟨h0,h1⟩;refine ⟨i.toNat,by omega,?_⟩;have e:Int.ofNat i.toNat=(i.toNat:Int):=rfl;rw [e];omega
theorem mL (O:cT V):m9 (vG V.2) (da V):=⟨fun i hi v hv h3=>by
 obtain ⟨h0,h1⟩:=du.1 hi;obtain ⟨k,rfl⟩:=Int.eq_ofNat_of_zero_le h0;rw [kx] at hv
 exact du.2 (O.fd _ (kU (by omega)) v hv h3)⟩
theorem pz.node (D:pz w0 V xv yv) {i:Nat} (hi:i<V.2.length):∃ gy oy yc ao ac,yv=.slice (some ⟨gy,oy,none⟩) V.2.length yc∧∀ w',aa (fun _=>False) w0 w' →
  gy<w'.heap.size∧w'.cell? ⟨gy,oy+i*2,none⟩=some (.int .i64 (aS V i).1)∧w'.cell? ⟨gy,oy+i*2+1,none⟩=some (.slice ao (aS V i).2.length ac)∧Rd w' ao (aC (aS V i).2):=by
 obtain ⟨F,N⟩:=D.nd;obtain ⟨no,nc,rfl,h⟩:=N.nth;obtain ⟨gy,oy,ao,ac,rfl,hg,c0,c1,rd,-⟩:=h i hi;refine ⟨gy,oy,nc,ao,ac,rfl,fun w' k=>⟨Nat.lt_of_lt_of_le hg k.size,(k.cellAt hg (fun h=>h) _).trans c0,(k.cellAt hg (fun h=>h) _).trans c1,rd.ae k (fun _ _ _ h=>h)⟩⟩
theorem kF (v:Vl) (n:Nat) (T:cE w0 w g V xv yv rv nv F s) (hv:v.1=3→0≤v.2∧v.2<V.2.length) (hm:v.1=3→v.2 ∈ s.1) (hl:s.1.length≤1000000) (hV:V.2.length≤4000) :
  Calls Try.prog 111 #[.agg #[.int .i64 v.1, .int .i64 v.2], .pointer (some ⟨g.nb,0,none⟩), .pointer (some ⟨g.vb,0,none⟩), .pointer (some ⟨g.xb,0,none⟩), .pointer (some ⟨g.fb,0,none⟩)] w (lM w0 w g V xv yv rv nv F (valM (vG V.2) n v s)):=by
 have HV:=Hz T;obtain ⟨kd,x⟩:=v;dsimp only at hv hm ⊢;have ka:=(Kz w).alloc (.cells #[.int .i64 kd, .int .i64 x] 78);have hb1:ah (w.alloc (.cells #[.int .i64 kd, .int .i64 x] 78)) w.heap.size [.int .i64 kd, .int .i64 x] 78:=ah.newAt _ rfl rfl;have ka2:=ka.alloc (.cells #[.int .i64 0, .int .i64 0] 78);have hb2:ah ((w.alloc (.cells #[.int .i64 kd, .int .i64 x] 78)).alloc (.cells #[.int .i64 0, .int .i64 0] 78)) (w.heap.size+1) [.int .i64 0, .int .i64 0] 78:=ah.newAt _ (by simp) rfl;have B1:=Hz (hb1.alloc (.cells #[.int .i64 0, .int .i64 0] 78));have B2:=Hz hb2;have V1:=Hz (T.same ka2);have KA:=Hz ka2;clear ka hb1 hb2 ka2 T;go_enter Try.func111,Try.ntmps111;go_upto_region 1 with fail
 generalize (w.alloc (.cells #[.int .i64 kd, .int .i64 x] 78)).alloc (.cells #[.int .i64 0, .int .i64 0] 78)=w1 at *;obtain ⟨sb,hsb⟩:∃ k,w.heap.size=k:=⟨_,rfl⟩;rw [hsb] at B1 B2;rw [hsb];have HSB:=Hz hsb;clear hsb;have s0:=B1.out.cell 0;have s1:=B1.out.cell 1;have sl:=B1.out.lt;have l0:=B2.out.cell 0;have l1:=B2.out.cell 1;have ll:=B2.out.lt;have f0:=B2.out.free 0;have f1:=B2.out.free 1;simp only [Lz,Ls] at s0 s1 l0 l1;have FIN:=Hz (fun (wz:World) (k:aa (·=sb+1) w1 wz)=>(show gq w0 w g V xv yv rv nv F s wz from
  gq.done (w1:=w1) (w2:=w1) HV.out.K0.size KA.out (gq.refl V1.out (aa.refl _ _)) (by have:=HSB.out;omega) ll (fun hf=>by have:=(HV.out.hF _ hf).1;have:=HSB.out;omega) ⟨_,B2.out⟩ k))
 by_cases h3:kd=3
 case neg=>
  have HE:=Hz (show valM (vG V.2) n (kd,x) s=((kd,x),s) from cj (vG V.2) n s h3);have e3:(kd != 3)=true:=by simpa using h3
  clear h3;go_wp2_with (refine bd rfl 78 (.tmp 5) rfl (by kernel_rfl) sb 0 rfl _ _ s0 s1 ?_);have hb2:=(B2.out.aF 0 (.int .i64 kd)).aF 1 (.int .i64 x);have x0:=hb2.cell 0;have x1:=hb2.cell 1;simp only [List.set_cons_zero,List.set_cons_succ,Lz,Ls] at x0 x1;refine bodyPost_ret (v:=.agg #[.int .i64 kd, .int .i64 x]) (by simp [results,Try.results111,go_sem,x0,x1]) rfl ?_;refine ⟨by rw [HE.out],?_⟩;rw [HE.out];exact FIN.out _ (((aa.refl (·=sb+1) w1).setCell (p:=⟨sb+1,0,none⟩) (.inl rfl) _).setCell (p:=⟨sb+1,1,none⟩) (.inl rfl) _)
 subst h3;have HM:=Hz (hm rfl);obtain ⟨hx0',hxi⟩:=hv rfl;obtain ⟨x,rfl⟩:=Int.eq_ofNat_of_zero_le hx0';have HE:=Hz (show valM (vG V.2) n (3,(x:Int)) s=(eu (s.1.idxOf (x:Int)),s) from dx (vG V.2) n rfl HM.out);have hxl:x<V.2.length:=by omega
 have hx0:=V1.out.seen hxl;rw [if_pos HM.out] at hx0;have hil:s.1.idxOf (x:Int)≤1000000:=by have:=List.idxOf_le_length (l:=s.1) (a:=(x:Int));omega
 have q1:=V1.out.hn.cell 0;have ql:=V1.out.hn.lt;have hbl:=V1.out.hs.lt;simp only [Lz] at q1;clear hm hv hx0';generalize s.1.idxOf (x:Int)=ix at *;have hne:(((ix:Int)+1) == 0)=false:=by simp;omega
 have hwr:IntKind.i64.wrap (ix:Int)=(ix:Int):=IntWalk.i64_in _ (by omega);go_wp2_with fail;have hb2:=(B2.out.aF 0 (.int .i64 3)).aF 1 (.int .i64 ix);have x0:=hb2.cell 0;have x1:=hb2.cell 1;simp only [List.set_cons_zero,List.set_cons_succ,Lz,Ls] at x0 x1;refine bodyPost_ret (v:=.agg #[.int .i64 3, .int .i64 ix]) (by simp [results,Try.results111,go_sem,x0,x1]) rfl ?_;refine ⟨by rw [HE.out];rfl,?_⟩;rw [HE.out];exact FIN.out _ (((aa.refl (·=sb+1) w1).setCell (p:=⟨sb+1,0,none⟩) (.inl rfl) _).setCell (p:=⟨sb+1,1,none⟩) (.inl rfl) _)
def sj (w0:World) (g:fE) (V:List Vl × List Nd) (xv yv rv:Value) (n:Nat):Prop:=∀ (v:Vl) (nv:Value) (F:Nat→Prop) (s:VS) (w:World),cE w0 w g V xv yv rv nv F s→(v.1=3→v.2 ∈ da V)→cK (da V) s.1≤n→s.1.length+cK (da V) s.1≤5000 →
 Calls Try.prog 111 #[.agg #[.int .i64 v.1, .int .i64 v.2], .pointer (some ⟨g.nb,0,none⟩), .pointer (some ⟨g.vb,0,none⟩), .pointer (some ⟨g.xb,0,none⟩), .pointer (some ⟨g.fb,0,none⟩)] w (lM w0 w g V xv yv rv nv F (valM (vG V.2) n v s))
end
end
section
open Go.RowKit
theorem mM {G:Gr} {n:Nat} {x:Int} {s:VS} (hm:¬ x ∈ s.1):x ∈ (valM G (n+1) (3,x) s).2.1∧(valM G (n+1) (3,x) s).2.1.idxOf x=s.1.length:=by
 rw [df G n (v:=(3,x)) rfl hm];dsimp only;obtain ⟨m,hm2⟩:=iG (iH G n) (G x).2 (s.1 ++ [x],s.2 ++ [((G x).1,[])]);rw [hm2];dsimp only;refine ⟨by simp,?_⟩;rw [List.append_assoc,List.idxOf_append,if_neg hm];simp
section
variable {w w':World} {h:bT} {W:Wd} {q b:Nat} {rv nv:Value} {F:Nat→Prop} {s:VS}
theorem oh (n:Nat) (ih:mK h W q b rv n) (x:Nat) (V:bW w q h W b rv nv F s) (hlv:W.live (x:Int)) (hm:¬ (x:Int) ∈ s.1) (hT:W.T.length≤100000)
  (hu:cK W.all s.1≤n+1) (hc:s.1.length+cK W.all s.1≤5000) :
  Calls Try.prog 107 #[.pointer (some ⟨q,0,none⟩), .agg #[.int .i64 3, .int .i64 x]] w fun e w'=>kW w q h W b rv nv F (valM W.gr (n+1) (3,(x:Int)) s) e w':=by
 have HV:=Hz V;have ka:=(Kz w).alloc (.cells #[.int .i64 3, .int .i64 x] 78);have hb1:ah (w.alloc (.cells #[.int .i64 3, .int .i64 x] 78)) w.heap.size [.int .i64 3, .int .i64 x] 78:=ah.newAt _ rfl rfl;have ka2:=ka.alloc (.cells #[.int .i64 0, .int .i64 0] 78);have hb2:ah ((w.alloc (.cells #[.int .i64 3, .int .i64 x] 78)).alloc (.cells #[.int .i64 0, .int .i64 0] 78)) (w.heap.size+1) [.int .i64 0, .int .i64 0] 78:=ah.newAt _ (by simp) rfl;have B1:=Hz (hb1.alloc (.cells #[.int .i64 0, .int .i64 0] 78));have B2:=Hz hb2;have V1:=Hz (V.same ka2);have KA:=Hz ka2;have hz1:((w.alloc (.cells #[.int .i64 3, .int .i64 x] 78)).alloc (.cells #[.int .i64 0, .int .i64 0] 78)).heap.size=w.heap.size+2:=by simp
 have HE:=Hz (show (valM W.gr (n+1) (3,(x:Int)) s).1=eu s.1.length by rw [df W.gr n (v:=(3,(x:Int))) rfl hm]);have HMN:=Hz (mM (G:=W.gr) (n:=n) hm);have HND:=Hz (fun w' (V':bW w' q h W b rv nv F s)=>rz n ih x nv F s w' V' hlv hm hT hu hc);have hxl:x<W.T.length:=by have:=hlv.2.1;omega
 have hxi:(x:Int)<W.T.length:=hlv.2.1;have hl5:s.1.length≤5000:=by omega
 have HM:=Hz hm;clear ka hb1 hb2 ka2 V hm hu hc ih hlv;go_enter Try.func107,Try.ntmps107;go_upto_region 1 with fail
 generalize (w.alloc (.cells #[.int .i64 3, .int .i64 x] 78)).alloc (.cells #[.int .i64 0, .int .i64 0] 78)=w1 at *;obtain ⟨sb,hsb⟩:∃ k,w.heap.size=k:=⟨_,rfl⟩;rw [hsb] at B1 B2 hz1;rw [hsb];have HSB:=Hz hsb;have HZ1:=Hz hz1;clear hsb hz1;have s0:=B1.out.cell 0;have s1:=B1.out.cell 1;have sl:=B1.out.lt;simp only [Lz,Ls] at s0 s1;have hx0:=V1.out.seen hxl;rw [if_neg HM.out] at hx0;obtain ⟨-,q1,-,-,ql⟩:=V1.out.cells;have hbl:=V1.out.hm.lt;go_wp2_with fail;refine aq (.free 0 (.free 1 (.free 2 (.free 4 (.pure 3 (.pure 5 (.free 6 (.pure 7 (.free 8 (.fin)))))))))) [] (fun w'=>w'.cell? ⟨q,1,none⟩=some (.slice (some ⟨b,0,none⟩) W.T.length W.T.length)∧w'.cell? ⟨sb,1,none⟩=some (.int .i64 x)∧w'.cell? ⟨b,x,none⟩=some (.int .i64 0)) (by kernel_rfl) (by kernel_rfl) ⟨q1,s1,hx0⟩ ?_
 iterate 9 ((first | refine ak rfl rfl fun K hK=>?_ | refine aj rfl rfl fun K hK=>?_ | refine aB rfl rfl fun K hK=>?_ | refine aw rfl rfl fun K hK=>?_ | refine aA rfl rfl fun K hK=>?_);go_simp;refine hK _ ?_;clear hK K)
 refine aD ?_;go_wp2_with fail;refine (HND.out _ (V1.out.same (Kz w1).drew)).mono ?_;rintro e w2 ⟨rfl,ht⟩;obtain ⟨nv1,F1,V2,kk,p1,p2⟩:=ht;have V2:=Hz V2;have K2:=Hz kk;have P1:=Hz p1;have P2:=Hz p2;have fpn:∀ j,sb≤j→j<sb+2→¬ fD q b nv j:=fun j h1 h2 hj=>by have:=HV.out.lt hj;rw [HSB.out] at this;omega
 have C1:=Hz (kk.ai B1.out.drew (fpn sb (Nat.le_refl _) (by omega)));have C2:=Hz (kk.ai B2.out.drew (fpn (sb+1) (by omega) (by omega)));clear kk p1 p2 fpn s0 s1 sl q1 ql hbl hx0;have s1:=C1.out.cell 1;have sl:=C1.out.lt;have l0:=C2.out.cell 0;have l1:=C2.out.cell 1;have ll:=C2.out.lt;have f0:=C2.out.free 0;have f1:=C2.out.free 1;simp only [Lz,Ls] at s1 l0 l1;have hx0:=V2.out.seen hxl;rw [if_pos HMN.out.1,HMN.out.2] at hx0;obtain ⟨-,q1,-,-,ql⟩:=V2.out.cells;have hbl:=V2.out.hm.lt;generalize hix:s.1.length=ix at *;have hwr:IntKind.i64.wrap (ix:Int)=(ix:Int):=IntWalk.i64_in _ (by omega);go_wp2_with fail;refine aq (.free 0 (.free 1 (.free 2 (.free 4 (.pure 3 (.pure 5 (.free 6 (.pure 7 (.free 8 (.free 9 (.run 10 (.swi [] (.fin))))))))))))) [10] (fun w'=>w'.cell? ⟨q,1,none⟩=some (.slice (some ⟨b,0,none⟩) W.T.length W.T.length)∧w'.cell? ⟨sb,1,none⟩=some (.int .i64 x)∧w'.cell? ⟨b,x,none⟩=some (.int .i64 ((ix:Int)+1))) (by kernel_rfl) (by kernel_rfl) ⟨q1,s1,hx0⟩ ?_
 iterate 10 ((first | refine ak rfl rfl fun K hK=>?_ | refine aj rfl rfl fun K hK=>?_ | refine aB rfl rfl fun K hK=>?_ | refine aw rfl rfl fun K hK=>?_ | refine aA rfl rfl fun K hK=>?_);go_simp;refine hK _ ?_;clear hK K)
 refine aK rfl rfl rfl (fun K hK=>?_);unfold aM;go_simp;refine hK _ _ ?_;clear hK K;refine aH (fun _=>True) trivial (aD ?_);go_wp2_with fail;have hb2:=((C2.out.aF 0 (.int .i64 3)).aF 1 (.int .i64 ix)).drew;have x0:=hb2.cell 0;have x1:=hb2.cell 1;simp only [List.set_cons_zero,List.set_cons_succ,Lz,Ls] at x0 x1;refine bodyPost_ret (v:=.agg #[.int .i64 3, .int .i64 ix]) (by simp [results,Try.results107,go_sem,x0,x1]) rfl ?_;refine ⟨by rw [HE.out];rfl,?_⟩;have V2:=V2.out;have k2:=K2.out;have p1:=P1.out;have p2:=P2.out;have ke:=(((aa.refl (·=sb+1) w2).setCell (p:=⟨sb+1,0,none⟩) (.inl rfl) (.int .i64 3)).setCell (p:=⟨sb+1,1,none⟩) (.inl rfl) (.int .i64 ix)).drew;have hz:=HZ1.out;have hd1:w1.drew.heap.size=w1.heap.size:=rfl;refine ⟨nv1,F1,V2.ae ke (fun j hj e=>?_) (fun j hj e=>?_) (fun j hj e=>?_),((KA.out.drew.mono (fun _ _ h=>h.elim)).trans k2).then ke (fun j hj=>.inr (by rw [HSB.out];omega)),fun j hj=>?_,fun j hj=>?_⟩
 ·subst e;exact V2.dC C2.out (by decide) (by decide) (by decide) hj
 ·have:=HV.out.hw.dE hj;rw [HSB.out] at this;omega
 ·subst e;rcases p2 _ hj with h1 | h1
  ·have:=(HV.out.hF _ h1).1;rw [HSB.out] at this;omega
  ·omega
 ·rcases p1 j hj with h1 | h1
  ·exact .inl h1
  ·exact .inr (by rw [HSB.out];omega)
 ·rcases p2 j hj with h1 | h1
  ·exact .inl h1
  ·exact .inr (by rw [HSB.out];omega)
theorem qj (hT:W.T.length≤100000):∀ n:Nat,n≤5000→mK h W q b rv n:=by
 intro n
 induction n with
 | zero=>
  intro _ v nv F s w V hv hu hc;exact kE v 0 V hv (fun h3=>jS (Nat.le_zero.1 hu) (Wd.fL.2 (hv h3))) (by omega)
 | succ n ih=>
  intro hn v nv F s w V hv hu hc;by_cases hm:v.1=3→v.2 ∈ s.1
  ·exact kE v (n+1) V hv hm (by omega)
  ·obtain ⟨h1,h2⟩:=Classical.not_imp.1 hm;obtain ⟨kd,x⟩:=v;dsimp only at h1 h2 hv ⊢;subst h1;have hl:=hv rfl;obtain ⟨x,rfl⟩:=Int.eq_ofNat_of_zero_le hl.1;exact oh n (ih (by omega)) x V hl h2 hT hu hc
end
end
section
open Go.RowKit
section
variable {w0 w w':World} {g:fE} {V:List Vl × List Nd} {xv yv rv nv:Value} {F:Nat→Prop} {s:VS}
theorem om (n:Nat) (ih:sj w0 g V xv yv rv n) (x:Nat) (D:pz w0 V xv yv) (T:cE w0 w g V xv yv rv nv F s) (hx:(x:Int) ∈ da V) (hm:¬ (x:Int) ∈ s.1) (hu:cK (da V) s.1≤n+1) (hc:s.1.length+cK (da V) s.1≤5000) :
  Calls Try.prog 111 #[.agg #[.int .i64 3, .int .i64 x], .pointer (some ⟨g.nb,0,none⟩), .pointer (some ⟨g.vb,0,none⟩), .pointer (some ⟨g.xb,0,none⟩), .pointer (some ⟨g.fb,0,none⟩)] w (lM w0 w g V xv yv rv nv F (valM (vG V.2) (n+1) (3,(x:Int)) s)):=by
 have HNEW:=Hz (df (vG V.2) n (v:=(3,(x:Int))) (s:=s) rfl hm);have HMN:=Hz (mM (G:=vG V.2) (n:=n) hm);have HV:=Hz T;have HM:=Hz hm;have HIH:=Hz ih;have HX:=Hz hx;have HD:=Hz D;have hp:=gN hx hm;have HU:=Hz (show cK (da V) (s.1 ++ [(x:Int)])≤n by omega);have HC:=Hz (show (s.1 ++ [(x:Int)]).length+cK (da V) (s.1 ++ [(x:Int)])≤5000 by rw [List.length_append];simp;omega);have hl5:s.1.length≤5000:=by omega
 have hxi:(x:Int)<V.2.length:=(du.1 hx).2;have hxl:x<V.2.length:=by omega
 have hV4:=D.l2;obtain ⟨ni,hi,hz0,hz1,hz2⟩:=b7 jh;have Ni:=Hz hi;have Nz0:=Hz hz0;have Nz1:=Hz hz1;have Nz2:=Hz hz2;clear hi hz0 hz1 hz2;obtain ⟨vi,hi,hz0,hz1,hz2⟩:=b7 eT;have Vi:=Hz hi;have Vz0:=Hz hz0;have Vz1:=Hz hz1;have Vz2:=Hz hz2;clear hi hz0 hz1 hz2;have HLL:=Hz T.hl;have hs5:s.2.length≤5000:=by rw [T.hl];exact hl5
 obtain ⟨cs,hsl,hcs⟩:=T.N;obtain ⟨no,nc,rfl,-,-,-⟩:=hsl.rd;have HSL:=Hz hsl;have HCS:=Hz hcs;obtain ⟨gy,oy,yc,ao,ac,rfl,hnode⟩:=D.node hxl;have NODE:=Hz hnode;have hfit:=aX (D.ok.nd hxl);have ka:=(Kz w).alloc (.cells #[.int .i64 3, .int .i64 x] 78);have hb1:ah (w.alloc (.cells #[.int .i64 3, .int .i64 x] 78)) w.heap.size [.int .i64 3, .int .i64 x] 78:=ah.newAt _ rfl rfl;have ka2:=ka.alloc (.cells #[.int .i64 0, .int .i64 0] 78);have hb2:ah ((w.alloc (.cells #[.int .i64 3, .int .i64 x] 78)).alloc (.cells #[.int .i64 0, .int .i64 0] 78)) (w.heap.size+1) [.int .i64 0, .int .i64 0] 78:=ah.newAt _ (by simp) rfl;have B1:=Hz (hb1.alloc (.cells #[.int .i64 0, .int .i64 0] 78));have B2:=Hz hb2;have V1:=Hz (T.same ka2);have KA:=Hz ka2;clear ka hb1 hb2 ka2 T hm hp hu hc ih D hsl hcs hnode hx;go_enter Try.func111,Try.ntmps111;go_upto_region 1 with fail
 generalize (w.alloc (.cells #[.int .i64 3, .int .i64 x] 78)).alloc (.cells #[.int .i64 0, .int .i64 0] 78)=w1 at *;obtain ⟨sb,hsb⟩:∃ k,w.heap.size=k:=⟨_,rfl⟩;rw [hsb] at B1 B2;rw [hsb];have HSB:=Hz hsb;clear hsb;have s0:=B1.out.cell 0;have s1:=B1.out.cell 1;have sl:=B1.out.lt;simp only [Lz,Ls] at s0 s1;have hx0:=V1.out.seen hxl;rw [if_neg HM.out] at hx0;have q1:=V1.out.hn.cell 0;have ql:=V1.out.hn.lt;have hbl:=V1.out.hs.lt;have hbf:=V1.out.hs.free x;have v1:=V1.out.hv.cell 1;have vl:=V1.out.hv.lt;simp only [Lz,Ls] at q1 v1;have hwr:IntKind.i64.wrap ((s.2.length:Int)+1)=(s.2.length:Int)+1:=IntWalk.i64_in _ (by omega);go_upto_region 6 with fail
 have hset:=V1.out.hs.aF x (.int .i64 ((s.2.length:Int)+1));rw [HV.out.hl,kD hxl HM.out,←HV.out.hl] at hset;have KM:=Hz ((aa.refl (·=g.sb) w1).setCell (p:=⟨g.sb,x,none⟩) (.inl rfl) (.int .i64 ((s.2.length:Int)+1)));have HSEE:=Hz hset;have sne:∀ {b:Nat} {c:List Value} {t:TypeId},ah w1 b c t→t≠3→b≠g.sb:=fun hb ht=>hb.ne V1.out.hs ht;have BM1:=Hz (KM.out.ai B1.out (sne B1.out (by decide)));have BM2:=Hz (KM.out.ai B2.out (sne B2.out (by decide)));have HVM:=Hz (KM.out.ai V1.out.hv (sne V1.out.hv (by decide)));have HXM:=Hz (KM.out.ai V1.out.hx (sne V1.out.hx (by decide)));have K0M:=Hz (V1.out.K0.then KM.out (fun b hb=>.inr (by rw [hb];exact V1.out.ls)));clear hset sne s0 s1 sl hx0 q1 ql hbl hbf v1 vl;generalize w1.setCell ⟨g.sb,x,none⟩ (.int .i64 ((s.2.length:Int)+1))=wm at *;have v1:=HVM.out.cell 1;have vl:=HVM.out.lt;have x1:=HXM.out.cell 1;have xl:=HXM.out.lt;have s1:=BM1.out.cell 1;have sl:=BM1.out.lt;simp only [Lz,Ls] at v1 x1 s1;obtain ⟨hgy,y0,-,-⟩:=NODE.out wm K0M.out;generalize hkd:(aS V x).1=kd at *;have HKT:=Hz hkd;clear hkd;refine aq (.free 0 (.free 2 (.free 4 (.pure 1 (.pure 3 (.pure 5 (.free 6 (.free 7 (.pure 8 (.free 9 (.run 10 (.run 11 (.swi [13] (.free 12 (.run 13 (.swi [] (.fin))))))))))))))))) [11,12,13] (fun w'=>w'.cell? ⟨g.vb,1,none⟩=some (.slice no s.2.length nc)∧w'.cell? ⟨g.xb,1,none⟩=some (.slice (some ⟨gy,oy,none⟩) V.2.length yc)∧w'.cell? ⟨sb,1,none⟩=some (.int .i64 x)∧w'.cell? ⟨gy,oy+x*2,none⟩=some (.int .i64 kd)) (by kernel_rfl) (by kernel_rfl) ⟨v1,x1,s1,y0⟩ ?_
 iterate 10 ((first | refine ak rfl rfl fun K hK=>?_ | refine aj rfl rfl fun K hK=>?_ | refine aB rfl rfl fun K hK=>?_ | refine aw rfl rfl fun K hK=>?_ | refine aA rfl rfl fun K hK=>?_);go_simp;refine hK _ ?_;clear hK K)
 refine bO rfl rfl (fun K hK=>?_);unfold aM;go_simp;have hka:aa (fun _=>False) wm ((wm.alloc (.cells #[.int .i64 kd, .slice none 0 0] 83)).drew):=((Kz wm).alloc (.cells #[.int .i64 kd, .slice none 0 0] 83)).drew;refine hK _ _ (fun _=>⟨(hka.cellAt vl (fun h=>h) _).trans v1,(hka.cellAt xl (fun h=>h) _).trans x1,(hka.cellAt sl (fun h=>h) _).trans s1,(hka.cellAt hgy (fun h=>h) _).trans y0⟩) ?_;clear hK K;refine aK rfl rfl rfl (fun K hK=>?_);refine de (.tmp 31) (.tmp 40) 70 rfl 83 ni (.agg #[.int .i64 0, .slice none 0 0]) 2 32 Try.underlying70 Ni.out Nz0.out Nz1.out Nz2.out rfl (by decide) _ s.2.length cs rfl ((HSL.out.ae (KA.out.mono (T:=fun b=>b=g.sb) (fun _ _ h=>h.elim) |>.trans KM.out) (fun j hj e=>by subst e;obtain ⟨_,c,hc⟩:=HSL.out.own hj;exact HV.out.hs.ne hc (by decide) rfl)).ae hka (fun _ _ h=>h)) ⟨wm.heap.size,0,none⟩ 1 1 [.int .i64 kd, .slice none 0 0] rfl rfl (bM wm 83 #[.int .i64 kd, .slice none 0 0]) (by intro u hu;simp at hu;rcases hu with rfl | rfl <;> rfl) (by unfold maxLen;omega) (by omega) ?_;intro v2 w2 hs2 hk2 ho2;refine hK _ _ ?_;clear hK K;have HT2:=Hz (V1.out.push (x:=(x:Int)) (kd:=kd) HSEE.out KM.out hka cs (HCS.out.mono (fun a _ r hr=>hr.ae KA.out (fun _ _ _ h=>h))) hs2 hk2 ho2);have nown:∀ {b:Nat} {c:List Value} {t:TypeId},ah w1 b c t→t≠83→¬ ag (.slice no s.2.length nc) b:=fun hb ht e=>by obtain ⟨_,c',hc'⟩:=V1.out.N.own e;exact hb.ne hc' ht rfl
 have hv2:=hk2.ai (hka.ai HVM.out (fun h=>h)) (nown V1.out.hv (by decide));have X2:=Hz (hk2.ai (hka.ai BM1.out (fun h=>h)) (nown B1.out (by decide)));have R2:=Hz (hk2.ai (hka.ai BM2.out (fun h=>h)) (nown B2.out (by decide)));have x3:=hv2.cell 1;have xl:=hv2.lt;have xf:=hv2.free 1;simp only [Lz,Ls] at x3;obtain ⟨vo2,vc2,rfl,-,-,-⟩:=hs2.rd;clear hs2 hk2 ho2 hka nown v1 vl x1 s1 sl hgy y0;refine aH (fun _=>True) trivial ?_
 iterate 1 ((first | refine ak rfl rfl fun K hK=>?_ | refine aj rfl rfl fun K hK=>?_);go_simp;refine hK _ ?_;clear hK K)
 refine aK rfl rfl rfl (fun K hK=>?_);unfold aM;go_simp;refine hK _ _ ?_;clear hK K;refine aH (fun _=>True) trivial (aD ?_);have X3:=Hz (X2.out.cA (a:=⟨g.vb,1,none⟩) (X2.out.ne hv2 (by decide)) (.slice vo2 (s.2.length+1) vc2));have R3:=Hz (R2.out.cA (a:=⟨g.vb,1,none⟩) (R2.out.ne hv2 (by decide)) (.slice vo2 (s.2.length+1) vc2));clear x3 xl xf hv2 X2 R2;have HI:=Hz (show ∃ nv1 F1,fF w0 w1 g V xv (.slice (some ⟨gy,oy,none⟩) V.2.length yc) rv (.slice no s.2.length nc) F sb (sb+1) [.int .i64 3, .int .i64 x] [.int .i64 0, .int .i64 0] (s.1 ++ [(x:Int)],s.2 ++ [(kd,[])]) (.slice none 0 0) [] (w2.setCell ⟨g.vb,1,none⟩ (.slice vo2 (s.2.length+1) vc2)) nv1 F1 by
  obtain ⟨nv1,F1,V1',k1,p1,p2⟩:=HT2.out
  exact ⟨nv1,F1,V1',k1,p1,p2,Sl.nil _ _ _,fun k hk=>(cF hk).elim,X3.out,R3.out,B1.out.lt,B2.out.lt,V1.out.K0.size⟩)
 clear HT2 X3 R3;generalize w2.setCell ⟨g.vb,1,none⟩ (.slice vo2 (s.2.length+1) vc2)=w3 at *;have hgx:vG V.2 (x:Int)=aS V x:=kx x;have hkd:(vG V.2 (x:Int)).1=kd:=by rw [hgx];exact HKT.out
 have HKP:=Hz (fun j=>nh (vG V.2) n (x:Int) s j HLL.out);have HUN:=Hz (fun j=>oS (mL HD.out.ok) (n:=n) (s:=s) HX.out j HU.out HC.out);have HI0:=Hz (show ∃ nv1 F1,fF w0 w1 g V xv (.slice (some ⟨gy,oy,none⟩) V.2.length yc) rv (.slice no s.2.length nc) F sb (sb+1) [.int .i64 3, .int .i64 x] [.int .i64 0, .int .i64 0] (NS (vG V.2) n (x:Int) s 0).2 (.slice none 0 0) (NS (vG V.2) n (x:Int) s 0).1 w3 nv1 F1 by rw [ng,hkd];exact HI.out);have HKD:=Hz hkd;have HFV:=Hz (fun j (hj:j<(aS V x).2.length)=>(show (vG V.2 (x:Int)).2[j]? = some (ct V x j) by rw [hgx];exact fx hj));have HFI:=Hz (fun j (hj:j<(aS V x).2.length)=>(show (ct V x j).1=3→(ct V x j).2 ∈ da V from fun h3=>du.2 (HD.out.ok.fl hxl hj h3)));have HGL:=Hz (show (vG V.2 (x:Int)).2.length=(aS V x).2.length by rw [hgx]);have HNT:=Hz (fun j=>re (vG V.2) n (x:Int) s j HLL.out);have hfd:∀ j,(aS V x).2.getD j (0,0)=ct V x j:=fun j=>rfl;have HFD:=Hz hfd;clear HI hkd hgx hfd;generalize hf:(aS V x).2.length=f at *;have HFL:=Hz hfit.2.2.2;have HFF:=Hz hf;clear hfit hf;go_wp2_with fail;go_loopw [8,9] (fun lv i wr=>∃ (j:Nat) (nv1:Value) (F1:Nat→Prop),j≤f∧i=.int .i64 j∧fF w0 w1 g V xv (.slice (some ⟨gy,oy,none⟩) V.2.length yc) rv (.slice no s.2.length nc) F sb (sb+1) [.int .i64 3, .int .i64 x] [.int .i64 0, .int .i64 0] (NS (vG V.2) n (x:Int) s j).2 lv (NS (vG V.2) n (x:Int) s j).1 wr nv1 F1) (fun _ i _=>f-(intOf i).toNat)
 case atStart=>
  obtain ⟨nv1,F1,hI⟩:=HI0.out;exact ⟨0,nv1,F1,Nat.zero_le _,rfl,hI⟩
 case round=>
  clear HI0;obtain ⟨j,nv7,F7,hj,rfl,hI⟩:=hrel;have HI:=Hz hI;have x1:=hI.T.hx.cell 1;have xl:=hI.T.hx.lt;have s1:=hI.X.cell 1;have sl:=hI.X.lt;simp only [Lz,Ls] at x1 s1;obtain ⟨hgy,-,y1,hrd⟩:=NODE.out wr hI.T.K0;by_cases hlt:j<f
  ·have HST:=Hz (kO (vG V.2) n (x:Int) s (HFV.out j hlt));have hjl:=l5 (vG V.2) n (x:Int) s (j:=j) (by rw [HGL.out];omega);have HJL:=Hz hjl;obtain ⟨gf,of,rfl,hgf,d0,d1⟩:=hrd.val j (by rw [HFF.out];exact hlt);rw [HFD.out] at d0 d1;have a0:=hI.T.hf.cell 0;have al:=hI.T.hf.lt;simp only [Lz] at a0;have HFA:=Hz (HFI.out j hlt);generalize hfe:ct V x j=fv at *;have HFE:=Hz hfe;clear hfe;obtain ⟨f1,f2⟩:=fv;dsimp only at d0 d1;obtain ⟨lo,lc,rfl,-,-,-⟩:=hI.L.rd;rw [hjl] at HI ⊢;clear hI hjl hrd;unfold fE.fn at a0;go_wp2_with fail;refine aq (.free 1 (.free 3 (.free 8 (.pure 0 (.pure 2 (.pure 4 (.free 5 (.free 6 (.pure 7 (.free 9 (.pure 10 (.two 11 (.run 12 (.run 13 (.swi [] (.fin)))) 12 (.run 11 (.swi [13] (.run 13 (.swi [] (.fin))))))))))))))))) [13] (fun w'=>w'.cell? ⟨g.fb,0,none⟩=some (.func (.func 111) #[] #[.pointer (some ⟨g.nb,0,none⟩), .pointer (some ⟨g.vb,0,none⟩), .pointer (some ⟨g.xb,0,none⟩), .pointer (some ⟨g.fb,0,none⟩)])∧w'.cell? ⟨g.xb,1,none⟩=some (.slice (some ⟨gy,oy,none⟩) V.2.length yc)∧w'.cell? ⟨sb,1,none⟩=some (.int .i64 x)∧w'.cell? ⟨gy,oy+x*2+1,none⟩=some (.slice (some ⟨gf,of,none⟩) f ac)∧w'.cell? ⟨gf,of+j*2,none⟩=some (.int .i64 f1)∧w'.cell? ⟨gf,of+j*2+1,none⟩=some (.int .i64 f2)) (by kernel_rfl) (by kernel_rfl) ⟨a0,x1,s1,y1,d0,d1⟩ ?_
   iterate 11 ((first | refine ak rfl rfl fun K hK=>?_ | refine aj rfl rfl fun K hK=>?_ | refine aB rfl rfl fun K hK=>?_ | refine aw rfl rfl fun K hK=>?_ | refine aA rfl rfl fun K hK=>?_);go_simp;refine hK _ ?_;clear hK K)
   have DAT:=Hz (fun (wz:World) (k:aa (fun _=>False) w0 wz)=>(show wz.cell? ⟨gy,oy+x*2+1,none⟩=some (.slice (some ⟨gf,of,none⟩) f ac)∧wz.cell? ⟨gf,of+j*2,none⟩=some (.int .i64 f1)∧wz.cell? ⟨gf,of+j*2+1,none⟩=some (.int .i64 f2) by
    obtain ⟨-,-,y1',hrd'⟩:=NODE.out wz k;obtain ⟨gf',of',e',-,d0',d1'⟩:=hrd'.val j (by rw [HFF.out];exact hlt);cases e';rw [HFD.out,HFE.out] at d0' d1'
    exact ⟨y1',d0',d1'⟩))
   refine lT rfl rfl rfl rfl (fun K hK=>?_) (fun K hK=>?_)
   ·unfold aM;go_simp;refine (HIH.out (f1,f2) nv7 F7 _ _ (HI.out.T.same ((Kz wr).drew)) HFA.out (HUN.out j).1 (HUN.out j).2).mono ?_;rintro e w8 ⟨rfl,nv8,F8,T8,k8,p1,p2⟩;have HI8:=Hz ((HI.out.same ((Kz wr).drew)).qK T8 k8 p1 p2);obtain ⟨⟨⟨r1,r2⟩,sr⟩,hr⟩:∃ t,valM (vG V.2) n (f1,f2) (NS (vG V.2) n (x:Int) s j).2=t:=⟨_,rfl⟩;rw [hr] at HI8 HST ⊢;dsimp only at HI8 HST ⊢;obtain ⟨y8,d8,d9⟩:=DAT.out _ HI8.out.T.K0;refine hK _ _ (fun h=>h) (fun _ _=>⟨HI8.out.T.hf.cell 0,HI8.out.T.hx.cell 1,HI8.out.X.cell 1,y8,d8,d9⟩) ?_;clear hK K T8 k8 p1 p2 hr a0 x1 xl s1 sl y1 d0 d1 hgf hgy al HI y8 d8 d9;refine bO rfl rfl (fun K hK=>?_);unfold aM;go_simp;have kz:aa (fun _=>False) w8 (w8.alloc (.cells #[.int .i64 0, .int .i64 0] 78)).drew:=((Kz w8).alloc _).drew;have tz:ah (w8.alloc (.cells #[.int .i64 0, .int .i64 0] 78)).drew w8.heap.size [.int .i64 0, .int .i64 0] 78:=(ah.new w8 [.int .i64 0, .int .i64 0] 78).drew;have HI9:=Hz (HI8.out.same kz);obtain ⟨y8,d8,d9⟩:=DAT.out _ HI9.out.T.K0;refine hK _ _ (fun _=>⟨HI9.out.T.hf.cell 0,HI9.out.T.hx.cell 1,HI9.out.X.cell 1,y8,d8,d9⟩) ?_;clear hK K y8 d8 d9;have z0:=tz.cell 0;have z1:=tz.cell 1;have zl:=tz.lt;have zf:=tz.free 0;have zf1:=tz.free 1;simp only [Lz,Ls] at z0 z1;clear kz tz;refine aK rfl rfl rfl (fun K hK=>?_);unfold aM;go_simp;refine hK _ _ ?_;clear hK K z0 z1 zl zf zf1 HI9;refine aH (fun _=>True) trivial (aD ?_);have kz:aa (fun _=>False) w8 (w8.alloc (.cells #[.int .i64 r1, .int .i64 r2] 78)):=((Kz w8).alloc _);have tz:ah (w8.alloc (.cells #[.int .i64 r1, .int .i64 r2] 78)) w8.heap.size [.int .i64 r1, .int .i64 r2] 78:=(ah.new w8 [.int .i64 r1, .int .i64 r2] 78);have HI2:=Hz (HI8.out.same kz);clear HI8 kz;generalize w8.alloc (.cells #[.int .i64 r1, .int .i64 r2] 78)=w9 at *;have HL2:=Hz (show Sl w9 78 2 (.slice lo j lc) j (aC (NS (vG V.2) n (x:Int) s j).1) by have:=HI2.out.L;rw [HJL.out] at this;exact this);have z0:=tz.cell 0;have z1:=tz.cell 1;have zl:=tz.lt;simp only [Lz,Ls] at z0 z1;generalize w8.heap.size=tv at *;clear tz;have hfl:=HFL.out;go_wp2_with (at_builtin;refine cB rfl (.tmp 67) (.tmp 69) 69 rfl 78 vi (.agg #[.int .i64 0, .int .i64 0]) 2 16 Try.underlying69 Vi.out Vz0.out Vz1.out Vz2.out rfl (by decide) _ j (aC (NS (vG V.2) n (x:Int) s j).1) rfl (HL2.out.ae ((Kz w9).alloc _) (fun _ _ h=>h)) ⟨w9.heap.size,0,none⟩ 1 1 [.int .i64 r1, .int .i64 r2] rfl rfl (bM w9 78 #[.int .i64 r1, .int .i64 r2]) (by intro u hu;simp at hu;rcases hu with rfl | rfl <;> rfl) (by have:=HFL.out;unfold maxLen;omega) (by have:=HFL.out;omega) ?_);intro v10 w10 hs10 hk10 ho10;have HI10:=Hz (HI2.out.app (v:=(r1,r2)) ((Kz w9).alloc _) (by rw [HJL.out];exact hs10) hk10 (by simpa using ho10));clear hs10 hk10 ho10 HL2 HI2 z0 z1 zl;go_wp2_with fail;go_roundw
    case rel=>exact ⟨j+1,_,_,by omega,by go_num,by rw [HST.out];exact HI10.out⟩
    case measure=>simp [intOf];omega
   ·unfold aM;go_simp;have kz:aa (fun _=>False) wr (wr.alloc (.cells #[.int .i64 0, .int .i64 0] 78)).drew:=((Kz wr).alloc _).drew;have tz:ah (wr.alloc (.cells #[.int .i64 0, .int .i64 0] 78)).drew wr.heap.size [.int .i64 0, .int .i64 0] 78:=(ah.new wr [.int .i64 0, .int .i64 0] 78).drew;have HIA:=Hz (HI.out.same kz);have TF:=Hz (show ¬ F7 wr.heap.size from fun hf=>by have:=(HI.out.T.hF _ hf).1;omega);have TL:=Hz (show ¬ ag (.slice lo j lc) wr.heap.size from fun hf=>by have:=(HI.out.L.own hf).1;omega);have T1:=Hz (show w1.heap.size≤wr.heap.size from HI.out.K.size);have TZ:=Hz tz;obtain ⟨y8,d8,d9⟩:=DAT.out _ HIA.out.T.K0;refine hK _ _ (fun h=>h) (fun _ _=>⟨HIA.out.T.hf.cell 0,HIA.out.T.hx.cell 1,HIA.out.X.cell 1,y8,d8,d9⟩) ?_;clear hK K kz tz HI a0 x1 xl s1 sl y1 d0 d1 hgf hgy al y8 d8 d9;generalize (wr.alloc (.cells #[.int .i64 0, .int .i64 0] 78)).drew=wa at *;generalize wr.heap.size=zb at *;refine bO rfl rfl (fun K hK=>?_);unfold aM;go_simp;refine (HIH.out (f1,f2) nv7 F7 _ _ HIA.out.T HFA.out (HUN.out j).1 (HUN.out j).2).mono ?_;rintro e w8 ⟨rfl,nv8,F8,T8,k8,p1,p2⟩;have HI8:=Hz (HIA.out.qK T8 k8 p1 p2);obtain ⟨⟨⟨r1,r2⟩,sr⟩,hr⟩:∃ t,valM (vG V.2) n (f1,f2) (NS (vG V.2) n (x:Int) s j).2=t:=⟨_,rfl⟩;rw [hr] at HI8 HST ⊢;dsimp only at HI8 HST ⊢;have TF8:=Hz (show ¬ F8 zb from fun hf=>by rcases p2 _ hf with h | h;exact TF.out h;exact absurd h (Nat.not_le.2 TZ.out.lt));have tz8:=k8.ai TZ.out (HIA.out.T.dC TZ.out (by decide) (by decide) (by decide));obtain ⟨y8,d8,d9⟩:=DAT.out _ HI8.out.T.K0;refine hK _ _ (fun _=>⟨HI8.out.T.hf.cell 0,HI8.out.T.hx.cell 1,HI8.out.X.cell 1,y8,d8,d9⟩) ?_;clear hK K T8 k8 p1 p2 hr y8 d8 d9 TZ TF HIA;refine aH (fun _=>True) trivial ?_;have TZ:=Hz tz8;have z0:=tz8.cell 0;have z1:=tz8.cell 1;have zl:=tz8.lt;have zf:=tz8.free 0;have zf1:=tz8.free 1;simp only [Lz,Ls] at z0 z1;clear tz8;refine aK rfl rfl rfl (fun K hK=>?_);unfold aM;go_simp;refine hK _ _ ?_;clear hK K z0 z1 zl zf zf1;refine aH (fun _=>True) trivial (aD ?_);have kz:aa (·=zb) w8 ((w8.setCell ⟨zb,0,none⟩ (.int .i64 r1)).setCell ⟨zb,1,none⟩ (.int .i64 r2)):=((aa.refl (·=zb) w8).setCell (.inl rfl) _).setCell (.inl rfl) _;have HI2:=Hz (HI8.out.other kz ⟨_,TZ.out⟩ T1.out TF8.out TL.out);have tz:ah ((w8.setCell ⟨zb,0,none⟩ (.int .i64 r1)).setCell ⟨zb,1,none⟩ (.int .i64 r2)) zb [.int .i64 r1, .int .i64 r2] 78:=(TZ.out.aF 0 (.int .i64 r1)).aF 1 (.int .i64 r2);clear HI8 kz TZ TF8 T1 TL;generalize (w8.setCell ⟨zb,0,none⟩ (.int .i64 r1)).setCell ⟨zb,1,none⟩ (.int .i64 r2)=w9 at *;have HL2:=Hz (show Sl w9 78 2 (.slice lo j lc) j (aC (NS (vG V.2) n (x:Int) s j).1) by have:=HI2.out.L;rw [HJL.out] at this;exact this);have z0:=tz.cell 0;have z1:=tz.cell 1;have zl:=tz.lt;simp only [Lz,Ls] at z0 z1;generalize zb=tv at *;clear tz;have hfl:=HFL.out;go_wp2_with (at_builtin;refine cB rfl (.tmp 67) (.tmp 69) 69 rfl 78 vi (.agg #[.int .i64 0, .int .i64 0]) 2 16 Try.underlying69 Vi.out Vz0.out Vz1.out Vz2.out rfl (by decide) _ j (aC (NS (vG V.2) n (x:Int) s j).1) rfl (HL2.out.ae ((Kz w9).alloc _) (fun _ _ h=>h)) ⟨w9.heap.size,0,none⟩ 1 1 [.int .i64 r1, .int .i64 r2] rfl rfl (bM w9 78 #[.int .i64 r1, .int .i64 r2]) (by intro u hu;simp at hu;rcases hu with rfl | rfl <;> rfl) (by have:=HFL.out;unfold maxLen;omega) (by have:=HFL.out;omega) ?_)
    intro v10 w10 hs10 hk10 ho10;have HI10:=Hz (HI2.out.app (v:=(r1,r2)) ((Kz w9).alloc _) (by rw [HJL.out];exact hs10) hk10 (by simpa using ho10));clear hs10 hk10 ho10 HL2 HI2 z0 z1 zl;go_wp2_with fail;go_roundw
    case rel=>exact ⟨j+1,_,_,by omega,by go_num,by rw [HST.out];exact HI10.out⟩
    case measure=>simp [intOf];omega
  ·obtain rfl:j=f:=by omega
   clear hlt hj hrd;have HEN:=Hz (show NS (vG V.2) n (x:Int) s j=fldM (valM (vG V.2) n) (vG V.2 (x:Int)).2 (s.1 ++ [(x:Int)],s.2 ++ [((vG V.2 (x:Int)).1,[])]) by
    unfold NS
    rw [List.take_of_length_le (by rw [HGL.out];exact Nat.le_refl _)])
   have HI9:=Hz hI;obtain ⟨cs9,hs9,hr9⟩:=hI.T.N;have hkp:=HKP.out j;rw [←HLL.out,HKD.out] at hkp;have hlt9:s.2.length<(NS (vG V.2) n (x:Int) s j).2.2.length:=(List.getElem?_eq_some_iff.1 hkp).1;have HKP9:=Hz hkp;obtain ⟨g9,o9,cap9,cur,rfl,hb9,h91,h92,h93,h94⟩:=hs9.laid (by omega);have c1:=hI.T.hv.cell 1;have cl:=hI.T.hv.lt;have g1:=hb9.cell (o9+s.2.length*2+1);have gl:=hb9.lt;have gf9:=hb9.free (o9+s.2.length*2+1);obtain ⟨u9,hu9⟩:∃ u,cur[o9+s.2.length*2+1]? = some u:=⟨_,Le (by omega)⟩;simp only [Lz,Ls] at c1;rw [hu9] at g1;obtain ⟨lo9,lc9,rfl,-,-,-⟩:=hI.L.rd;have hs9m:(NS (vG V.2) n (x:Int) s j).2.2.length≤cap9:=h91;clear hI hr9 hs9 hb9 h92 h93 h94 h91 hu9 hkp;go_upto_region 14 with (fail)
   obtain ⟨hd1,rd9,xd9⟩:=HI9.out.done (kd:=kd) (n:=s.2.length) rfl rfl HKP9.out;have HD9:=Hz hd1;have RD9:=Hz rd9;have XD9:=Hz xd9;clear c1 cl g1 gl gf9 HI9 hd1 rd9 xd9 x1 xl s1 sl hgy y1;generalize wr.setCell ⟨g9,o9+s.2.length*2+1,none⟩ _=w9 at *;obtain ⟨nv9,F9,T9,-,-,-⟩:=HD9.out;have r0:=RD9.out.cell 0;have r1:=RD9.out.cell 1;have rl:=RD9.out.lt;have f0:=RD9.out.free 0;have f1:=RD9.out.free 1;have s1:=XD9.out.cell 1;have sl:=XD9.out.lt;have q1:=T9.hn.cell 0;have ql:=T9.hn.lt;have hbl:=T9.hs.lt;simp only [Lz,Ls] at r0 r1 s1 q1;have hmn:=HMN.out;rw [HNEW.out,←HEN.out] at hmn;dsimp only at hmn;have hx0:=T9.seen hxl;dsimp only at hx0;rw [if_pos hmn.1,hmn.2] at hx0;clear hmn T9;have hwr2:IntKind.i64.wrap (s.1.length:Int)=(s.1.length:Int):=IntWalk.i64_in _ (by omega);go_wp2_with fail;have hb3:=(RD9.out.aF 0 (.int .i64 3)).aF 1 (.int .i64 s.1.length);have x0':=hb3.cell 0;have x1':=hb3.cell 1;simp only [List.set_cons_zero,List.set_cons_succ,Lz,Ls] at x0' x1';refine bodyPost_ret (v:=.agg #[.int .i64 3, .int .i64 s.1.length]) (by simp [results,Try.results111,go_sem,x0',x1']) rfl ?_;unfold lM;rw [HNEW.out];dsimp only;refine ⟨rfl,?_⟩;have set:=((aa.refl (·=sb+1) w9).setCell (p:=⟨sb+1,0,none⟩) (.inl rfl) (.int .i64 3)).setCell (p:=⟨sb+1,1,none⟩) (.inl rfl) (.int .i64 s.1.length);rw [←HEN.out,HKD.out];rw [show ∀ y:Nd,(NS (vG V.2) n (x:Int) s j).2.2.set s.1.length y=(NS (vG V.2) n (x:Int) s j).2.2.set s.2.length y from fun y=>by rw [HLL.out]];exact gq.done HV.out.K0.size KA.out HD9.out (by have:=HSB.out;omega) B2.out.lt (fun hf=>by have:=(HV.out.hF _ hf).1;have:=HSB.out;omega) ⟨_,RD9.out⟩ set
theorem qk (D:pz w0 V xv yv):∀ n:Nat,n≤5000→sj w0 g V xv yv rv n:=by
 intro n
 induction n with
 | zero=>
  intro _ v nv F s w T hv hu hc;exact kF v 0 T (fun h3=>du.1 (hv h3)) (fun h3=>jS (Nat.le_zero.1 hu) (hv h3)) (by omega) D.l2
 | succ n ih=>
  intro hn v nv F s w T hv hu hc;by_cases hm:v.1=3→v.2 ∈ s.1
  ·exact kF v (n+1) T (fun h3=>du.1 (hv h3)) hm (by omega) D.l2
  ·obtain ⟨h1,h2⟩:=Classical.not_imp.1 hm;obtain ⟨kd,x⟩:=v;dsimp only at h1 h2 hv ⊢;subst h1;have hl:=hv rfl;obtain ⟨x,rfl⟩:=Int.eq_ofNat_of_zero_le (du.1 hl).1;exact om n (ih (by omega)) x D T hl h2 hu hc
end
end
section
open Go.RowKit
structure dW (w0:World) (g:fE) (V:List Vl × List Nd) (xv yv:Value) (tb:Nat) (wr:World) (rv nv:Value) (F:Nat→Prop) (s:VS) (l:List Vl):Prop where
 T:cE w0 wr g V xv yv rv nv F s
 o2:∀ k,F k→w0.heap.size≤k
 L:Sl wr 78 2 rv l.length (aC l)
 o3:∀ k,ag rv k→w0.heap.size≤k∧¬ F k
 ot:w0.heap.size≤tb
 nt:tb≠g.vb
 B:ah wr tb [.slice none 0 0, .slice none 0 0] 72
section
variable {w0 wr w2 wa:World} {g:fE} {V:List Vl × List Nd} {xv yv rv nv:Value} {tb:Nat} {F:Nat→Prop} {s s2:VS} {l:List Vl}
theorem dW.kG (I:dW w0 g V xv yv tb wr rv nv F s l) {k:Nat} (hk:ag rv k):¬ eA g nv k:=by
 obtain ⟨_,c,hc⟩:=I.L.own hk;exact I.T.dC hc (by decide) (by decide) (by decide)
theorem dW.sZ (I:dW w0 g V xv yv tb wr rv nv F s l):¬ eA g nv tb:=fun e=>by
 rcases e with e | e | e
 ·exact I.B.ne I.T.hs (by decide) e
 ·exact I.nt e
 ·obtain ⟨_,c,hc⟩:=I.T.N.own e;exact I.B.ne hc (by decide) rfl
theorem dW.told {nv2:Value} {F2:Nat→Prop} (I:dW w0 g V xv yv tb wr rv nv F s l) (T2:cE w0 w2 g V xv yv rv nv2 F2 s2) (k2:aa (eA g nv) wr w2) (p2:∀ k,F2 k→F k∨wr.heap.size≤k) :
  dW w0 g V xv yv tb w2 rv nv2 F2 s2 l:=by
 have hz:=I.T.K0.size;refine ⟨T2,fun j hj=>?_,I.L.ae k2 (fun j hj=>I.kG hj),fun j hj=>⟨(I.o3 j hj).1,fun hf=>?_⟩,I.ot,I.nt,k2.ai I.B I.sZ⟩
 ·rcases p2 j hj with h | h
  ·exact I.o2 j h
  ·omega
 ·rcases p2 j hf with h | h
  ·exact (I.o3 j hj).2 h
  ·have:=(I.L.own hj).1;omega
theorem dW.same (I:dW w0 g V xv yv tb wr rv nv F s l) (k:aa (fun _=>False) wr w2):dW w0 g V xv yv tb w2 rv nv F s l:=
 ⟨I.T.same k,I.o2,I.L.ae k (fun _ _ h=>h),I.o3,I.ot,I.nt,k.ai I.B (fun h=>h)⟩
theorem dW.other {b:Nat} (I:dW w0 g V xv yv tb wr rv nv F s l) (k:aa (·=b) wr w2) (hb:∃ c,ah wr b c 78) (h0:w0.heap.size≤b) (h1:¬ F b) (h2:¬ ag rv b):dW w0 g V xv yv tb w2 rv nv F s l:=by
 obtain ⟨c,hc⟩:=hb;exact ⟨I.T.other k hc h1 h0,I.o2,I.L.ae k (fun j hj e=>h2 (e ▸ hj)),I.o3,I.ot,I.nt,k.ai I.B (fun e=>hc.ne I.B (by decide) e.symm)⟩
theorem dW.app {v:Vl} {v2:Value} (I:dW w0 g V xv yv tb wr rv nv F s l) (ka:aa (fun _=>False) wr wa) (hs:Sl w2 78 2 v2 (l.length+1) (aC l ++ [.int .i64 v.1, .int .i64 v.2])) (hk:aa (ag rv) wa w2)
  (ho:∀ k,ag v2 k→ag rv k∨wa.heap.size≤k):dW w0 g V xv yv tb (w2.setCell ⟨g.vb,0,none⟩ v2) v2 nv F s (l ++ [v]):=by
 have k2:=(ka.mono (T:=ag rv) (fun _ _ h=>h.elim)).trans hk;have hz:=ka.size;have hz2:=I.T.K0.size;have nr:∀ {b:Nat} {c:List Value} {T:TypeId},ah wr b c T→T≠78→¬ ag rv b:=fun hb hT e=>by obtain ⟨_,c',hc'⟩:=I.L.own e;exact hb.ne hc' hT rfl
 have hv2:=k2.ai I.T.hv (nr I.T.hv (by decide));have set:=(aa.refl (·=g.vb) w2).setCell (p:=⟨g.vb,0,none⟩) (.inl rfl) v2;have kk:aa (fun k=>ag rv k∨k=g.vb) wr (w2.setCell ⟨g.vb,0,none⟩ v2):=(k2.mono (fun _ _ h=>.inl h)).then set (fun b hb=>.inl (.inr hb));have nb:∀ {b:Nat} {c:List Value} {T:TypeId},ah wr b c T→T≠78→T≠72→¬ (ag rv b∨b=g.vb):=fun hb h1 h2 e=>by
  rcases e with e | e
  ·exact nr hb h1 e
  ·exact hb.ne I.T.hv h2 e
 have nF:∀ b,F b→¬ (ag rv b∨b=g.vb):=fun b hb e=>by
  rcases e with e | e
  ·exact (I.o3 b e).2 hb
  ·obtain ⟨_,c,hc⟩:=I.T.hF b hb;exact hc.ne I.T.hv (by decide) e
 have nx:¬ (ag rv g.xb∨g.xb=g.vb):=fun e=>e.elim (nr I.T.hx (by decide)) (fun e=>I.T.ne e.symm);refine ⟨⟨I.T.K0.then kk (fun j hj=>?_),kk.ai I.T.hn (nb I.T.hn (by decide) (by decide)),kk.ai I.T.hs (nb I.T.hs (by decide) (by decide)),by simpa using hv2.aF 0 v2,kk.ai I.T.hx nx,kk.ai I.T.hf (nb I.T.hf (by decide) (by decide)),I.T.N.ae kk (fun b hb _=>nF b hb) (fun b hb=>?_),I.T.hl,fun b hb=>?_,I.T.ls,I.T.lv,I.T.ln,I.T.ne⟩,I.o2,?_,fun j hj=>?_,I.ot,I.nt,kk.ai I.B (fun e=>?_)⟩
 ·rcases hj with hj | hj
  ·exact .inr (I.o3 j hj).1
  ·exact .inr (by rw [hj];exact I.T.lv)
 ·obtain ⟨_,c,hc⟩:=I.T.N.own hb;exact nb hc (by decide) (by decide)
 ·obtain ⟨a,c,hc⟩:=I.T.hF b hb;exact ⟨Nat.lt_of_lt_of_le a kk.size,c,kk.ai hc (nF b hb)⟩
 ·have e:aC (l ++ [v])=aC l ++ [.int .i64 v.1, .int .i64 v.2]:=by simp [aC]
  rw [e,List.length_append];exact hs.ae set (fun b hb e=>by obtain ⟨_,c,hc⟩:=hs.own hb;exact hc.ne hv2 (by decide) e)
 ·rcases ho j hj with h1 | h1
  ·exact I.o3 j h1
  ·exact ⟨by omega,fun hf=>by have:=(I.T.hF j hf).1;omega⟩
 ·rcases e with e | e
  ·exact nr I.B (by decide) e
  ·exact I.nt e
def dk (V:List Vl × List Nd) (k:Nat):List Vl × VS:=fldM (valM (vG V.2) 5000) (V.1.take k) ([],[])
theorem qm {k:Nat} (h:k<V.1.length):dk V (k+1)=((dk V k).1 ++ [(valM (vG V.2) 5000 (V.1.getD k (0,0)) (dk V k).2).1],(valM (vG V.2) 5000 (V.1.getD k (0,0)) (dk V k).2).2):=by
 unfold dk;have e:V.1[k]? = some (V.1.getD k (0,0)):=by rw [Le h];simp [List.getD,h]
 rw [List.take_add_one,e,Option.toList_some,iE]
 rfl
theorem rA {k:Nat} (h:k≤V.1.length):(dk V k).1.length=k:=by
 unfold dk;rw [iF,List.length_take];omega
theorem sk (O:cT V) (hl:V.2.length≤4000) (k:Nat):cK (da V) (dk V k).2.1≤5000∧(dk V k).2.1.length+cK (da V) (dk V k).2.1≤5000:=by
 have I:=mL O;unfold dk;have h1:(da V).length≤4000:=by unfold da;simpa using hl
 have h2:=kL (da V);have h3:=fp (f:=valM (vG V.2) 5000) (U:=da V) (iK I 5000) (V.1.take k) ([],[]) (fun v hv h3=>du.2 (O.rt v (List.mem_of_mem_take hv) h3));simp only [List.length_nil] at h3;exact ⟨by omega,by omega⟩
theorem rB:dZ (vG V.2) V.1=((dk V V.1.length).1,(dk V V.1.length).2.2):=by
 unfold dZ dk deep;rw [List.take_of_length_le (Nat.le_refl _)]
theorem ss (V:List Vl × List Nd) (x:Value) (w:World) (h:gZ w x V) (O:cT V) (l4:V.2.length≤4000) (l1:V.1.length≤100000):Calls Try.prog 67 #[x] w fun e w'=>iq w (dZ (vG V.2) V.1) e w':=by
 obtain ⟨ro,rc,yv,F0,rfl,r1,n1,-,-,-⟩:=h;obtain ⟨no,nc,rfl,-⟩:=n1.nth;obtain ⟨i0,hi,hz0,hz1,hz2⟩:=info_parts iC;have hmk:=fun (wx:World)=>cR (P:=Try.prog) wx 50 3 i0 (.int .i64 0) Try.underlying50 hi hz0 rfl hz1 V.2.length (by rw [hz2];omega) (by omega);clear hi hz0 hz1 hz2 i0;obtain ⟨vi,hi,hz0,hz1,hz2⟩:=b7 eT;have Vi:=Hz hi;have Vz0:=Hz hz0;have Vz1:=Hz hz1;have Vz2:=Hz hz2;clear hi hz0 hz1 hz2;have HD:=Hz (show pz w V (.slice ro V.1.length rc) (.slice no V.2.length nc) from ⟨⟨ro,rc,rfl,r1⟩,⟨_,n1⟩,O,l1,l4⟩);have HR:=Hz r1;have HO:=Hz O;have hx:=ah.new w [.slice ro V.1.length rc, .slice no V.2.length nc] 72;clear r1 n1 O;go_enter Try.func67,Try.ntmps67;go_upto_region 2 with fail
 have HB:Hid (∃ w1,(((w.alloc (.cells #[.slice ro V.1.length rc, .slice no V.2.length nc] 72)).alloc (.cells #[.slice none 0 0, .slice none 0 0] 72)).alloc (.cells #[.slice none 0 0, .slice none 0 0] 72))=w1∧aa (fun _=>False) w w1∧ah w1 w.heap.size [.slice ro V.1.length rc, .slice no V.2.length nc] 72∧ah w1 (w.heap.size+1) [.slice none 0 0, .slice none 0 0] 72∧ah w1 (w.heap.size+1+1) [.slice none 0 0, .slice none 0 0] 72∧w1.heap.size=w.heap.size+1+1+1):=
  ⟨_,rfl,((((Kz w).alloc _).alloc _).alloc _),((ah.newAt _ rfl rfl).alloc _).alloc _,((ah.newAt _ (by simp) rfl).alloc _),ah.newAt _ (by simp) rfl,by simp⟩
 obtain ⟨w1,hw1,k1,bx,bt,bv,hz1⟩:=HB.out;rw [hw1];have x1:=bx.cell 1;have xl:=bx.lt;simp only [Lz,Ls] at x1;have K1:=Hz k1;have BX:=Hz bx;have BT:=Hz bt;have BV:=Hz bv;have HZ:=Hz hz1;clear HB hw1 k1 bx bt bv hx hz1;go_upto_region 4 with fail
 clear x1 xl hmk;have HB:Hid (∃ w2,(((w1.alloc (.cells (Array.replicate V.2.length (.int .i64 0)) 3)).alloc (.cells #[.slice (some ⟨w1.heap.size,0,none⟩) V.2.length V.2.length] 50)).alloc (.cells #[.nilFunc] 165))=w2∧aa (fun _=>False) w1 w2∧ah w2 w1.heap.size (List.replicate V.2.length (.int .i64 0)) 3∧ah w2 (w1.heap.size+1) [.slice (some ⟨w1.heap.size,0,none⟩) V.2.length V.2.length] 50∧ah w2 (w1.heap.size+1+1) [.nilFunc] 165):=
  ⟨_,rfl,((((Kz w1).alloc _).alloc _).alloc _),((ah.newAt _ rfl (by simp)).alloc _).alloc _,((ah.newAt _ (by simp) rfl).alloc _),ah.newAt _ (by simp) rfl⟩
 obtain ⟨w2,hw2,k2,bs,bn,bf⟩:=HB.out;rw [hw2];have f0:=bf.cell 0;have fl:=bf.lt;have ff:=bf.free 0;simp only [Lz] at f0;have K2:=Hz k2;have BS:=Hz bs;have BN:=Hz bn;have BF:=Hz bf;clear HB hw2 k2 bs bn bf;go_wp2_with fail;clear f0 fl ff;generalize hsb:w1.heap.size=sb at *;have hz:=HZ.out;generalize hfb:sb+1+1=fb at *;generalize hnb:sb+1=nb at *;generalize hvb:w.heap.size+1+1=vb at *;generalize htb:w.heap.size+1=tb at *;generalize hxb:w.heap.size=xb at *;have set:=(aa.refl (·=fb) w2).setCell (p:=⟨fb,0,none⟩) (.inl rfl) (fE.fn ⟨nb,sb,vb,xb,fb⟩);have BF2:=BF.out.aF 0 (fE.fn ⟨nb,sb,vb,xb,fb⟩);have KW:aa (fun _=>False) w w2:=K1.out.trans K2.out;have T2:cE w (w2.setCell ⟨fb,0,none⟩ (fE.fn ⟨nb,sb,vb,xb,fb⟩)) ⟨nb,sb,vb,xb,fb⟩ V (.slice ro V.1.length rc) (.slice no V.2.length nc) (.slice none 0 0) (.slice none 0 0) (fun _=>False) ([],[]):=
  ⟨KW.setCell (p:=⟨fb,0,none⟩) (.inr (by dsimp only;omega)) _,set.ai BN.out (by dsimp only;omega),by rw [lB];exact set.ai BS.out (by dsimp only;omega),set.ai (K2.out.ai BV.out (fun h=>h)) (by dsimp only;omega),set.ai (K2.out.ai BX.out (fun h=>h)) (by dsimp only;omega),BF2,bQ.nil _ _,rfl,fun _ h=>h.elim,by dsimp only;omega,by dsimp only;omega,fun _ h=>(cF h).elim,by dsimp only;omega⟩
 have HI0:=Hz (show dW w ⟨nb,sb,vb,xb,fb⟩ V (.slice ro V.1.length rc) (.slice no V.2.length nc) tb _ (.slice none 0 0) (.slice none 0 0) (fun _=>False) (dk V 0).2 (dk V 0).1 from
  ⟨T2,fun _ h=>h.elim,Sl.nil _ _ _,fun _ h=>(cF h).elim,by omega,by dsimp only;omega,set.ai (K2.out.ai BT.out (fun h=>h)) (by omega)⟩)
 clear set T2 BF2 BF BN BS BV BT BX K1 K2 KW HZ hz hfb hvb hnb htb hxb;unfold fE.fn at HI0;dsimp only at HI0;generalize w2.setCell _ _=w3 at *;have HT':=Hz (fun g rv=>qk (g:=g) (rv:=rv) HD.out 5000 (Nat.le_refl _));go_wp2_with fail;go_loopw [6] (fun i wr=>∃ (k:Nat) (rv nv:Value) (F:Nat→Prop),k≤V.1.length∧i=.int .i64 k∧dW w ⟨nb,sb,vb,xb,fb⟩ V (.slice ro V.1.length rc) (.slice no V.2.length nc) tb wr rv nv F (dk V k).2 (dk V k).1) (fun i _=>V.1.length-(intOf i).toNat)
 case atStart=>exact ⟨0,_,_,_,Nat.zero_le _,rfl,HI0.out⟩
 case round=>
  clear HI0;obtain ⟨k,rv,nv,F,hk,rfl,hI⟩:=hrel;have HI:=Hz hI;have hkl:=rA (V:=V) (k:=k) hk;have HKL:=Hz hkl;have x0:=hI.T.hx.cell 0;have xl:=hI.T.hx.lt;simp only [Lz] at x0;by_cases hlt:k<V.1.length
  ·have f0:=hI.T.hf.cell 0;have fl:=hI.T.hf.lt;unfold fE.fn at f0;simp only [Lz] at f0;have HST:=Hz (qm (V:=V) (k:=k) hlt);obtain ⟨gr,og,ero,ggl,d0,d1⟩:=(HR.out.ae hI.T.K0 (fun _ _ _ h=>h)).val k hlt;subst ero;have HAL:=Hz (show (V.1.getD k (0,0)).1=3→(V.1.getD k (0,0)).2 ∈ da V from fun h3=>du.2 (HO.out.rl hlt h3));have UN:=Hz (sk HO.out l4 k);have DAT:=Hz (fun (wz:World) (kk:aa (fun _=>False) w wz)=>(show wz.cell? ⟨gr,og+k*2,none⟩=some (.int .i64 (V.1.getD k (0,0)).1)∧wz.cell? ⟨gr,og+k*2+1,none⟩=some (.int .i64 (V.1.getD k (0,0)).2) by
    obtain ⟨_,_,e',-,d0',d1'⟩:=(HR.out.ae kk (fun _ _ _ h=>h)).val k hlt;cases e'
    exact ⟨d0',d1'⟩))
   generalize V.1.getD k (0,0)=v at *;obtain ⟨f1,f2⟩:=v;dsimp only at d0 d1;obtain ⟨lo,lc,rfl,-,-,-⟩:=hI.L.rd;rw [hkl] at HI;clear hI hkl;go_wp2_with fail;refine aq (.free 1 (.free 3 (.pure 0 (.pure 2 (.free 4 (.pure 5 (.two 6 (.run 7 (.run 8 (.swi [] (.fin)))) 7 (.run 6 (.swi [8] (.run 8 (.swi [] (.fin)))))))))))) [8] (fun w'=>w'.cell? ⟨fb,0,none⟩=some (.func (.func 111) #[] #[.pointer (some ⟨nb,0,none⟩), .pointer (some ⟨vb,0,none⟩), .pointer (some ⟨xb,0,none⟩), .pointer (some ⟨fb,0,none⟩)])∧w'.cell? ⟨xb,0,none⟩=some (.slice (some ⟨gr,og,none⟩) V.1.length rc)∧w'.cell? ⟨gr,og+k*2,none⟩=some (.int .i64 f1)∧w'.cell? ⟨gr,og+k*2+1,none⟩=some (.int .i64 f2)) (by kernel_rfl) (by kernel_rfl) ⟨f0,x0,d0,d1⟩ ?_
   iterate 6 ((first | refine ak rfl rfl fun K hK=>?_ | refine aj rfl rfl fun K hK=>?_ | refine aB rfl rfl fun K hK=>?_ | refine aw rfl rfl fun K hK=>?_ | refine aA rfl rfl fun K hK=>?_);go_simp;refine hK _ ?_;clear hK K)
   refine lT rfl rfl rfl rfl (fun K hK=>?_) (fun K hK=>?_)
   ·unfold aM;go_simp;refine (HT'.out _ _ (f1,f2) nv F _ _ (HI.out.T.same ((Kz wr).drew)) HAL.out UN.out.1 UN.out.2).mono ?_;rintro e w8 ⟨rfl,nv8,F8,T8,k8,p1,p2⟩;have HI8:=Hz ((HI.out.same ((Kz wr).drew)).told T8 k8 p2);obtain ⟨⟨⟨r1,r2⟩,sr⟩,hr⟩:∃ t,valM (vG V.2) 5000 (f1,f2) (dk V k).2=t:=⟨_,rfl⟩;rw [hr] at HI8 HST ⊢;dsimp only at HI8 HST ⊢;obtain ⟨d8,d9⟩:=DAT.out _ HI8.out.T.K0;refine hK _ _ (fun h=>h) (fun _ _=>⟨HI8.out.T.hf.cell 0,HI8.out.T.hx.cell 0,d8,d9⟩) ?_;clear hK K T8 k8 p1 p2 hr d0 d1 ggl f0 fl x0 xl HI d8 d9;refine bO rfl rfl (fun K hK=>?_);unfold aM;go_simp;have kz:aa (fun _=>False) w8 (w8.alloc (.cells #[.int .i64 0, .int .i64 0] 78)).drew:=((Kz w8).alloc _).drew;have tz:ah (w8.alloc (.cells #[.int .i64 0, .int .i64 0] 78)).drew w8.heap.size [.int .i64 0, .int .i64 0] 78:=(ah.new w8 [.int .i64 0, .int .i64 0] 78).drew;have HI9:=Hz (HI8.out.same kz);obtain ⟨d8,d9⟩:=DAT.out _ HI9.out.T.K0;refine hK _ _ (fun _=>⟨HI9.out.T.hf.cell 0,HI9.out.T.hx.cell 0,d8,d9⟩) ?_;clear hK K d8 d9;have z0:=tz.cell 0;have z1:=tz.cell 1;have zl:=tz.lt;have zf:=tz.free 0;have zf1:=tz.free 1;simp only [Lz,Ls] at z0 z1;clear kz tz;refine aK rfl rfl rfl (fun K hK=>?_);unfold aM;go_simp;refine hK _ _ ?_;clear hK K z0 z1 zl zf zf1 HI9;refine aH (fun _=>True) trivial (aD ?_);have kz:aa (fun _=>False) w8 (w8.alloc (.cells #[.int .i64 r1, .int .i64 r2] 78)):=((Kz w8).alloc _);have tz:ah (w8.alloc (.cells #[.int .i64 r1, .int .i64 r2] 78)) w8.heap.size [.int .i64 r1, .int .i64 r2] 78:=(ah.new w8 [.int .i64 r1, .int .i64 r2] 78);have HI2:=Hz (HI8.out.same kz);clear HI8 kz;generalize w8.alloc (.cells #[.int .i64 r1, .int .i64 r2] 78)=w9 at *;have HL2:=Hz (show Sl w9 78 2 (.slice lo k lc) k (aC (dk V k).1) by have:=HI2.out.L;rw [HKL.out] at this;exact this);have z0:=tz.cell 0;have z1:=tz.cell 1;have zl:=tz.lt;simp only [Lz,Ls] at z0 z1;have c2:=HI2.out.T.hv.cell 0;have cl:=HI2.out.T.hv.lt;simp only [Lz] at c2;generalize w8.heap.size=tv at *;clear tz;go_wp2_with (at_builtin;refine cB rfl (.tmp 28) (.tmp 30) 69 rfl 78 vi (.agg #[.int .i64 0, .int .i64 0]) 2 16 Try.underlying69 Vi.out Vz0.out Vz1.out Vz2.out rfl (by decide) _ k (aC (dk V k).1) rfl (HL2.out.ae ((Kz w9).alloc _) (fun _ _ h=>h)) ⟨w9.heap.size,0,none⟩ 1 1 [.int .i64 r1, .int .i64 r2] rfl rfl (bM w9 78 #[.int .i64 r1, .int .i64 r2]) (by intro u hu;simp at hu;rcases hu with rfl | rfl <;> rfl) (by unfold maxLen;omega) (by omega) ?_);intro v10 w10 hs10 hk10 ho10;have HI10:=Hz (HI2.out.app (v:=(r1,r2)) ((Kz w9).alloc _) (by rw [HKL.out];exact hs10) hk10 (by simpa using ho10));have hp3:=hk10.ai (((Kz w9).alloc _).ai HI2.out.T.hv (fun h=>h)) (fun hv=>by obtain ⟨_,c',hc⟩:=(HL2.out.ae ((Kz w9).alloc (.cells #[.int .i64 r1, .int .i64 r2] 78)) (fun _ _ h=>h)).own hv;exact (((Kz w9).alloc _).ai HI2.out.T.hv (fun h=>h)).ne hc (by decide) rfl);have x0:=hp3.cell 0;have xf:=hp3.free 0;have xl:=hp3.lt;simp only [Lz,Ls] at x0;obtain ⟨lo3,lc3,rfl,-,-,-⟩:=hs10.rd;clear hs10 hk10 ho10 HL2 HI2 z0 z1 zl hp3 c2 cl;go_wp2_with fail;go_roundw
    case rel=>exact ⟨k+1,_,_,_,by omega,by go_num,by rw [HST.out];exact HI10.out⟩
    case measure=>simp [intOf];omega
   ·unfold aM;go_simp;have kz:aa (fun _=>False) wr (wr.alloc (.cells #[.int .i64 0, .int .i64 0] 78)).drew:=((Kz wr).alloc _).drew;have tz:ah (wr.alloc (.cells #[.int .i64 0, .int .i64 0] 78)).drew wr.heap.size [.int .i64 0, .int .i64 0] 78:=(ah.new wr [.int .i64 0, .int .i64 0] 78).drew;have HIA:=Hz (HI.out.same kz);have TF:=Hz (show ¬ F wr.heap.size from fun hf=>by have:=(HI.out.T.hF _ hf).1;omega);have TL:=Hz (show ¬ ag (.slice lo k lc) wr.heap.size from fun hf=>by have:=(HI.out.L.own hf).1;omega);have T1:=Hz (show w.heap.size≤wr.heap.size from HI.out.T.K0.size);have TZ:=Hz tz;obtain ⟨d8,d9⟩:=DAT.out _ HIA.out.T.K0;refine hK _ _ (fun h=>h) (fun _ _=>⟨HIA.out.T.hf.cell 0,HIA.out.T.hx.cell 0,d8,d9⟩) ?_;clear hK K kz tz HI ggl d0 d1 x0 xl f0 fl d8 d9;generalize (wr.alloc (.cells #[.int .i64 0, .int .i64 0] 78)).drew=wa at *;generalize wr.heap.size=zb at *;refine bO rfl rfl (fun K hK=>?_);unfold aM;go_simp;refine (HT'.out _ _ (f1,f2) nv F _ _ HIA.out.T HAL.out UN.out.1 UN.out.2).mono ?_;rintro e w8 ⟨rfl,nv8,F8,T8,k8,p1,p2⟩;have HI8:=Hz (HIA.out.told T8 k8 p2);obtain ⟨⟨⟨r1,r2⟩,sr⟩,hr⟩:∃ t,valM (vG V.2) 5000 (f1,f2) (dk V k).2=t:=⟨_,rfl⟩;rw [hr] at HI8 HST ⊢;dsimp only at HI8 HST ⊢;have TF8:=Hz (show ¬ F8 zb from fun hf=>by rcases p2 _ hf with h | h;exact TF.out h;exact absurd h (Nat.not_le.2 TZ.out.lt));have tz8:=k8.ai TZ.out (HIA.out.T.dC TZ.out (by decide) (by decide) (by decide));obtain ⟨d8,d9⟩:=DAT.out _ HI8.out.T.K0;refine hK _ _ (fun _=>⟨HI8.out.T.hf.cell 0,HI8.out.T.hx.cell 0,d8,d9⟩) ?_;clear hK K T8 k8 p1 p2 hr d8 d9 TZ TF HIA;refine aH (fun _=>True) trivial ?_;have TZ:=Hz tz8;have z0:=tz8.cell 0;have z1:=tz8.cell 1;have zl:=tz8.lt;have zf:=tz8.free 0;have zf1:=tz8.free 1;simp only [Lz,Ls] at z0 z1;clear tz8;refine aK rfl rfl rfl (fun K hK=>?_);unfold aM;go_simp;refine hK _ _ ?_;clear hK K z0 z1 zl zf zf1;refine aH (fun _=>True) trivial (aD ?_);have kz:aa (·=zb) w8 ((w8.setCell ⟨zb,0,none⟩ (.int .i64 r1)).setCell ⟨zb,1,none⟩ (.int .i64 r2)):=((aa.refl (·=zb) w8).setCell (.inl rfl) _).setCell (.inl rfl) _;have HI2:=Hz (HI8.out.other kz ⟨_,TZ.out⟩ T1.out TF8.out TL.out);have tz:ah ((w8.setCell ⟨zb,0,none⟩ (.int .i64 r1)).setCell ⟨zb,1,none⟩ (.int .i64 r2)) zb [.int .i64 r1, .int .i64 r2] 78:=(TZ.out.aF 0 (.int .i64 r1)).aF 1 (.int .i64 r2);clear HI8 kz TZ TF8 T1 TL;generalize (w8.setCell ⟨zb,0,none⟩ (.int .i64 r1)).setCell ⟨zb,1,none⟩ (.int .i64 r2)=w9 at *;have HL2:=Hz (show Sl w9 78 2 (.slice lo k lc) k (aC (dk V k).1) by have:=HI2.out.L;rw [HKL.out] at this;exact this);have z0:=tz.cell 0;have z1:=tz.cell 1;have zl:=tz.lt;simp only [Lz,Ls] at z0 z1;have c2:=HI2.out.T.hv.cell 0;have cl:=HI2.out.T.hv.lt;simp only [Lz] at c2;generalize zb=tv at *;clear tz;go_wp2_with (at_builtin;refine cB rfl (.tmp 28) (.tmp 30) 69 rfl 78 vi (.agg #[.int .i64 0, .int .i64 0]) 2 16 Try.underlying69 Vi.out Vz0.out Vz1.out Vz2.out rfl (by decide) _ k (aC (dk V k).1) rfl (HL2.out.ae ((Kz w9).alloc _) (fun _ _ h=>h)) ⟨w9.heap.size,0,none⟩ 1 1 [.int .i64 r1, .int .i64 r2] rfl rfl (bM w9 78 #[.int .i64 r1, .int .i64 r2]) (by intro u hu;simp at hu;rcases hu with rfl | rfl <;> rfl) (by unfold maxLen;omega) (by omega) ?_)
    intro v10 w10 hs10 hk10 ho10;have HI10:=Hz (HI2.out.app (v:=(r1,r2)) ((Kz w9).alloc _) (by rw [HKL.out];exact hs10) hk10 (by simpa using ho10));have hp3:=hk10.ai (((Kz w9).alloc _).ai HI2.out.T.hv (fun h=>h)) (fun hv=>by obtain ⟨_,c',hc⟩:=(HL2.out.ae ((Kz w9).alloc (.cells #[.int .i64 r1, .int .i64 r2] 78)) (fun _ _ h=>h)).own hv;exact (((Kz w9).alloc _).ai HI2.out.T.hv (fun h=>h)).ne hc (by decide) rfl);have x0:=hp3.cell 0;have xf:=hp3.free 0;have xl:=hp3.lt;simp only [Lz,Ls] at x0;obtain ⟨lo3,lc3,rfl,-,-,-⟩:=hs10.rd;clear hs10 hk10 ho10 HL2 HI2 z0 z1 zl hp3 c2 cl;go_wp2_with fail;go_roundw
    case rel=>exact ⟨k+1,_,_,_,by omega,by go_num,by rw [HST.out];exact HI10.out⟩
    case measure=>simp [intOf];omega
  ·obtain rfl:k=V.1.length:=by omega
   obtain ⟨lo,lc,rfl,hrr,-,-⟩:=hI.L.rd;obtain ⟨cs,hns,hnr⟩:=hI.T.N;obtain ⟨no',nc',rfl,-,-,-⟩:=hns.rd;have c2:=hI.T.hv.cell 0;have c3:=hI.T.hv.cell 1;have cl:=hI.T.hv.lt;have b0:=hI.B.cell 0;have b1:=hI.B.cell 1;have bl:=hI.B.lt;have f0:=hI.B.free 0;have f1:=hI.B.free 1;simp only [Lz,Ls] at c2 c3 b0 b1;clear hI hrr hns hnr hlt hk hkl;go_wp2_with (refine bd rfl 72 (.tmp 3) rfl (by kernel_rfl) vb 0 rfl _ _ c2 c3 ?_);have hb3:=(HI.out.B.aF 0 (.slice lo (dk V V.1.length).1.length lc)).aF 1 (.slice no' (dk V V.1.length).2.2.length nc');have x0:=hb3.cell 0;have x1:=hb3.cell 1;simp only [List.set_cons_zero,List.set_cons_succ,Lz,Ls] at x0 x1;refine bodyPost_ret (v:=.agg #[.slice lo (dk V V.1.length).1.length lc, .slice no' (dk V V.1.length).2.2.length nc']) (by simp [results,Try.results67,go_sem,x0,x1]) rfl ?_;refine ⟨_,rfl,?_,(HI.out.T.K0.setCell (p:=⟨tb,0,none⟩) (.inr HI.out.ot) _).setCell (p:=⟨tb,1,none⟩) (.inr HI.out.ot) _⟩;rw [rB];have ke:=((aa.refl (·=tb) wr).setCell (p:=⟨tb,0,none⟩) (.inl rfl) (.slice lo (dk V V.1.length).1.length lc)).setCell (p:=⟨tb,1,none⟩) (.inl rfl) (.slice no' (dk V V.1.length).2.2.length nc');refine ⟨lo,lc,no',nc',F,rfl,HI.out.L.ae ke (fun j hj e=>?_),HI.out.T.N.ae ke (fun j hj _ e=>?_) (fun j hj e=>?_),fun j hj=>?_⟩
   ·subst e;obtain ⟨_,c,hc⟩:=HI.out.L.own hj;exact hc.ne HI.out.B (by decide) rfl
   ·subst e;obtain ⟨_,c,hc⟩:=HI.out.T.hF _ hj;exact hc.ne HI.out.B (by decide) rfl
   ·subst e;obtain ⟨_,c,hc⟩:=HI.out.T.N.own hj;exact hc.ne HI.out.B (by decide) rfl
   ·have hks:=ke.size;rcases hj with hj | hj | hj
    ·exact ⟨HI.out.o2 j hj,by have:=(HI.out.T.hF j hj).1;omega⟩
    ·exact ⟨(HI.out.o3 j hj).1,by have:=(HI.out.L.own hj).1;omega⟩
    ·exact ⟨HI.out.T.ln j hj,by have:=(HI.out.T.N.own hj).1;omega⟩
end
end
section
open Go.RowKit
def qL:List Int:=[0,1,1,3,7,3,7,7,1,6,3,3,6,3,7,0,0]
theorem oo (k:Nat) (hk:k<17) (w:World):(Instr.index 203 (.agg #[.int .i64 0, .int .i64 1, .int .i64 1, .int .i64 3, .int .i64 7, .int .i64 3, .int .i64 7, .int .i64 7, .int .i64 1, .int .i64 6, .int .i64 3, .int .i64 3, .int .i64 6, .int .i64 3, .int .i64 7, .int .i64 0, .int .i64 0]) (.int .i64 (k:Int))).run Try.prog w=.ok (.int .i64 (qL.getD k 0)) w:=by
 match k,hk with
 | 0,_=>show _=_;kernel_rfl
 | 1,_=>show _=_;kernel_rfl
 | 2,_=>show _=_;kernel_rfl
 | 3,_=>show _=_;kernel_rfl
 | 4,_=>show _=_;kernel_rfl
 | 5,_=>show _=_;kernel_rfl
 | 6,_=>show _=_;kernel_rfl
 | 7,_=>show _=_;kernel_rfl
 | 8,_=>show _=_;kernel_rfl
 | 9,_=>show _=_;kernel_rfl
 | 10,_=>show _=_;kernel_rfl
 | 11,_=>show _=_;kernel_rfl
 | 12,_=>show _=_;kernel_rfl
 | 13,_=>show _=_;kernel_rfl
 | 14,_=>show _=_;kernel_rfl
 | 15,_=>show _=_;kernel_rfl
 | 16,_=>show _=_;kernel_rfl
 | n+17,h=>omega
theorem pA:∀ n:Nat,n<17→1≤n→aJ n=qL.getD n 0:=by decide
theorem su (k:Int) (w:World):Calls Try.prog 130 #[.int .i64 k] w fun e w'=>e=.returned (.int .i64 (aJ k))∧w=w':=by
 by_cases h1:k<1
 ·have HE:=Hz (show aJ k=-1 by unfold aJ;repeat' (rw [if_neg (by omega)]));have d1:decide (k<1)=true:=by simpa using h1
  clear h1;go_enter Try.func130,Try.ntmps130;go_wp2_with fail;go_ret;exact ⟨cH HE.out.symm,rfl⟩
 by_cases h2:16<k
 ·have HE:=Hz (show aJ k=-1 by unfold aJ;repeat' (rw [if_neg (by omega)]));have d1:decide (k<1)=false:=by simp;omega
  have d2:decide (16<k)=true:=by simpa using h2
  clear h1 h2;go_enter Try.func130,Try.ntmps130;go_wp2_with fail;go_ret;exact ⟨cH HE.out.symm,rfl⟩
 ·obtain ⟨n,rfl⟩:∃ n:Nat,k=n:=⟨k.toNat,by omega⟩;have d1:decide ((n:Int)<1)=false:=by simpa using h1
  have d2:decide (16<(n:Int))=false:=by simpa using h2
  have HE:=Hz (pA n (by omega) (by omega));have hix:=oo n (by omega);clear h1 h2;go_enter Try.func130,Try.ntmps130;go_wp2_with fail;go_ret;exact ⟨cH HE.out.symm,rfl⟩
def ee (u:Int) (j:Nat) (k:Int):Bool:=!fZ u j || cD k
theorem ig (u:Int) (hu:u=0∨u=1∨u=3∨u=6∨u=7) (j:Nat) (hj:j=0∨j=1∨j=2) (bit:Int) (hbit:bit=2 ^ j) (k:Int) (b:Nat) (w:World) (hc:w.cell? ⟨b,0,none⟩=some (.int .i64 u)) (hl:b<w.heap.size) :
  Calls Try.prog 131 #[.int .i64 k, .int .i64 bit, .pointer (some ⟨b,0,none⟩)] w fun e w'=>e=.returned (.bool (ee u j k))∧w=w':=by
 have key:∀ z:Bool,decide (k≥0)=z→True:=fun _ _=>trivial;by_cases h0:k<0
 ·have d1:decide (0≤k)=false:=by simpa using h0
  have HR:=Hz (show cD k=false by unfold cD;rw [d1];rfl);clear h0;rcases hu with rfl | rfl | rfl | rfl | rfl <;> rcases hj with rfl | rfl | rfl <;> subst hbit <;> (go_enter Try.func131,Try.ntmps131;go_wp2_with fail;go_ret;exact ⟨cW (by unfold ee;rw [HR.out];decide),rfl⟩)
 ·have d1:decide (0≤k)=true:=by simp;omega
  by_cases h1:k<12
  ·have d2:decide (k<12)=true:=by simpa using h1
   have HR:=Hz (show cD k=true by unfold cD;rw [d1,d2];rfl);clear h0 h1;rcases hu with rfl | rfl | rfl | rfl | rfl <;> rcases hj with rfl | rfl | rfl <;> subst hbit <;> (go_enter Try.func131,Try.ntmps131;go_wp2_with fail;go_ret;exact ⟨cW (by unfold ee;rw [HR.out];decide),rfl⟩)
  ·have d2:decide (k<12)=false:=by simpa using h1
   have HR:=Hz (show cD k=false by unfold cD;rw [d1,d2];rfl);clear h0 h1;rcases hu with rfl | rfl | rfl | rfl | rfl <;> rcases hj with rfl | rfl | rfl <;> subst hbit <;> (go_enter Try.func131,Try.ntmps131;go_wp2_with fail;go_ret;exact ⟨cW (by unfold ee;rw [HR.out];decide),rfl⟩)
end
section
open Go.RowKit
theorem pB {x:St} (h:aJ x.k≠-1) {j:Nat} (hj:j<3) (hb:ee (aJ x.k) j (x.mi j)=false):bZ x=1:=by
 unfold ee at hb;simp only [Bool.or_eq_false_iff,Bool.not_eq_false'] at hb;exact mT h hj hb.1 hb.2
theorem ou {x:St} (h0:ee (aJ x.k) 0 x.r=true) (h1:ee (aJ x.k) 1 x.a=true) (h2:ee (aJ x.k) 2 x.b=true):∀ j,j<3→fZ (aJ x.k) j=true→cD (x.mi j)=true:=by
 intro j hj hb;have key:∀ {k:Int},ee (aJ x.k) j k=true→cD k=true:=fun {k} h=>by
  unfold ee at h;rw [hb] at h;simpa using h
 rcases (by omega:j=0∨j=1∨j=2) with rfl | rfl | rfl
 ·exact key h0
 ·exact key h1
 ·exact key h2
theorem rC (x:St) (w:World):Calls Try.prog 95 #[.agg #[.int .i64 x.k, .int .i64 x.r, .int .i64 x.a, .int .i64 x.b, .int .i64 x.i, .int .i64 x.n]] w fun e w'=>e=.returned (.int .i64 (bZ x))∧aa (fun _=>False) w w':=by
 have HU:=Hz (fun w=>su x.k w);have HN:=Hz (fun h=>mS (x:=x) h);have HR:=Hz (fun (h1:aJ x.k≠-1) j (h2:j<3) h3=>pB (x:=x) h1 (j:=j) h2 h3);have HX:=Hz (fun (h:aJ x.k≠-1) h0 h1 h2=>mU (x:=x) h (ou h0 h1 h2));have hv:=nY x.k;have B1:ah (w.alloc (.cells #[.int .i64 x.k, .int .i64 x.r, .int .i64 x.a, .int .i64 x.b, .int .i64 x.i, .int .i64 x.n] 98)) w.heap.size [.int .i64 x.k, .int .i64 x.r, .int .i64 x.a, .int .i64 x.b, .int .i64 x.i, .int .i64 x.n] 98:=ah.newAt _ rfl rfl;have ka:=(Kz w).alloc (.cells #[.int .i64 x.k, .int .i64 x.r, .int .i64 x.a, .int .i64 x.b, .int .i64 x.i, .int .i64 x.n] 98);obtain ⟨xk,xr,xa,xb,xi,xn⟩:=x;dsimp only at hv B1 ka;generalize hu:aJ xk=u at hv;have hU:=Hz hu;dsimp only at HU HR HX HN;rw [hu] at HU HR HX HN;clear hu;go_enter Try.func95,Try.ntmps95;go_wp2_with fail;generalize w.alloc (.cells #[.int .i64 xk, .int .i64 xr, .int .i64 xa, .int .i64 xb, .int .i64 xi, .int .i64 xn] 98)=w1 at *;generalize w.heap.size=p at *;refine (HU.out _).mono ?_;rintro e _ ⟨rfl,rfl⟩;have p0:=B1.cell 0;have p1:=B1.cell 1;have p2:=B1.cell 2;have p3:=B1.cell 3;have p5:=B1.cell 5;have pl:=B1.lt;simp only [Lz,Ls] at p0 p1 p2 p3 p5;have HB:=Hz B1;have K1:=Hz ka;clear B1 ka HU;by_cases hneg:u=-1
 ·have HE:=Hz (HN.out hneg);subst hneg;clear hv;go_wp2_with fail;go_ret;exact ⟨cH HE.out.symm,K1.out.alloc _⟩
 ·have hd:decide (u<0)=false:=by simp;omega
  have hu5:u=0∨u=1∨u=3∨u=6∨u=7:=by omega
  have HNN:=Hz hneg;have hR:=HR.out hneg;have hX:=HX.out hneg;have HR:=Hz hR;have HX:=Hz hX;have HU5:=Hz hu5;clear hneg hv hR hX hu5;go_upto_region 4 with (fail)
  have ka:=(Kz w1).alloc (.cells #[.int .i64 u] 3);have hub:ah (w1.alloc (.cells #[.int .i64 u] 3)) w1.heap.size [.int .i64 u] 3:=ah.newAt _ rfl rfl;have HB2:=Hz (ka.ai HB.out (fun h=>h));have K2:=Hz (K1.out.trans ka);clear p0 p1 p2 p3 p5 pl ka HB K1;generalize w1.alloc (.cells #[.int .i64 u] 3)=w2 at *;generalize w1.heap.size=q at *;have p0:=HB2.out.cell 0;have p1:=HB2.out.cell 1;have p2:=HB2.out.cell 2;have p3:=HB2.out.cell 3;have p5:=HB2.out.cell 5;have pl:=HB2.out.lt;simp only [Lz,Ls] at p0 p1 p2 p3 p5;have q0:=hub.cell 0;have ql:=hub.lt;simp only [Lz] at q0;have C0:=Hz (ig u HU5.out 0 (by decide) 1 rfl xr q w2 q0 ql);have C1:=Hz (ig u HU5.out 1 (by decide) 2 rfl xa q w2 q0 ql);have C2:=Hz (ig u HU5.out 2 (by decide) 4 rfl xb q w2 q0 ql);clear hub q0 ql;obtain ⟨z0,h0⟩:∃ z,ee u 0 xr=z:=⟨_,rfl⟩;obtain ⟨z1,h1⟩:∃ z,ee u 1 xa=z:=⟨_,rfl⟩;obtain ⟨z2,h2⟩:∃ z,ee u 2 xb=z:=⟨_,rfl⟩;rw [h0] at C0;rw [h1] at C1;rw [h2] at C2;have H0:=Hz h0;have H1:=Hz h1;have H2:=Hz h2;clear h0 h1 h2;go_wp2_with fail;refine C0.out.mono ?_;rintro e _ ⟨rfl,rfl⟩;cases z0
  ·have HE:=Hz (HR.out 0 (by decide) H0.out);go_wp2_with fail;go_ret;exact ⟨cH HE.out.symm,K2.out⟩
  go_wp2_with fail;refine C1.out.mono ?_;rintro e _ ⟨rfl,rfl⟩;cases z1
  ·have HE:=Hz (HR.out 1 (by decide) H1.out);go_wp2_with fail;go_ret;exact ⟨cH HE.out.symm,K2.out⟩
  go_wp2_with fail;refine C2.out.mono ?_;rintro e _ ⟨rfl,rfl⟩;cases z2
  ·have HE:=Hz (HR.out 2 (by decide) H2.out);go_wp2_with fail;go_ret;exact ⟨cH HE.out.symm,K2.out⟩
  have HX2:=Hz (HX.out H0.out H1.out H2.out);clear HX HR C0 C1 C2;by_cases k1:xk=1
  ·subst k1;by_cases n2:xn < -1152921504606846976
   ·have HE:=Hz (show bZ ⟨1,xr,xa,xb,xi,xn⟩=1 by rw [HX2.out,if_pos ⟨rfl,fun h=>by unfold dy at h;omega⟩]);have d2:decide (xn < -1152921504606846976)=true:=by simpa using n2
    clear n2 HX2;go_wp2_with fail;go_ret;exact ⟨cH HE.out.symm,K2.out⟩
   have d2:decide (xn < -1152921504606846976)=false:=by simpa using n2
   by_cases n1:1152921504606846976≤xn
   ·have HE:=Hz (show bZ ⟨1,xr,xa,xb,xi,xn⟩=1 by rw [HX2.out,if_pos ⟨rfl,fun h=>by unfold dy at h;omega⟩]);have d1:decide (1152921504606846976≤xn)=true:=by simpa using n1
    clear n1 n2 HX2;go_wp2_with fail;go_ret;exact ⟨cH HE.out.symm,K2.out⟩
   ·have HE:=Hz (show bZ ⟨1,xr,xa,xb,xi,xn⟩=0 by rw [HX2.out,if_neg (fun h=>h.2 (by unfold dy;omega)),if_neg (fun h=>by omega)]);have d1:decide (1152921504606846976≤xn)=false:=by simpa using n1
    clear n1 n2 HX2;go_wp2_with fail;go_ret;exact ⟨cH HE.out.symm,K2.out⟩
  ·have e1:(xk == 1)=false:=by simpa using k1
   by_cases k5:xk=5
   ·subst k5;by_cases n1:xn<0
    ·have HE:=Hz (show bZ ⟨5,xr,xa,xb,xi,xn⟩=1 by rw [HX2.out,if_neg (fun h=>by omega),if_pos ⟨rfl,fun h=>by omega⟩]);have d1:decide (xn<0)=true:=by simpa using n1
     clear n1 HX2 k1;go_wp2_with fail;go_ret;exact ⟨cH HE.out.symm,K2.out⟩
    have d1:decide (xn<0)=false:=by simpa using n1
    by_cases n2:12<xn
    ·have HE:=Hz (show bZ ⟨5,xr,xa,xb,xi,xn⟩=1 by rw [HX2.out,if_neg (fun h=>by omega),if_pos ⟨rfl,fun h=>by omega⟩]);have d2:decide (12<xn)=true:=by simpa using n2
     clear n1 n2 HX2 k1;go_wp2_with fail;go_ret;exact ⟨cH HE.out.symm,K2.out⟩
    ·have HE:=Hz (show bZ ⟨5,xr,xa,xb,xi,xn⟩=0 by rw [HX2.out,if_neg (fun h=>by omega),if_neg (fun h=>h.2 (by omega))]);have d2:decide (12<xn)=false:=by simpa using n2
     clear n1 n2 HX2 k1;go_wp2_with fail;go_ret;exact ⟨cH HE.out.symm,K2.out⟩
   ·have e5:(xk == 5)=false:=by simpa using k5
    have HE:=Hz (show bZ ⟨xk,xr,xa,xb,xi,xn⟩=0 by rw [HX2.out,if_neg (fun h=>k1 h.1),if_neg (fun h=>k5 h.1)]);clear k1 k5 HX2;go_wp2_with fail;go_ret;exact ⟨cH HE.out.symm,K2.out⟩
end
section
open Go.RowKit
def pC (x:Int):Nat:=(x%18446744073709551616).toNat
theorem qn (x:Int):IntKind.u64.wrap x=(pC x:Int):=by
 unfold pC;rw [Int.toNat_of_nonneg (Int.emod_nonneg _ (by decide))]
 rfl
theorem bE {m k:Nat} {x y:Value} (hx:x=.int .i64 ((k+1:Nat):Int)) (hy:y=.int .i64 (k:Int)) (h:k<m):m-(intOf x).toNat<m-(intOf y).toNat:=by
 subst hx;subst hy;simp [intOf];omega
section
variable {w0 w w':World} {p:Nat} {h:WH} {O O':Wo}
end
end
section
open Go.RowKit
structure HH where
 p:Nat
 a:WH
def HH.Own (h:HH) (k:Nat):Prop:=k=h.p∨h.a.Own k
structure sv (w:World) (h:HH) (O:Wo):Prop where
 hp:ah w h.p [.pointer (some ⟨h.a.p,0,none⟩)] 185
 H:bK w h.a O
section
variable {w w':World} {h:HH} {O O':Wo}
def rD (w:World) (n o:Int) (e:Ending) (w':World):Prop:=
 ∃ h:HH,e=.returned (.tuple #[.pointer (some ⟨h.p,0,none⟩), .agg #[.int .i64 0, .int .i64 0]])∧sv w' h (Wo.new n o)∧aa (fun _=>False) w w'∧∀ k,h.Own k→w.heap.size≤k
theorem qo (n o:Int) (w:World) (h:Ar.fits n o=true) :
  Calls Try.prog 94 #[.int .i64 n, .int .i64 o] w fun e w'=>rD w n o e w':=by
 go_enter Try.func94,Try.ntmps94;go_wp2_with fail;refine (pS n o _ h).mono ?_;rintro e w1 ⟨h,rfl,H1,k1,o1⟩;have hb1:ah w1 w.heap.size [.int .i64 0, .int .i64 0] 26:=k1.ai (ah.newAt _ rfl rfl) (fun h=>h);have ka0:=(Kz w).alloc (.cells #[.int .i64 0, .int .i64 0] 26);have HK:=Hz (ka0.trans k1);have HA:=Hz H1;have HB:=Hz hb1;have HO:Hid (∀ k,h.Own k→w.heap.size+1≤k):=fun k hk=>by have:=o1 k hk;simpa using this
 clear H1 k1 o1 hb1 ka0;generalize hb0:w.heap.size=b0 at HB HO ⊢;have HSB:=Hz (Nat.le_of_eq hb0);have HB0:=Hz hb0.symm;clear hb0;go_upto_region 2 with (fail)
 have kb:=(Kz w1).alloc (.cells #[.int .i64 0, .int .i64 0] 26);have d0:(w1.alloc (.cells #[.int .i64 0, .int .i64 0] 26)).cell? ⟨w1.heap.size,0,none⟩=some (.int .i64 0):=(ah.new w1 [.int .i64 0, .int .i64 0] 26).cell 0;have dl:w1.heap.size<(w1.alloc (.cells #[.int .i64 0, .int .i64 0] 26)).heap.size:=by simp
 have HK2:=Hz (HK.out.trans kb);have HA2:=Hz (HA.out.ae kb (fun _ _ h=>h));have HB2:=Hz (kb.ai HB.out (fun h=>h));clear kb HK HA HB;generalize w1.alloc (.cells #[.int .i64 0, .int .i64 0] 26)=w2 at *;have f0:=HB2.out.free 0;have f1:=HB2.out.free 1;have c0:=HB2.out.cell 0;have c1:=HB2.out.cell 1;have cl:=HB2.out.lt;simp only [Lz,Ls] at c0 c1;go_wp2_with fail;have set:=((aa.refl (·=b0) w2).setCell (p:=⟨b0,0,none⟩) (.inl rfl) (.int .i64 0)).setCell (p:=⟨b0,1,none⟩) (.inl rfl) (.int .i64 0);have ka:=(Kz ((w2.setCell ⟨b0,0,none⟩ (.int .i64 0)).setCell ⟨b0,1,none⟩ (.int .i64 0))).alloc (.cells #[.pointer (some ⟨h.p,0,none⟩)] 185);have hbN:=((HB2.out.aF 0 (.int .i64 0)).aF 1 (.int .i64 0)).alloc (.cells #[.pointer (some ⟨h.p,0,none⟩)] 185);have x0':=hbN.cell 0;have x1':=hbN.cell 1;simp only [List.set_cons_zero,List.set_cons_succ,Lz,Ls] at x0' x1';refine bodyPost_ret (v:=.tuple #[.pointer (some ⟨w2.heap.size,0,none⟩), .agg #[.int .i64 0, .int .i64 0]]) (by simp [results,Try.results94,go_sem,x0',x1']) rfl ?_;refine ⟨⟨w2.heap.size,h⟩,rfl,⟨ah.newAt _ (by simp) rfl,(HA2.out.ae set (fun b hb e=>by have:=HO.out b hb;omega)).ae ka (fun _ _ h=>h)⟩,?_,fun k hk=>?_⟩
 ·refine (HK2.out.then set (fun k hk=>.inr ?_)).trans ka;rw [hk];exact HSB.out
 ·rcases hk with rfl | hk
  ·exact HK2.out.size
  ·have:=HO.out k hk;have:=HSB.out;have:=HB0.out;omega
theorem rE (n o:Int) (w:World) (h:Ar.fits n o=false) :
  Calls Try.prog 94 #[.int .i64 n, .int .i64 o] w fun e w'=>e=.returned (.tuple #[.pointer none, .agg #[.int .i64 1, .int .i64 (-1)]])∧aa (fun _=>False) w w':=by
 go_enter Try.func94,Try.ntmps94;go_wp2_with fail;refine (q7 n o _ h).mono ?_;rintro e w1 ⟨rfl,hk⟩;have ka0:=(Kz w).alloc (.cells #[.int .i64 0, .int .i64 0] 26);have hb1:ah w1 w.heap.size [.int .i64 0, .int .i64 0] 26:=hk.ai (ah.newAt _ rfl rfl) (fun h=>h);have HK:=Hz (ka0.trans hk);have HB:=Hz hb1;clear hk hb1 ka0;generalize hb0:w.heap.size=b0 at HB ⊢;have HSB:=Hz (Nat.le_of_eq hb0);clear hb0;go_upto_region 2 with (fail)
 have kb:=(Kz w1).alloc (.cells #[.int .i64 1, .int .i64 (-1)] 26);have hn:=ah.new w1 [.int .i64 1, .int .i64 (-1)] 26;have d0:(w1.alloc (.cells #[.int .i64 1, .int .i64 (-1)] 26)).cell? ⟨w1.heap.size,0,none⟩=some (.int .i64 1):=hn.cell 0;have d1:(w1.alloc (.cells #[.int .i64 1, .int .i64 (-1)] 26)).cell? ⟨w1.heap.size,1,none⟩=some (.int .i64 (-1)):=hn.cell 1;have dl:w1.heap.size<(w1.alloc (.cells #[.int .i64 1, .int .i64 (-1)] 26)).heap.size:=by simp
 have HK2:=Hz (HK.out.trans kb);have HB2:=Hz (kb.ai HB.out (fun h=>h));clear kb HK HB hn;generalize w1.alloc (.cells #[.int .i64 1, .int .i64 (-1)] 26)=w2 at *;have f0:=HB2.out.free 0;have f1:=HB2.out.free 1;have c0:=HB2.out.cell 0;have c1:=HB2.out.cell 1;have cl:=HB2.out.lt;simp only [Lz,Ls] at c0 c1;go_wp2_with fail;refine aq (.free 1 (.pure 0 (.run 2 (.swi [] (.fin))))) [2] (fun w'=>w'.cell? ⟨w1.heap.size,0,none⟩=some (.int .i64 1)∧w'.cell? ⟨w1.heap.size,1,none⟩=some (.int .i64 (-1))) (by kernel_rfl) (by kernel_rfl) ⟨d0,d1⟩ ?_
 iterate 2 ((first | refine ak rfl rfl fun K hK=>?_ | refine aj rfl rfl fun K hK=>?_ | refine aB rfl rfl fun K hK=>?_ | refine aw rfl rfl fun K hK=>?_ | refine aA rfl rfl fun K hK=>?_);go_simp;refine hK _ ?_;clear hK K)
 refine aK rfl rfl rfl (fun K hK=>?_);unfold aM;go_simp;refine hK _ _ ?_;clear hK K;refine aH (fun _=>True) trivial (aD ?_);go_wp2_with fail;have hbN:=(HB2.out.aF 0 (.int .i64 1)).aF 1 (.int .i64 (-1));have x0':=hbN.cell 0;have x1':=hbN.cell 1;simp only [List.set_cons_zero,List.set_cons_succ,Lz,Ls] at x0' x1';refine bodyPost_ret (v:=.tuple #[.pointer none, .agg #[.int .i64 1, .int .i64 (-1)]]) (by simp [results,Try.results94,go_sem,c0,c1,x0',x1']) rfl ⟨rfl,?_⟩;exact (HK2.out.drew.setCell (p:=⟨b0,0,none⟩) (.inr HSB.out) _).setCell (p:=⟨b0,1,none⟩) (.inr HSB.out) _
end
end
section
open Go.RowKit
def qp (w:World) (n o:Int) (e:Ending) (w':World):Prop:=
 ∃ h:bT,e=.returned (.tuple #[.pointer (some ⟨h.p,0,none⟩), .agg #[.int .i64 0, .int .i64 0]])∧aG w' h (Wd.new n o)∧aa (fun _=>False) w w'∧∀ k,h.Own k→w.heap.size≤k
theorem iV (n o:Int) (w:World) (h:Ar.fits n o=true) :
  Calls Try.prog 57 #[.int .i64 n, .int .i64 o] w fun e w'=>qp w n o e w':=by
 obtain ⟨i,hi,hz0,hz1,hz2⟩:=b7 eT;obtain ⟨A,hA⟩:∃ A:Array Value,A=(aC (List.replicate 12 (0,0))).toArray:=⟨_,rfl⟩;have hmk:∀ w,(Instr.makeSlice 69 (.int .i64 12) (.int .i64 12)).run Try.prog w=.ok (.slice (some ⟨w.heap.size,0,none⟩) 12 12) (w.alloc (.cells A 78)):=fun w=>by
  have:=run_make (P:=Try.prog) w 69 78 i _ Try.underlying69 hi hz0 .i64 .i64 12 12 (by decide) (by decide) (by rw [hz2];decide) (by decide);rw [this,hz1,hA,←si]
  rfl
 have HAA:=Hz hA;clear hA;have hno:16≤n∧n≤256∧0≤o∧o≤1024:=by simp [Ar.fits] at h;omega
 have HOK:=Hz (Wd.fY hno.1 hno.2.1 hno.2.2.1 hno.2.2.2);clear hi hz0 hz1 hz2 hno;go_enter Try.func57,Try.ntmps57;go_wp2_with fail;refine (qo n o _ h).mono ?_;rintro e w1 ⟨hh,rfl,-,k1,-⟩;have hb1:ah w1 w.heap.size [.int .i64 0, .int .i64 0] 26:=k1.ai (ah.newAt _ rfl rfl) (fun h=>h);have ka0:=(Kz w).alloc (.cells #[.int .i64 0, .int .i64 0] 26);have HK:=Hz (ka0.trans k1);have HB:=Hz hb1;clear k1 hb1 ka0;generalize hb0:w.heap.size=b0 at HB ⊢;have HSB:=Hz (Nat.le_of_eq hb0);have HB0:=Hz hb0.symm;clear hb0;go_upto_region 2 with (fail)
 have kb:=(Kz w1).alloc (.cells #[.int .i64 0, .int .i64 0] 26);have d0:(w1.alloc (.cells #[.int .i64 0, .int .i64 0] 26)).cell? ⟨w1.heap.size,0,none⟩=some (.int .i64 0):=(ah.new w1 [.int .i64 0, .int .i64 0] 26).cell 0;have dl:w1.heap.size<(w1.alloc (.cells #[.int .i64 0, .int .i64 0] 26)).heap.size:=by simp
 have HK2:=Hz (HK.out.trans kb);have HB2:=Hz (kb.ai HB.out (fun h=>h));clear kb HK HB;generalize w1.alloc (.cells #[.int .i64 0, .int .i64 0] 26)=w2 at *;have f0:=HB2.out.free 0;have f1:=HB2.out.free 1;have c0:=HB2.out.cell 0;have c1:=HB2.out.cell 1;have cl:=HB2.out.lt;simp only [Lz,Ls] at c0 c1;go_wp2_with fail;have kset:=((aa.refl (·=b0) w2).setCell (p:=⟨b0,0,none⟩) (.inl rfl) (.int .i64 0)).setCell (p:=⟨b0,1,none⟩) (.inl rfl) (.int .i64 0);have hbN:=(HB2.out.aF 0 (.int .i64 0)).aF 1 (.int .i64 0);have hs3:((w2.setCell ⟨b0,0,none⟩ (.int .i64 0)).setCell ⟨b0,1,none⟩ (.int .i64 0)).heap.size=w2.heap.size:=by simp
 generalize (w2.setCell ⟨b0,0,none⟩ (.int .i64 0)).setCell ⟨b0,1,none⟩ (.int .i64 0)=w3 at *;generalize hw4:w3.alloc (.cells A 78)=w4 at *;have k4:aa (fun _=>False) w3 w4:=by rw [←hw4];exact (aa.refl _ _).alloc _
 have b4:ah w4 w2.heap.size (aC (List.replicate 12 (0,0))) 78:=by rw [←hw4];exact ah.newAt _ hs3.symm (by rw [HAA.out])
 have hs4:w4.heap.size=w2.heap.size+1:=by rw [←hw4];simp [hs3]
 have hb4:=(k4.ai hbN (fun h=>h)).alloc (.cells #[.slice none 0 0, .slice (some ⟨w2.heap.size,0,none⟩) 12 12, .slice none 0 0, .slice none 0 0, .int .i64 0, .int .i64 0, .int .i64 n, .int .i64 o] 146);have x0':=hb4.cell 0;have x1':=hb4.cell 1;simp only [List.set_cons_zero,List.set_cons_succ,Lz,Ls] at x0' x1';refine bodyPost_ret (v:=.tuple #[.pointer (some ⟨w2.heap.size+1,0,none⟩), .agg #[.int .i64 0, .int .i64 0]]) (by simp [results,Try.results57,go_sem,x0',x1']) rfl ?_;have nl:∀ {b:Nat},ag (.slice none 0 0) b→False:=fun hb=>by simp [ag,Value.ownBlock] at hb
 have hsz:w.heap.size≤w2.heap.size:=HK2.out.size;refine ⟨⟨w2.heap.size+1, .slice none 0 0, .slice (some ⟨w2.heap.size,0,none⟩) 12 12, .slice none 0 0, .slice none 0 0,fun _=>.slice none 0 0⟩,rfl,⟨ah.newAt _ (by rw [hs4]) rfl,⟨[],Sl.nil _ _ _,fun i hi=>absurd hi (by simp [Wd.new])⟩,?_,Sl.nil _ _ _,Sl.nil _ _ _,fun k hk=>nl hk.1,fun i k hk=>(nl hk).elim,fun i j k hk=>(nl hk).elim,fun i k hk=>(nl hk).elim,HOK.out⟩,?_,?_⟩
 ·exact ⟨rfl, .inr ⟨w2.heap.size,0,12,aC (List.replicate 12 (0,0)),rfl,b4.alloc _,Nat.le_refl _,by decide,by decide,rfl⟩⟩
 ·exact ((HK2.out.then kset (fun k hk=>.inr (by rw [hk];exact HSB.out))).trans k4).alloc _
 ·intro k hk;rcases hk with rfl | hk | hk | hk | hk | ⟨_,hk⟩
  ·exact Nat.le_succ_of_le hsz
  ·exact (nl hk).elim
  ·simp [ag,Value.ownBlock] at hk;omega
  ·exact (nl hk).elim
  ·exact (nl hk).elim
  ·exact (nl hk).elim
theorem kX (n o:Int) (w:World) (h:Ar.fits n o=false) :
  Calls Try.prog 57 #[.int .i64 n, .int .i64 o] w fun e w'=>e=.returned (.tuple #[.pointer none, .agg #[.int .i64 1, .int .i64 (-1)]])∧aa (fun _=>False) w w':=by
 go_enter Try.func57,Try.ntmps57;go_wp2_with fail;refine (rE n o _ h).mono ?_;rintro e w1 ⟨rfl,hk⟩;have ka0:=(Kz w).alloc (.cells #[.int .i64 0, .int .i64 0] 26);have hb1:ah w1 w.heap.size [.int .i64 0, .int .i64 0] 26:=hk.ai (ah.newAt _ rfl rfl) (fun h=>h);have HK:=Hz (ka0.trans hk);have HB:=Hz hb1;clear hk hb1 ka0;generalize hb0:w.heap.size=b0 at HB ⊢;have HSB:=Hz (Nat.le_of_eq hb0);clear hb0;go_upto_region 2 with (fail)
 have kb:=(Kz w1).alloc (.cells #[.int .i64 1, .int .i64 (-1)] 26);have hn:=ah.new w1 [.int .i64 1, .int .i64 (-1)] 26;have d0:(w1.alloc (.cells #[.int .i64 1, .int .i64 (-1)] 26)).cell? ⟨w1.heap.size,0,none⟩=some (.int .i64 1):=hn.cell 0;have d1:(w1.alloc (.cells #[.int .i64 1, .int .i64 (-1)] 26)).cell? ⟨w1.heap.size,1,none⟩=some (.int .i64 (-1)):=hn.cell 1;have dl:w1.heap.size<(w1.alloc (.cells #[.int .i64 1, .int .i64 (-1)] 26)).heap.size:=by simp
 have HK2:=Hz (HK.out.trans kb);have HB2:=Hz (kb.ai HB.out (fun h=>h));clear kb HK HB hn;generalize w1.alloc (.cells #[.int .i64 1, .int .i64 (-1)] 26)=w2 at *;have f0:=HB2.out.free 0;have f1:=HB2.out.free 1;have c0:=HB2.out.cell 0;have c1:=HB2.out.cell 1;have cl:=HB2.out.lt;simp only [Lz,Ls] at c0 c1;go_wp2_with fail;refine aq (.free 1 (.pure 0 (.run 2 (.swi [] (.fin))))) [2] (fun w'=>w'.cell? ⟨w1.heap.size,0,none⟩=some (.int .i64 1)∧w'.cell? ⟨w1.heap.size,1,none⟩=some (.int .i64 (-1))) (by kernel_rfl) (by kernel_rfl) ⟨d0,d1⟩ ?_
 iterate 2 ((first | refine ak rfl rfl fun K hK=>?_ | refine aj rfl rfl fun K hK=>?_ | refine aB rfl rfl fun K hK=>?_ | refine aw rfl rfl fun K hK=>?_ | refine aA rfl rfl fun K hK=>?_);go_simp;refine hK _ ?_;clear hK K)
 refine aK rfl rfl rfl (fun K hK=>?_);unfold aM;go_simp;refine hK _ _ ?_;clear hK K;refine aH (fun _=>True) trivial (aD ?_);go_wp2_with fail;have hbN:=(HB2.out.aF 0 (.int .i64 1)).aF 1 (.int .i64 (-1));have x0':=hbN.cell 0;have x1':=hbN.cell 1;simp only [List.set_cons_zero,List.set_cons_succ,Lz,Ls] at x0' x1';refine bodyPost_ret (v:=.tuple #[.pointer none, .agg #[.int .i64 1, .int .i64 (-1)]]) (by simp [results,Try.results57,go_sem,c0,c1,x0',x1']) rfl ⟨rfl,?_⟩;exact (HK2.out.drew.setCell (p:=⟨b0,0,none⟩) (.inr HSB.out) _).setCell (p:=⟨b0,1,none⟩) (.inr HSB.out) _
theorem rF {w:World} {h:bT} {W:Wd} (H:aG w h W) :
  Calls Try.prog 61 #[.pointer (some ⟨h.p,0,none⟩)] w fun e w'=>e=.returned (.tuple #[.int .i64 W.aL, .int .i64 W.bq])∧aa (fun _=>False) w w':=by
 have HC:=Hz H.cells;have hl:=H.hp.lt;clear H;obtain ⟨-,-,-,-,c4,c5,-,-⟩:=HC.out;generalize h.p=p at *;go_enter Try.func61,Try.ntmps61;go_wp2_with fail;refine aq (.free 0 (.free 1 (.free 2 (.free 4 (.free 5 (.free 6 (.pure 3 (.free 8 (.pure 7 (.free 9 (.fin))))))))))) [] (fun w'=>w'.cell? ⟨p,4,none⟩=some (.int .i64 W.aL)∧w'.cell? ⟨p,5,none⟩=some (.int .i64 W.bq)) (by kernel_rfl) (by kernel_rfl) ⟨c4,c5⟩ ?_
 iterate 10 ((first | refine ak rfl rfl fun K hK=>?_ | refine aj rfl rfl fun K hK=>?_ | refine aB rfl rfl fun K hK=>?_ | refine aw rfl rfl fun K hK=>?_ | refine aA rfl rfl fun K hK=>?_);go_simp;refine hK _ ?_;clear hK K)
 refine aD ?_;go_wp2_with fail;exact bodyPost_ret (v:=.tuple #[.int .i64 W.aL, .int .i64 W.bq]) (by simp [results,Try.results61,go_sem]) rfl ⟨rfl,(aa.refl _ _).drew⟩
end
end Go.Proofs.Ytjifdalflepcoab
