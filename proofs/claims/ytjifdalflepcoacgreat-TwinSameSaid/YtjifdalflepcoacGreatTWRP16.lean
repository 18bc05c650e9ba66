/-
  Parts of the proof, merged: what the functions do, and plain laws.
-/
import Derived.Test.YtjifdalflepcoacGreatTWRP15
set_option maxHeartbeats 16000000
set_option maxRecDepth 100000
set_option linter.unusedVariables false
set_option linter.unusedSimpArgs false
namespace Go.Proofs.YtjifdalflepcoacGreat
section
open Go.RowKit
section
variable {w w':World} {h:dj} {W:Wd}
theorem aQ.Cx (H:aQ w h W) {r:Nat} {kd:Int} {l:List Vl} {tv fu:Value} {cs:List Value}
  (hp:aj w' h.p [tv,h.rv,h.gv,h.wv, .int .i64 (W.az+(1+(l.length:Int))), .int .i64 W.cm, .int .i64 W.most, .int .i64 W.grow] 191)
  (hR:∀ i,i<W.T.length→nA w (h.fv i) (W.T.getD i Th.none) cs[i*4]? cs[i*4+1]? cs[i*4+2]? cs[i*4+3]?) (hcl:cs.length=W.T.length*4)
  (hT:Sl w' 200 4 tv (W.T.length+1) (cs ++ [.int .i64 kd,fu, .bool false, .bool false]))
  (hr:Sl w' 96 2 h.rv W.roots.length (((aE W.roots).set (r*2) (.int .i64 3)).set (r*2+1) (.int .i64 W.T.length)))
  (hf:Sl w' 96 2 fu l.length (aE l)) (hfn:∀ b,ak fu b→w.heap.size≤b)
  (K:aa (fun b=>ak h.rv b∨ak h.tv b∨b=h.p) w w') (hto:∀ b,ak tv b→ak h.tv b∨w.heap.size≤b) (hok:(W.put r kd l).ok):aS w h w' (W.put r kd l):=by
 have nF:∀ i b,ak (h.fv i) b→¬ (ak h.rv b∨ak h.tv b∨b=h.p):=fun i b hb e=>by
  obtain ⟨_,⟨c,hc⟩,h3⟩:=H.af i b hb;rcases e with e | e | e
  ·exact h3 e
  ·obtain ⟨cs',hs',_⟩:=H.ht;obtain ⟨_,c',hc'⟩:=hs'.own e;exact hc.ne hc' (by decide) rfl
  ·exact hc.ne H.hp (by decide) e
 have nE:∀ {v:Value} {n:Nat} {xs:List Value},Sl w 101 2 v n xs→∀ b,ak v b→¬ (ak h.rv b∨ak h.tv b∨b=h.p):=fun hs b hb e=>by
  obtain ⟨_,c,hc⟩:=hs.own hb;rcases e with e | e | e
  ·obtain ⟨_,c',hc'⟩:=H.hr.own e;exact hc.ne hc' (by decide) rfl
  ·obtain ⟨cs',hs',_⟩:=H.ht;obtain ⟨_,c',hc'⟩:=hs'.own e;exact hc.ne hc' (by decide) rfl
  ·exact hc.ne H.hp (by decide) e
 have el:(W.put r kd l).T.length=W.T.length+1:=by simp [Wd.put]
 have er:(W.put r kd l).roots=W.roots.set r (3,(W.T.length:Int)):=by simp [Wd.put,gY]
 have erl:(W.put r kd l).roots.length=W.roots.length:=by rw [er];simp
 have aI:∀ i k,ak (h.fv i) k→i≠W.T.length∧k<w.heap.size:=fun i k hk=>⟨fun e=>by have:=(H.fl i k hk).2.1;omega,(H.af i k hk).1⟩;refine ⟨⟨h.p,tv,h.rv,h.gv,h.wv,fun j=>if j=W.T.length then fu else h.fv j⟩,⟨by rw [Wd.nT,Wd.s8];exact hp,⟨_,by rw [el];exact hT,fun i hi=>?_⟩,by rw [erl,er,g7];exact hr,H.hg.ab K (nE H.hg),H.hw.ab K (nE H.hw),H.ap,fun i b hb=>?_,fun i j k h1 h2=>?_,fun i k hk=>?_,hok⟩,rfl,K.mono (fun b _ e=>?_),fun b hb=>?_⟩
 ·show nA w' (if i=W.T.length then fu else h.fv i) _ _ _ _ _
  have e2:(W.put r kd l).T=W.T ++ [⟨kd,l,false,false⟩]:=rfl;rw [el] at hi;rw [e2];by_cases e:i=W.T.length
  ·subst e;rw [if_pos rfl];have g:∀ j,j<4→(cs ++ [.int .i64 kd,fu, .bool false, .bool false])[W.T.length*4+j]? = [Value.int .i64 kd,fu, .bool false, .bool false][j]? := fun j hj=>by
    rw [List.getElem?_append_right (by omega),hcl];congr 1;omega
   have g0:=g 0 (by decide);rw [Nat.add_zero] at g0;rw [g0,g 1 (by decide),g 2 (by decide),g 3 (by decide)];have et:(W.T ++ [(⟨kd,l,false,false⟩:Th)]).getD W.T.length Th.none=⟨kd,l,false,false⟩:=by
    rw [Ld,List.getElem?_append_right (Nat.le_refl _),Nat.sub_self];rfl
   rw [et];exact ⟨rfl,fun _=>rfl,fun _=>rfl,fun _=>rfl,fun _=>hf,kd,fu,false,rfl,rfl,rfl⟩
  ·rw [if_neg e];have hi':i<W.T.length:=by omega
   have et:(W.T ++ [(⟨kd,l,false,false⟩:Th)]).getD i Th.none=W.T.getD i Th.none:=by
    rw [Ld,List.getElem?_append_left hi',Ld]
   rw [et,List.getElem?_append_left (by omega),List.getElem?_append_left (by omega),List.getElem?_append_left (by omega),List.getElem?_append_left (by omega)];have hr':=hR i hi';exact ⟨hr'.d,hr'.k,hr'.f,hr'.o,fun hd=>(hr'.s hd).ab K (nF i),hr'.c⟩
 ·dsimp only at hb;split at hb
  ·obtain ⟨h1,c,h2⟩:=hf.own hb;exact ⟨h1,⟨c,h2⟩,fun e=>by have:=(H.hr.own e).1;have:=hfn b hb;omega⟩
  ·obtain ⟨h1,⟨c,h2⟩,h3⟩:=H.af i b hb;exact ⟨Nat.lt_of_lt_of_le h1 K.size,⟨c,K.aq h2 (nF i b hb)⟩,h3⟩
 ·dsimp only at h1 h2;split at h1
  ·rename_i e1;split at h2
   ·rename_i e2;omega
   ·have:=(aI j k h2).2;have:=hfn k h1;omega
  ·split at h2
   ·have:=(aI i k h1).2;have:=hfn k h2;omega
   ·exact H.fi i j k h1 h2
 ·dsimp only at hk;split at hk
  ·rename_i e;subst e;exact ⟨by omega,by rw [el];omega,by rw [Wd.eP]⟩
  ·exact Wd.jB (H.fl i k hk)
 ·rcases e with e | e | e
  ·exact .inr (.inr (.inl e))
  ·exact .inr (.inl e)
  ·exact .inl e
 ·rcases hb with hb | hb | hb | hb | hb | ⟨i,hb⟩
  ·exact .inl (.inl hb)
  ·exact (hto b hb).imp (fun h=>.inr (.inl h)) id
  ·exact .inl (.inr (.inr (.inl hb)))
  ·exact .inl (.inr (.inr (.inr (.inl hb))))
  ·exact .inl (.inr (.inr (.inr (.inr (.inl hb)))))
  ·dsimp only at hb;split at hb
   ·exact .inr (hfn b hb)
   ·exact .inl (.inr (.inr (.inr (.inr (.inr ⟨i,hb⟩)))))
theorem AF (n:Int) (H:aQ w h W) (hT:W.T.length≤100000) (h0:0≤n) (h1:n≤100) :
  Calls Tryz.prog 162 #[.pointer (some ⟨h.p,0,none⟩), .int .i64 n] w fun e w'=>e=.returned (.int .i64 (W.room n).1)∧aS w h w' (W.room n).2:=by
 have hok:=H.ok;have g1:=hok.g1;have g2:=hok.g2;have uo:=hok.uo;have uy:=hok.uy;have m1:=hok.m1;have m2:=hok.m2;have y0:0≤W.az:=iC _ _;have z0:0≤W.cm:=iC _ _;obtain ⟨-,-,-,-,p4,p5,p6,p7⟩:=H.cells;have pl:=H.hp.lt;have HH:=Hz H;have hw1:IntKind.i64.wrap (W.grow-W.cm)=W.grow-W.cm:=IntWalk.i64_in _ (by omega);have hw2:IntKind.i64.wrap (W.most-W.az)=W.most-W.az:=IntWalk.i64_in _ (by omega);clear H hok;go_enter Tryz.func162,Tryz.ntmps162;go_wp2_with fail;by_cases hn:n≤W.most-W.az
 ·have HE:=Hz (show W.room n=(0,W) by unfold Wd.room;rw [if_neg (by omega)]);refine a8 (.free 0 (.free 1 (.free 2 (.free 3 (.free 5 (.free 6 (.free 7 (.pure 4 (.pure 8 (.free 9 (.free 10 (.fin)))))))))))) [] (Fz p4 (Fa p6)) ?_
  iterate 11 refine Wz ?_
  refine av ?_;go_wp2_with fail;go_ret;rw [HE.out];exact ⟨rfl,aS.same HH.out (aa.refl _ _).drew⟩
 ·have HE:=Hz (show W.room n=W.cut (decide (W.az > W.grow-W.cm)) by unfold Wd.room;rw [if_pos (by omega)]);obtain ⟨mj,hmj⟩:∃ b,decide (W.az > W.grow-W.cm)=b:=⟨_,rfl⟩;rw [hmj] at HE;have hdm:decide (W.grow-W.cm<W.az)=mj:=by simpa using hmj
  clear hmj;have hn2:W.most-W.az<n:=by omega
  refine a8 (.free 0 (.free 1 (.free 2 (.free 3 (.free 5 (.free 6 (.free 7 (.pure 4 (.pure 8 (.free 9 (.free 10 (.fin)))))))))))) [] (Fz p4 (Fa p6)) ?_
  iterate 11 refine Wz ?_
  refine av ?_;go_wp2_with fail;refine a8 (.free 0 (.free 1 (.free 2 (.free 3 (.free 5 (.free 6 (.free 7 (.free 9 (.free 10 (.free 11 (.pure 4 (.pure 8 (.pure 12 (.free 13 (.free 14 (.run 15 (.swi [] (.free 16 (.fin))))))))))))))))))) [15,16] (Fz p4 (Fz p5 (Fa p7))) ?_
  iterate 15 refine Wz ?_
  refine aA rfl rfl rfl (fun K hK=>?_);unfold aw;go_simp;refine (ub mj (HH.out.same (((Kz w).drew).drew)) hT).mono ?_;rintro e w2 ⟨rfl,hto⟩;have TO:=Hz (aS.aK (((Kz w).drew).drew) hto);clear hto;refine hK _ _ ?_;clear hK K;refine aB (fun _=>True) trivial ?_;refine Wz ?_;refine av ?_;go_wp2_with fail;go_ret;rw [HE.out];exact ⟨rfl,TO.out⟩
end
end
section
open Go.RowKit
theorem uJ:(Tryz.prog.info? 200).map (fun i=>(i.zero,i.size,i.bytes))=some (some (.agg #[.int .i64 0, .slice none 0 0, .bool false, .bool false]),4,40):=by kernel_rfl
theorem Wd.xX {W:Wd} {n:Int} (h:(W.room n).1≠0):(W.room n).2=W:=by
 unfold Wd.room at h ⊢;split
 ·rename_i hc;rw [if_pos hc] at h;exact Wd.yC h
 ·rfl
section
variable {w:World} {h:dj} {W:Wd}
theorem my (r:Nat) (kd:Int) (l:List Nat) (ao:Option Addr) (cap:Nat) (H:aQ w h W) (hT:W.T.length≤90000) (hr:r<12) (hl:∀ k ∈ l,k<12) (hf:bm kd l.length=true)
  (hs:Sl w 3 1 (.slice ao l.length cap) l.length (jU l)) :
  Calls Tryz.prog 149 #[.pointer (some ⟨h.p,0,none⟩), .int .i64 r, .int .i64 kd, .slice ao l.length cap] w fun e w'=>e=.returned (.int .i64 (W.bU r kd (l.map fun (k:Nat)=>(k:Int))).1)∧aS w h w' (W.bU r kd (l.map fun (k:Nat)=>(k:Int))).2:=by
 have HH:=Hz H;have HF:=Hz hf;have hl12:=(bK hf).2.2.2;have HLL:=Hz hl;have HS:=Hz hs;have hok:=H.ok;have HOK:=Hz hok;have g1:=hok.g1;have g2:=hok.g2;have uo:=hok.uo;have uy:=hok.uy;have m1:=hok.m1;have m2:=hok.m2;have HN:=Hz (show ∀ c,(W.room (1+(l.length:Int))).1=c→c≠0→W.bU r kd (l.map fun (k:Nat)=>(k:Int))=(c,W) from fun c hc h0=>by
  unfold Wd.bU
  rw [List.length_map,if_neg (by rw [hc];exact h0),hc])
 have HY:=Hz (show (W.room (1+(l.length:Int))).1=0→W.bU r kd (l.map fun (k:Nat)=>(k:Int))=(0,(W.room (1+(l.length:Int))).2.put r kd ((l.map fun (k:Nat)=>(k:Int)).map (W.room (1+(l.length:Int))).2.rt)) from fun h0=>by
  unfold Wd.bU
  rw [List.length_map,if_pos h0])
 have HRM:=Hz (AF (1+(l.length:Int)) H (by omega) (by omega) (by omega));clear H hf hl hs hok;go_enter Tryz.func149,Tryz.ntmps149;go_wp2_with fail;refine HRM.out.mono ?_;rintro e w1 ⟨rfl,hto⟩;have TO:=Hz hto;clear hto HRM;by_cases h0:(W.room (1+(l.length:Int))).1=0
 case neg=>
  have HE:=Hz (HN.out _ rfl h0);have HC:=Hz (Wd.xX h0);have hd2:((W.room (1+(l.length:Int))).1 != 0)=true:=by simpa using h0
  clear h0;generalize (W.room (1+(l.length:Int))).1=cc at *;go_wp2_with fail;go_ret;exact ⟨by rw [HE.out];rfl,by rw [HE.out];have:=TO.out;rw [HC.out] at this;exact this⟩
 obtain ⟨h2,H2,ep,hk2,ho2⟩:=TO.out;have HE:=Hz (show W.bU r kd (l.map fun (k:Nat)=>(k:Int))=(0,(W.room (1+(l.length:Int))).2.put r kd (l.map fun (j:Nat)=>(W.room (1+(l.length:Int))).2.rt (j:Int))) by rw [HY.out h0,List.map_map];rfl);have HRO:=Hz (Wd.ok.room HOK.out (1+l.length) (by omega));have hrm:=HRO.out.2 h0;have hTl:(W.room (1+(l.length:Int))).2.T.length≤90000:=by rw [Wd.tu];exact hT
 have HPK:=Hz (HRO.out.1.put (r:=r) (k:=kd) (l:=l.map fun (j:Nat)=>(W.room (1+(l.length:Int))).2.rt (j:Int)) (by rw [List.length_map];exact HF.out) (fun v hv=>by
  obtain ⟨j,hj,rfl⟩:=List.mem_map.1 hv
  exact Wd.jl H2.ok (j:Int)) (by rw [List.length_map];exact hrm))
 have S2:=Hz (HS.out.ab hk2 (fun b hb e=>by
  obtain ⟨_,c,hc⟩:=HS.out.own hb;obtain ⟨_,c',T,hc',hT⟩:=HH.out.bB e;refine hc.ne hc' ?_ rfl
  rcases hT with rfl | rfl | rfl | rfl <;> decide))
 have K2:=Hz hk2;have O2:=Hz ho2;have H2:=Hz H2;rw [h0];rw [←ep];have EP:=Hz ep;clear hk2 ho2 h0 HN HY HRO TO ep hrm;generalize (W.room (1+(l.length:Int))).2=W2 at *;obtain ⟨iv,hi,hz0,hz1,hz2⟩:=eh jA;have Vi:=Hz hi;have Vz0:=Hz hz0;have Vz1:=Hz hz1;have Vz2:=Hz hz2;clear hi hz0 hz1 hz2;obtain ⟨it,hi,hz0,hz1,hz2⟩:=eh uJ;have Ti:=Hz hi;have Tz0:=Hz hz0;have Tz1:=Hz hz1;have Tz2:=Hz hz2;clear hi hz0 hz1 hz2;go_wp2_with fail;generalize hwb:w1.alloc (.cells #[.int .i64 kd, .slice none 0 0, .bool false, .bool false] 200)=wb;have KB:=Hz (show aa (fun _=>False) w1 wb by rw [←hwb];exact (aa.refl _ _).alloc _);have TB:=Hz (show aj wb w1.heap.size [.int .i64 kd, .slice none 0 0, .bool false, .bool false] 200 by rw [←hwb];exact aj.newAt _ rfl rfl);have HB:=Hz (H2.out.same KB.out);have SB:=Hz (S2.out.ab KB.out (fun _ _ h=>h));have OB:=Hz (fun b hb=>(H2.out.bB (k:=b) hb).1);have SO:=Hz (fun b hb=>(S2.out.own (k:=b) hb).1);have ZB:=Hz (show wb.heap.size=w1.heap.size+1 by rw [←hwb];simp);have ZK:=Hz K2.out.size;clear hwb;obtain ⟨tb,htb⟩:∃ n,w1.heap.size=n:=⟨_,rfl⟩;rw [htb] at TB OB SO ZB;rw [htb];have HTB:=Hz htb;clear htb;go_loopw [25] (fun u wr=>∃ (k:Nat) (fo:Option Addr) (fc:Nat),k≤l.length∧u=.int .i64 k∧aa (·=tb) wb wr∧aj wr tb [.int .i64 kd, .slice fo k fc, .bool false, .bool false] 200∧Sl wr 96 2 (.slice fo k fc) k (aE ((l.take k).map fun (j:Nat)=>W2.rt (j:Int)))∧∀ b,ak (.slice fo k fc) b→tb+1≤b) (fun u _=>l.length-(intOf u).toNat)
 case atStart=>exact ⟨0,none,0,Nat.zero_le _,rfl,aa.refl _ _,TB.out,Sl.nil _ _ _,fun b hb=>(ck hb).elim⟩
 case round=>
  obtain ⟨k,fo,fc,hk,rfl,hK,hB,hS,hO⟩:=hrel;have KR:=Hz hK;have BR:=Hz hB;have FS:=Hz hS;have FO:=Hz hO;have HR:=Hz (HB.out.ab hK (fun b hb e=>by have:=OB.out b hb;omega));have SR:=Hz (SB.out.ab hK (fun b hb e=>by have:=SO.out b hb;omega));have b1:=hB.cell 1;have bl:=hB.lt;have bf:=hB.free 1;simp only [Lz,aC] at b1;clear hK hB hS hO;by_cases hlt:k<l.length
  ·obtain ⟨_,_,e',rdl,-,-⟩:=SR.out.rd;cases e';obtain ⟨gl,ol,rfl,hgl,l0⟩:=rdl.Ci k hlt;have hm:=HLL.out (l.getD k 0) (by rw [Ld,Le hlt];exact List.getElem_mem _);have htk:((l.take (k+1)).map fun (j:Nat)=>W2.rt (j:Int))=((l.take k).map fun (j:Nat)=>W2.rt (j:Int)) ++ [W2.rt ((l.getD k 0:Nat):Int)]:=by
    rw [List.take_add_one,Le hlt,List.map_append,Ld,Le hlt];rfl
   generalize l.getD k 0=m at *;obtain ⟨g,o,rc,erv,hg,r0,r1⟩:=HR.out.root hm;have hrl:W2.roots.length=12:=HR.out.ok.hr;obtain ⟨-,c1,-⟩:=HR.out.cells;have pl:=HR.out.hp.lt;rw [erv,hrl] at c1;have HTK:=Hz htk;have hmi:(m:Int)<12:=by omega
   generalize W2.rt (m:Int)=v at *;obtain ⟨v1,v2⟩:=v;dsimp only at r0 r1;obtain ⟨L,hL⟩:∃ L,((l.take k).map fun (j:Nat)=>W2.rt (j:Int))=L:=⟨_,rfl⟩;rw [hL] at FS;have HT2:=Hz (show ((l.take (k+1)).map fun (j:Nat)=>W2.rt (j:Int))=L ++ [(v1,v2)] by rw [HTK.out,hL]);clear rdl htk HTK hL erv hrl;go_wp2_with fail;refine a8 (.free 0 (.free 2 (.free 3 (.free 4 (.free 6 (.pure 1 (.pure 5 (.free 7 (.pure 8 (.run 9 (.run 10 (.swi [12] (.free 11 (.run 12 (.swi [] (.fin)))))))))))))))) [10,11,12] (Fz b1 (Fz c1 (Fz r0 (Fa r1)))) ?_
   iterate 9 refine Wz ?_
   refine aM rfl rfl (fun K hK=>?_);unfold aw;go_simp;have hka:aa (fun _=>False) wr ((wr.alloc (.cells #[.int .i64 v1, .int .i64 v2] 96)).drew):=((Kz wr).alloc (.cells #[.int .i64 v1, .int .i64 v2] 96)).drew;have hcc:∀ (a:Nat) (q:Nat),a<wr.heap.size→((wr.alloc (.cells #[.int .i64 v1, .int .i64 v2] 96)).drew).cell? ⟨a,q,none⟩=wr.cell? ⟨a,q,none⟩:=fun a q ha=>World.cell?_of_block (w:=wr) (a:=⟨a,q,none⟩) (hka.block a ha (fun h=>h));refine hK _ _ (fun hg'=>⟨(hcc _ _ bl).trans b1,(hcc _ _ pl).trans c1,(hcc _ _ hg).trans r0,(hcc _ _ hg).trans r1⟩) ?_;clear hK K hcc;refine aA rfl rfl rfl (fun K hK=>?_);refine dF (.tmp 30) (.tmp 38) 38 rfl 96 iv (.agg #[.int .i64 0, .int .i64 0]) 2 16 Tryz.underlying38 Vi.out Vz0.out Vz1.out Vz2.out rfl (by decide) _ k (aE L) rfl (FS.out.ab hka (fun _ _ h=>h)) ⟨wr.heap.size,0,none⟩ 1 1 [.int .i64 v1, .int .i64 v2] rfl rfl (bX wr 96 #[.int .i64 v1, .int .i64 v2]) (by intro u hu;simp at hu;rcases hu with rfl | rfl <;> rfl) (by unfold maxLen;omega) (by omega) ?_;intro v2' w2 hs2 hk2 ho2;refine hK _ _ ?_;clear hK K;obtain ⟨ao2,ac2,rfl,-,-,-⟩:=hs2.rd;have hno:∀ b,ak (.slice fo k fc) b→b≠tb:=fun b hb e=>by have:=FO.out b hb;omega
   have bH:=hk2.aq (hka.aq BR.out (fun h=>h)) (fun hb=>hno _ hb rfl);have KN:aa (·=tb) wb w2:=(KR.out.trans (hka.mono (fun _ _ h=>h.elim))).then hk2 (fun j hj=>.inr (by have:=FO.out j hj;rw [ZB.out];exact this));have hoN:∀ b,ak (.slice ao2 (k+1) ac2) b→tb+1≤b:=fun b hb=>by
    rcases ho2 b hb with h1 | h1
    ·exact FO.out b h1
    ·have:=BR.out.lt;first | omega | (simp at h1;omega)
   have x1:=bH.cell 1;have xl:=bH.lt;have xf:=bH.free 1;simp only [Lz,aC] at x1;have KN2:=Hz (KN.setCell (p:=⟨tb,1,none⟩) (.inl rfl) (.slice ao2 (k+1) ac2));have BN:=Hz (show aj (w2.setCell ⟨tb,1,none⟩ (.slice ao2 (k+1) ac2)) tb [.int .i64 kd, .slice ao2 (k+1) ac2, .bool false, .bool false] 200 by simpa using bH.aG 1 (.slice ao2 (k+1) ac2));have SN:=Hz (show Sl (w2.setCell ⟨tb,1,none⟩ (.slice ao2 (k+1) ac2)) 96 2 (.slice ao2 (k+1) ac2) (k+1) (aE (L ++ [(v1,v2)])) by
    have e2:aE (L ++ [(v1,v2)])=aE L ++ [.int .i64 v1, .int .i64 v2]:=by simp [aE]
    rw [e2]
    exact hs2.ab ((aa.refl (·=tb) w2).setCell (p:=⟨tb,1,none⟩) (.inl rfl) (.slice ao2 (k+1) ac2)) (fun b hb e=>by have:=hoN b hb;omega))
   have ON:=Hz hoN;clear hs2 hk2 ho2 hka hno bH KN hoN b1 c1 l0 r0 r1 bl pl bf;refine aB (fun _=>True) trivial ?_;refine Wz ?_;refine aA rfl rfl rfl (fun K hK=>?_);unfold aw;go_simp;refine hK _ _ ?_;clear hK K;refine aB (fun _=>True) trivial (av ?_);clear x1 xl xf;go_wp2_with fail;go_roundw
   case rel=>exact ⟨k+1,ao2,ac2,hlt,by go_num,KN2.out,BN.out,by rw [HT2.out];exact SN.out,ON.out⟩
   case measure=>simp [intOf];omega
  ·obtain rfl:k=l.length:=by omega
   rw [List.take_length] at FS;have HLN:=Hz (show (l.map fun (j:Nat)=>W2.rt (j:Int)).length=l.length from List.length_map _);obtain ⟨g,o,rc,erv,hg,-,-⟩:=HR.out.root hr;have hrl:W2.roots.length=12:=HR.out.ok.hr;obtain ⟨no,nc,eth⟩:=HR.out.tv;obtain ⟨c0,c1,-⟩:=HR.out.cells;have pl:=HR.out.hp.lt;have hrs:=HR.out.hr;rw [erv,hrl] at c1 hrs;rw [eth] at c0;have RS:=Hz hrs;have ERV:=Hz erv;have HRL:=Hz hrl;have ETH:=Hz eth;clear erv hrl eth hrs;go_wp2_with fail;have h12:(r:Int)<12:=by omega
   have h12':¬ (12:Int)≤(r:Int):=by omega
   have h12n:¬ (12:Nat)≤r:=by omega
   refine a8 (.free 0 (.free 1 (.free 2 (.free 4 (.free 5 (.free 6 (.free 7 (.pure 3 (.pure 8 (.free 9 (.free 10 (.free 11 (.run 12 (.swi [] (.fin))))))))))))))) [12] (Fz c0 (Fa c1)) ?_
   iterate 12 refine Wz ?_
   refine aA rfl rfl rfl (fun K hK=>?_);refine cq 96 (.tmp 53) (.tmp 52) rfl rfl g o 12 rc r (aE W2.roots) 96 (.int .i64 3) (.int .i64 W2.T.length) rfl rfl (RS.out.ab (Kz wr).drew (fun _ _ h=>h)) hr (by kernel_rfl) rfl rfl ?_;intro w3 hs3 hk3 hz3;refine hK _ _ ?_;clear hK K;refine aB (fun _=>True) trivial (av ?_);have hkw:aa (·=g) wr w3:=((Kz wr).drew.mono (fun _ _ h=>h.elim)).trans hk3;have KW:=Hz hkw;obtain ⟨_,cg,hcg⟩:=RS.out.own (k:=g) rfl;have ne:∀ {b:Nat} {c:List Value} {T:TypeId},aj wr b c T→T≠96→¬ b=g:=fun hb hT e=>hb.ne hcg hT e;have HP3:=hkw.aq HR.out.hp (ne HR.out.hp (by decide));have BR3:=hkw.aq BR.out (ne BR.out (by decide));obtain ⟨cs,hsT1,hRT⟩:=H2.out.ht;have hsT:=(hsT1.ab KB.out (fun _ _ h=>h)).ab KR.out (fun b hb e=>by have:=OB.out b (.inr (.inl hb));omega);have hsT3:=hsT.ab hkw (fun b hb=>by obtain ⟨_,c,hc⟩:=hsT.own hb;exact ne hc (by decide));have hgo:ak h2.rv g:=by rw [ERV.out];rfl
   have hgt:=OB.out g (.inr (.inr (.inl hgo)));have FS3:=FS.out.ab hkw (fun b hb e=>by have:=FO.out b hb;omega);rw [ETH.out] at hsT3;have c0:=HP3.cell 0;have pl:=HP3.lt;have t0:=BR3.cell 0;have t1:=BR3.cell 1;have t2:=BR3.cell 2;have t3:=BR3.cell 3;have bl:=BR3.lt;simp only [Lz,aC] at c0 t0 t1 t2 t3;rw [ETH.out] at c0;have RS3:=Hz hs3;have HP3:=Hz HP3;have BR3:=Hz BR3;have TS3:=Hz hsT3;have RT:=Hz hRT;have FS3:=Hz FS3;have TS:=Hz hsT;have GO:=Hz hgo;have HGT:=Hz hgt;clear hkw hcg ne hsT hsT3 hRT hs3 hk3 hz3 b1 bf c1 hg h12 h12' h12n hgo hgt;go_wp2_with fail;refine a8 (.free 0 (.free 1 (.free 2 (.free 3 (.pure 4 (.pure 5 (.run 6 (.run 7 (.swi [10] (.free 8 (.free 9 (.run 10 (.swi [] (.fin)))))))))))))) [7,8,9,10] (Fz c0 (Fz t0 (Fz t1 (Fz t2 (Fa t3))))) ?_
   iterate 6 ((first | refine ku rfl rfl fun K hK=>?_ | refine ks rfl rfl fun K hK=>?_ | refine jV rfl rfl _ (fun w' hG=>by obtain ⟨c0,t0,t1,t2,t3⟩:=hG;exact nL (cs:=[_,_,_,_]) rfl (by decide +kernel) rfl (ae (by assumption) (ae (by assumption) (ae (by assumption) (ae (by assumption) a7))))) (fun K hK=>?_) | refine lE rfl rfl fun K hK=>?_ | refine kv rfl rfl fun K hK=>?_ | refine lD rfl rfl fun K hK=>?_);go_simp;refine hK _ ?_;clear hK K)
   refine aM rfl rfl (fun K hK=>?_);unfold aw;go_simp;have hka:aa (fun _=>False) w3 ((w3.alloc (.cells #[.int .i64 kd, .slice fo l.length fc, .bool false, .bool false] 200)).drew):=((Kz w3).alloc (.cells #[.int .i64 kd, .slice fo l.length fc, .bool false, .bool false] 200)).drew;refine hK _ _ (fun hg=>⟨(hka.aq HP3.out (fun h=>h)).cell 0 |>.trans (by simp [ETH.out]),(hka.aq BR3.out (fun h=>h)).cell 0,(hka.aq BR3.out (fun h=>h)).cell 1,(hka.aq BR3.out (fun h=>h)).cell 2,(hka.aq BR3.out (fun h=>h)).cell 3⟩) ?_;clear hK K;refine aA rfl rfl rfl (fun K hK=>?_);refine dF (.tmp 58) (.tmp 60) 189 rfl 200 it (.agg #[.int .i64 0, .slice none 0 0, .bool false, .bool false]) 4 40 Tryz.underlying189 Ti.out Tz0.out Tz1.out Tz2.out rfl (by decide) _ W2.T.length cs rfl (TS3.out.ab hka (fun _ _ h=>h)) ⟨w3.heap.size,0,none⟩ 1 1 [.int .i64 kd, .slice fo l.length fc, .bool false, .bool false] rfl rfl (bX w3 200 #[.int .i64 kd, .slice fo l.length fc, .bool false, .bool false]) (by intro u hu;simp at hu;rcases hu with rfl | rfl | rfl <;> rfl) (by unfold maxLen;omega) (by omega) ?_;intro v4 w4 hs4 hk4 ho4;refine hK _ _ ?_;clear hK K;obtain ⟨vo4,vc4,rfl,-,-,-⟩:=hs4.rd;have nTV:∀ {b:Nat} {c:List Value} {T:TypeId},aj w3 b c T→T≠200→¬ ak (.slice no W2.T.length nc) b:=fun hb hT e=>by
    obtain ⟨_,c',hc'⟩:=TS3.out.own e;exact hb.ne hc' hT rfl
   have HP4:=Hz (hk4.aq (hka.aq HP3.out (fun h=>h)) (nTV HP3.out (by decide)));have RS4:=Hz ((RS3.out.ab hka (fun _ _ h=>h)).ab hk4 (fun b hb e=>by obtain ⟨_,c,hc⟩:=RS3.out.own hb;exact nTV hc (by decide) e));have FS4:=Hz ((FS3.out.ab hka (fun _ _ h=>h)).ab hk4 (fun b hb e=>by obtain ⟨_,c,hc⟩:=FS3.out.own hb;exact nTV hc (by decide) e));have BR4:=Hz (hk4.aq (hka.aq BR3.out (fun h=>h)) (fun e=>by
    have:=OB.out tb (.inr (.inl (by rw [ETH.out];exact e)));omega))
   have TS4:=Hz hs4;have K13:=Hz (show aa (fun b=>ak h2.rv b∨ak h2.tv b∨b=h2.p) w1 w3 from ((KB.out.mono (fun _ _ h=>h.elim)).then KR.out (fun b hb=>.inr (by rw [HTB.out,hb];exact Nat.le_refl _))).then KW.out (fun b hb=>.inl (.inl (hb ▸ GO.out))));have K14:=Hz ((K13.out.then hka (fun _ h=>h.elim)).then hk4 (fun b hb=>.inl (.inr (.inl (by rw [ETH.out];exact hb)))));have O4:=Hz (show ∀ b,ak (.slice vo4 (W2.T.length+1) vc4) b→ak h2.tv b∨w1.heap.size≤b from fun b hb=>by
    rcases ho4 b hb with h1 | h1
    ·exact .inl (by rw [ETH.out];exact h1)
    ·have:=K13.out.size;exact .inr (by first | omega | (simp at h1;omega)))
   have x0:=HP4.out.cell 0;have xl:=HP4.out.lt;have xf:=HP4.out.free 0;simp only [Lz] at x0;clear hs4 hk4 ho4 hka c0 t0 t1 t2 t3 bl pl nTV;refine aB (fun _=>True) trivial ?_
   iterate 2 refine Wz ?_
   refine aA rfl rfl rfl (fun K hK=>?_);unfold aw;go_simp;refine hK _ _ ?_;clear hK K;refine aB (fun _=>True) trivial (av ?_);have hset:=(aa.refl (·=h2.p) w4).setCell (p:=⟨h2.p,0,none⟩) (.inl rfl) (.slice vo4 (W2.T.length+1) vc4);have hnp:∀ {b:Nat} {c:List Value} {T:TypeId},aj w4 b c T→T≠191→¬ b=h2.p:=fun hb hT=>hb.ne HP4.out hT;have kd0:=Kz (w4.setCell ⟨h2.p,0,none⟩ (.slice vo4 (W2.T.length+1) vc4));have HP5:=Hz (show aj (w4.setCell ⟨h2.p,0,none⟩ (.slice vo4 (W2.T.length+1) vc4)) h2.p _ _ from HP4.out.aG 0 (.slice vo4 (W2.T.length+1) vc4));have RS5:=Hz (RS4.out.ab hset (fun b hb e=>by obtain ⟨_,c,hc⟩:=RS4.out.own hb;exact hnp hc (by decide) e));have FS5:=Hz (FS4.out.ab hset (fun b hb e=>by obtain ⟨_,c,hc⟩:=FS4.out.own hb;exact hnp hc (by decide) e));have TS5:=Hz (TS4.out.ab hset (fun b hb e=>by obtain ⟨_,c,hc⟩:=TS4.out.own hb;exact hnp hc (by decide) e));have BR5:=Hz (hset.aq BR4.out (fun e=>hnp BR4.out (by decide) e));have K15:=Hz (K14.out.then hset (fun b hb=>.inl (.inr (.inr hb))));clear x0 xl xf hset hnp kd0 HP4 RS4 FS4 TS4 BR4 K14 HP3 RS3 FS3 TS3 BR3 RS SR;go_wp2_with fail;generalize w4.setCell ⟨h2.p,0,none⟩ (.slice vo4 (W2.T.length+1) vc4)=w5 at *;have p4:=HP5.out.cell 4;have pl:=HP5.out.lt;have f4:=HP5.out.free 4;have t1:=BR5.out.cell 1;have bl:=BR5.out.lt;simp only [List.set_cons_zero,Lz,aC] at p4 t1;have hy2:=HPK.out.uy;have hm2:=HPK.out.m2;rw [Wd.nT] at hy2;have hy0:0≤W2.az:=iC _ _;have hmo:(W2.put r kd (l.map fun (j:Nat)=>W2.rt (j:Int))).most≤256:=hm2;have hyl:W2.az≤256:=by omega
   have hwr:IntKind.i64.wrap (W2.az+(1+(l.length:Int)))=W2.az+(1+l.length):=IntWalk.i64_in _ (by omega);clear hy2 hm2 hmo;refine a8 (.free 0 (.free 1 (.free 2 (.pure 3 (.run 4 (.free 5 (.free 6 (.free 7 (.run 8 (.swi [] (.fin))))))))))) [8] (Fa p4) ?_
   iterate 4 refine Wz ?_
   refine aM rfl rfl (fun K hK=>?_);unfold aw;go_simp;refine (ua (g:=tb) (o:=0) (n:=l.length) (fo:=fo) (fc:=fc) (w:=w5.drew) bl t1 (by omega)).mono ?_;rintro e w6 ⟨rfl,rfl⟩;refine hK _ _ (fun h=>h) ?_;clear hK K
   iterate 3 refine Wz ?_
   refine aA rfl rfl rfl (fun K hK=>?_);unfold aw;go_simp;refine hK _ _ ?_;clear hK K;refine aB (fun _=>True) trivial (av ?_);go_wp2_with fail;go_ret;refine ⟨by rw [HE.out];rfl,?_⟩;rw [HE.out];have hset:=((aa.refl (·=h2.p) w5).setCell (p:=⟨h2.p,4,none⟩) (.inl rfl) (.int .i64 (W2.az+(1+(l.length:Int))))).drew;have hnp:∀ {b:Nat} {c:List Value} {T:TypeId},aj w5 b c T→T≠191→¬ b=h2.p:=fun hb hT=>hb.ne HP5.out hT;have hlen:=HLN.out;have hput:=H2.out.Cx (w':=(w5.setCell ⟨h2.p,4,none⟩ (.int .i64 (W2.az+(1+(l.length:Int))))).drew) (r:=r) (kd:=kd) (l:=(l.map fun (j:Nat)=>W2.rt (j:Int))) (tv:=.slice vo4 (W2.T.length+1) vc4) (fu:=.slice fo l.length fc) (cs:=cs)
    (by rw [hlen];simpa using (HP5.out.aG 4 (.int .i64 (W2.az+(1+(l.length:Int))))).drew) RT.out TS.out.1 (TS5.out.ab hset (fun b hb e=>by obtain ⟨_,c,hc⟩:=TS5.out.own hb;exact hnp hc (by decide) e))
    (by rw [ERV.out,HRL.out];exact RS5.out.ab hset (fun b hb e=>by obtain ⟨_,c,hc⟩:=RS5.out.own hb;exact hnp hc (by decide) e)) (by rw [hlen];exact FS5.out.ab hset (fun b hb e=>by obtain ⟨_,c,hc⟩:=FS5.out.own hb;exact hnp hc (by decide) e))
    (fun b hb=>by have:=FO.out b hb;rw [HTB.out];omega) (K15.out.then hset (fun b hb=>.inl (.inr (.inr hb)))) O4.out HPK.out
   exact aS.step EP.out K2.out O2.out hput
end
end
section
open Go.RowKit
def za (w:World) (n o:Int) (e:Ending) (w':World):Prop:=
 ∃ h:dj,e=.returned (.tuple #[.pointer (some ⟨h.p,0,none⟩), .agg #[.int .i64 0, .int .i64 0]])∧aQ w' h (Wd.new n o)∧aa (fun _=>False) w w'∧∀ k,h.Own k→w.heap.size≤k
theorem zb (n o:Int) (w:World) (h:Ar.fits n o=true) :
  Calls Tryz.prog 105 #[.int .i64 n, .int .i64 o] w fun e w'=>za w n o e w':=by
 obtain ⟨i,hi,hz0,hz1,hz2⟩:=eh jA;obtain ⟨A,hA⟩:∃ A:Array Value,A=(aE (List.replicate 12 (0,0))).toArray:=⟨_,rfl⟩;have hmk:∀ w,(Instr.makeSlice 38 (.int .i64 12) (.int .i64 12)).run Tryz.prog w=.ok (.slice (some ⟨w.heap.size,0,none⟩) 12 12) (w.alloc (.cells A 96)):=fun w=>by
  have:=run_make (P:=Tryz.prog) w 38 96 i _ Tryz.underlying38 hi hz0 .i64 .i64 12 12 (by decide) (by decide) (by rw [hz2];decide) (by decide);rw [this,hz1,hA,←A7]
  rfl
 have HAA:=Hz hA;clear hA;have hno:16≤n∧n≤256∧0≤o∧o≤1024:=by simp [Ar.fits] at h;omega
 have HOK:=Hz (Wd.jX hno.1 hno.2.1 hno.2.2.1 hno.2.2.2);clear hi hz0 hz1 hz2 hno;go_enter Tryz.func105,Tryz.ntmps105;go_wp2_with fail;refine (tH n o _ h).mono ?_;rintro e w1 ⟨hh,rfl,-,k1,-⟩;have ax:aj w1 w.heap.size [.int .i64 0, .int .i64 0] 28:=k1.aq (aj.newAt _ rfl rfl) (fun h=>h);have ka0:=(Kz w).alloc (.cells #[.int .i64 0, .int .i64 0] 28);have HK:=Hz (ka0.trans k1);have HB:=Hz ax;clear k1 ax ka0;generalize hb0:w.heap.size=b0 at HB ⊢;have HSB:=Hz (Nat.le_of_eq hb0);have HB0:=Hz hb0.symm;clear hb0;go_upto_region 2 with (fail)
 have kb:=(Kz w1).alloc (.cells #[.int .i64 0, .int .i64 0] 28);have d0:(w1.alloc (.cells #[.int .i64 0, .int .i64 0] 28)).cell? ⟨w1.heap.size,0,none⟩=some (.int .i64 0):=(aj.new w1 [.int .i64 0, .int .i64 0] 28).cell 0;have dl:w1.heap.size<(w1.alloc (.cells #[.int .i64 0, .int .i64 0] 28)).heap.size:=by simp
 have HK2:=Hz (HK.out.trans kb);have HB2:=Hz (kb.aq HB.out (fun h=>h));clear kb HK HB;generalize w1.alloc (.cells #[.int .i64 0, .int .i64 0] 28)=w2 at *;have f0:=HB2.out.free 0;have f1:=HB2.out.free 1;have c0:=HB2.out.cell 0;have c1:=HB2.out.cell 1;have cl:=HB2.out.lt;simp only [Lz,aC] at c0 c1;go_wp2_with fail;have kset:=((aa.refl (·=b0) w2).setCell (p:=⟨b0,0,none⟩) (.inl rfl) (.int .i64 0)).setCell (p:=⟨b0,1,none⟩) (.inl rfl) (.int .i64 0);have hbN:=(HB2.out.aG 0 (.int .i64 0)).aG 1 (.int .i64 0);have hs3:((w2.setCell ⟨b0,0,none⟩ (.int .i64 0)).setCell ⟨b0,1,none⟩ (.int .i64 0)).heap.size=w2.heap.size:=by simp
 generalize (w2.setCell ⟨b0,0,none⟩ (.int .i64 0)).setCell ⟨b0,1,none⟩ (.int .i64 0)=w3 at *;generalize hw4:w3.alloc (.cells A 96)=w4 at *;have k4:aa (fun _=>False) w3 w4:=by rw [←hw4];exact (aa.refl _ _).alloc _
 have b4:aj w4 w2.heap.size (aE (List.replicate 12 (0,0))) 96:=by rw [←hw4];exact aj.newAt _ hs3.symm (by rw [HAA.out])
 have hs4:w4.heap.size=w2.heap.size+1:=by rw [←hw4];simp [hs3]
 have hb4:=(k4.aq hbN (fun h=>h)).alloc (.cells #[.slice none 0 0, .slice (some ⟨w2.heap.size,0,none⟩) 12 12, .slice none 0 0, .slice none 0 0, .int .i64 0, .int .i64 0, .int .i64 n, .int .i64 o] 191);have x0':=hb4.cell 0;have x1':=hb4.cell 1;simp only [List.set_cons_zero,List.set_cons_succ,Lz,aC] at x0' x1';refine bodyPost_ret (v:=.tuple #[.pointer (some ⟨w2.heap.size+1,0,none⟩), .agg #[.int .i64 0, .int .i64 0]]) (by simp [results,Tryz.results105,go_sem,x0',x1']) rfl ?_;have nl:∀ {b:Nat},ak (.slice none 0 0) b→False:=fun hb=>by simp [ak,Value.ownBlock] at hb
 have hsz:w.heap.size≤w2.heap.size:=HK2.out.size;refine ⟨⟨w2.heap.size+1, .slice none 0 0, .slice (some ⟨w2.heap.size,0,none⟩) 12 12, .slice none 0 0, .slice none 0 0,fun _=>.slice none 0 0⟩,rfl,⟨aj.newAt _ (by rw [hs4]) rfl,⟨[],Sl.nil _ _ _,fun i hi=>absurd hi (by simp [Wd.new])⟩,?_,Sl.nil _ _ _,Sl.nil _ _ _,fun k hk=>nl hk.1,fun i k hk=>(nl hk).elim,fun i j k hk=>(nl hk).elim,fun i k hk=>(nl hk).elim,HOK.out⟩,?_,?_⟩
 ·exact ⟨rfl, .inr ⟨w2.heap.size,0,12,aE (List.replicate 12 (0,0)),rfl,b4.alloc _,Nat.le_refl _,by decide,by decide,rfl⟩⟩
 ·exact ((HK2.out.then kset (fun k hk=>.inr (by rw [hk];exact HSB.out))).trans k4).alloc _
 ·intro k hk;rcases hk with rfl | hk | hk | hk | hk | ⟨_,hk⟩
  ·exact Nat.le_succ_of_le hsz
  ·exact (nl hk).elim
  ·simp [ak,Value.ownBlock] at hk;omega
  ·exact (nl hk).elim
  ·exact (nl hk).elim
  ·exact (nl hk).elim
theorem AG {w:World} {h:dj} {W:Wd} (H:aQ w h W) :
  Calls Tryz.prog 155 #[.pointer (some ⟨h.p,0,none⟩)] w fun e w'=>e=.returned (.tuple #[.int .i64 W.az, .int .i64 W.cm])∧aa (fun _=>False) w w':=by
 have HC:=Hz H.cells;have hl:=H.hp.lt;clear H;obtain ⟨-,-,-,-,c4,c5,-,-⟩:=HC.out;generalize h.p=p at *;go_enter Tryz.func155,Tryz.ntmps155;go_wp2_with fail;refine a8 (.free 0 (.free 1 (.free 2 (.free 4 (.free 5 (.free 6 (.pure 3 (.free 8 (.pure 7 (.free 9 (.fin))))))))))) [] (Fz c4 (Fa c5)) ?_
 iterate 10 refine Wz ?_
 refine av ?_;go_wp2_with fail;exact bodyPost_ret (v:=.tuple #[.int .i64 W.az, .int .i64 W.cm]) (by simp [results,Tryz.results155,go_sem]) rfl ⟨rfl,(aa.refl _ _).drew⟩
end
section
open Go.RowKit
def xY (h:dj) (W:Wd) (k:Int):Value:=
 if W.ai k<0 then .pointer none else match h.tv with
  | .slice (some a) _ _=>.pointer (some ⟨a.block,a.off+(W.ai k).toNat*4,none⟩)
  | _=>.pointer none
section
variable {w w':World} {h:dj} {W:Wd}
theorem jK {k:Int} (hn:W.ai k<0):xY h W k=.pointer none:=by unfold xY;rw [if_pos hn]
theorem jL {k:Int} {g o nc:Nat} (hn:¬ W.ai k<0) (e:h.tv=.slice (some ⟨g,o,none⟩) W.T.length nc):xY h W k=.pointer (some ⟨g,o+(W.ai k).toNat*4,none⟩):=by unfold xY;rw [if_neg hn,e]
theorem aQ.fI (H:aQ w h W) {k:Nat} (hk:k<12):∃ g o rc,h.rv=.slice (some ⟨g,o,none⟩) 12 rc∧g<w.heap.size∧w.cell? ⟨h.p,1,none⟩=some (.slice (some ⟨g,o,none⟩) 12 rc)∧w.cell? ⟨g,o+k*2,none⟩=some (.int .i64 (W.rt k).1)∧w.cell? ⟨g,o+k*2+1,none⟩=some (.int .i64 (W.rt k).2) ∧
  Sl w 96 2 (.slice (some ⟨g,o,none⟩) 12 rc) 12 (aE W.roots):=by
 obtain ⟨g,o,rc,e,hg,h0,h1⟩:=H.root hk;have hc:=H.cells.2.1;have hr:=H.hr;rw [H.ok.hr] at e hr;rw [e] at hc hr;exact ⟨g,o,rc,e,hg,hc,h0,h1,hr⟩
theorem q9 (k:Nat) (hk:k<12) (H:aQ w h W) :
  Calls Tryz.prog 165 #[.pointer (some ⟨h.p,0,none⟩), .int .i64 k] w fun e w'=>e=.returned (xY h W k)∧aa (fun _=>False) w w':=by
 obtain ⟨g,o,rc,erv,hg,q1,r0,r1,-⟩:=H.fI hk;obtain ⟨p0,-⟩:=H.cells;have pl:=H.hp.lt;have hki:(k:Int)<12:=by omega
 by_cases h3:(W.rt k).1=3
 ·have hth:W.ai k=(W.rt k).2:=by unfold Wd.ai;rw [if_pos h3]
  have hlv:W.live (W.rt k).2:=Wd.aY (Wd.jl H.ok k) h3;obtain ⟨gt,ot,nc,etl,-,hgt,-⟩:=H.nth (i:=(W.rt k).2.toNat) (by have:=hlv.1;have:=hlv.2.1;omega);have HE:=Hz (jL (h:=h) (k:=k) (by have:=hlv.1;omega) etl);rw [etl] at p0;rw [hth] at HE;rw [h3] at r0;have h0:=hlv.1;have h1:=hlv.2.1;clear H hth hlv erv h3 etl;generalize (W.rt k).2=x at *;obtain ⟨x,rfl⟩:=Int.eq_ofNat_of_zero_le h0;rw [Int.toNat_natCast] at HE;go_enter Tryz.func165,Tryz.ntmps165;go_wp2_with fail;refine a8 (.free 0 (.free 1 (.free 2 (.free 4 (.free 5 (.free 6 (.free 8 (.pure 3 (.pure 7 (.free 9 (.free 10 (.pure 11 (.free 12 (.free 13 (.fin))))))))))))))) [] (Fz p0 (Fz q1 (Fa r1))) ?_
  iterate 14 refine Wz ?_
  refine av ?_;go_wp2_with fail;go_ret;exact ⟨by rw [HE.out];rfl,(aa.refl _ _).drew⟩
 ·have HE:=Hz (jK (h:=h) (W:=W) (k:=k) (by unfold Wd.ai;rw [if_neg h3];omega));have e3:((W.rt k).1 != 3)=true:=by simpa using h3
  clear H erv h3 r1;generalize (W.rt k).1=x at *;go_enter Tryz.func165,Tryz.ntmps165;go_wp2_with fail;go_ret;exact ⟨by rw [HE.out];rfl,aa.refl _ _⟩
def zc (h:dj) (W:Wd) (a:Nat) (i c:Int) (e:Ending):Prop:=
 ∃ p:Option Addr,e=.returned (.tuple #[.pointer p, .int .i64 c])∧(c=0→∃ gf of fc,h.fv (W.ai a).toNat=.slice (some ⟨gf,of,none⟩) (W.th (W.ai a)).fs.length fc∧p=some ⟨gf,of+i.toNat*2,none⟩)
theorem aQ.rowAt (H:aQ w h W) {i:Int} (hi:W.live i):∃ g o nc fo fc,h.tv=.slice (some ⟨g,o,none⟩) W.T.length nc∧g<w.heap.size∧w.cell? ⟨g,o+i.toNat*4,none⟩=some (.int .i64 (W.th i).k) ∧
  w.cell? ⟨g,o+i.toNat*4+1,none⟩=some (.slice fo (W.th i).fs.length fc)∧h.fv i.toNat=.slice fo (W.th i).fs.length fc∧Sl w 96 2 (.slice fo (W.th i).fs.length fc) (W.th i).fs.length (aE (W.th i).fs):=by
 obtain ⟨g,o,nc,e,-,hg,-,hr⟩:=H.nth (i:=i.toNat) (by have:=hi.1;have:=hi.2.1;omega);have e2:W.T.getD i.toNat Th.none=W.th i:=rfl;rw [e2] at hr;have hs:=hr.s hi.2.2;obtain ⟨fo,fc,ef,-,-,-⟩:=hs.rd;have hf:=hr.f hi.2.2;rw [ef] at hf hs;exact ⟨g,o,nc,fo,fc,e,hg,hr.k hi.2.2,hf,ef,hs⟩
theorem uc (a:Nat) (i:Int) (x:St) (hxa:x.a=a) (hxi:x.i=i) (ha:a<12) (H:aQ w h W) :
  Calls Tryz.prog 152 #[.pointer (some ⟨h.p,0,none⟩), .int .i64 a, .int .i64 i] w fun e w'=>zc h W a i (W.cz x) e∧aa (fun _=>False) w w':=by
 have HO:=Hz (q9 a ha H);have HC:=Hz (show W.cz x=if W.ai a<0∨(W.th (W.ai a)).k=5 then 2 else if i<0∨((W.th (W.ai a)).fs.length:Int)≤i then 1 else 0 by unfold Wd.cz;rw [hxa,hxi]);clear hxa hxi;by_cases hn:W.ai a<0
 ·rw [jK hn] at HO;have HE:=Hz (show W.cz x=2 by rw [HC.out,if_pos (.inl hn)]);clear H hn;go_enter Tryz.func152,Tryz.ntmps152;go_wp2_with fail;refine HO.out.mono ?_;rintro e w1 ⟨rfl,hk⟩;have K1:=Hz hk;clear hk;go_wp2_with fail;go_ret2;rw [HE.out];exact ⟨⟨none,rfl,fun h=>by cases h⟩,K1.out⟩
 have hlv:=Wd.eQ H.ok hn;obtain ⟨g,o,nc,fo,fc,etl,hg,t0,t1,ef,hs⟩:=H.rowAt hlv;rw [jL hn etl] at HO;have HF:=Hz ef;have HS:=Hz hs;have hfl:=(bK (H.ok.tk _ hlv)).2.2.2;have KK:=Hz (fun (w1:World) (k:aa (fun _=>False) w w1)=>(show w1.cell? ⟨g,o+(W.ai a).toNat*4,none⟩=some (.int .i64 (W.th (W.ai a)).k)∧w1.cell? ⟨g,o+(W.ai a).toNat*4+1,none⟩=some (.slice fo (W.th (W.ai a)).fs.length fc)∧g<w1.heap.size from by
  have hb:=k.block g hg (fun h=>h);refine ⟨?_,?_,Nat.lt_of_lt_of_le hg k.size⟩
  ·rw [←t0];simp only [World.cell?,hb]
  ·rw [←t1];simp only [World.cell?,hb]))
 clear t0 t1 hg etl ef hs hlv H;by_cases h5:(W.th (W.ai a)).k=5
 ·have HE:=Hz (show W.cz x=2 by rw [HC.out,if_pos (.inr h5)]);rw [h5] at KK;clear h5 HC;go_enter Tryz.func152,Tryz.ntmps152;go_wp2_with fail;refine HO.out.mono ?_;rintro e w1 ⟨rfl,hk⟩;have K1:=Hz hk;obtain ⟨t0,t1,hg⟩:=KK.out _ hk;clear hk;go_wp2_with fail;go_ret2;rw [HE.out];exact ⟨⟨none,rfl,fun h=>by cases h⟩,K1.out⟩
 have e5:((W.th (W.ai a)).k == 5)=false:=by simpa using h5
 have HD:=Hz (show W.cz x=if i<0∨((W.th (W.ai a)).fs.length:Int)≤i then 1 else 0 by rw [HC.out,if_neg (by rintro (h1 | h1);exact hn h1;exact h5 h1)]);clear h5 hn HC;generalize (W.th (W.ai a)).k=kd at *;obtain ⟨n,hnn⟩:∃ n,(W.th (W.ai a)).fs.length=n:=⟨_,rfl⟩;have HN:=Hz hnn;rw [hnn] at KK HD HF hfl;clear hnn;by_cases hi:i<0
 ·have HE:=Hz (show W.cz x=1 by rw [HD.out,if_pos (.inl hi)]);clear HD;go_enter Tryz.func152,Tryz.ntmps152;go_wp2_with fail;refine HO.out.mono ?_;rintro e w1 ⟨rfl,hk⟩;have K1:=Hz hk;obtain ⟨t0,t1,hg⟩:=KK.out _ hk;clear hk;go_wp2_with fail;go_ret2;rw [HE.out];exact ⟨⟨none,rfl,fun h=>by cases h⟩,K1.out⟩
 by_cases hi2:(n:Int)≤i
 ·have HE:=Hz (show W.cz x=1 by rw [HD.out,if_pos (.inr hi2)]);clear HD;go_enter Tryz.func152,Tryz.ntmps152;go_wp2_with fail;refine HO.out.mono ?_;rintro e w1 ⟨rfl,hk⟩;have K1:=Hz hk;obtain ⟨t0,t1,hg⟩:=KK.out _ hk;clear hk;go_wp2_with fail;go_ret2;rw [HE.out];exact ⟨⟨none,rfl,fun h=>by cases h⟩,K1.out⟩
 have HE:=Hz (show W.cz x=0 by rw [HD.out,if_neg (by rintro (h1 | h1);exact hi h1;exact hi2 h1)]);obtain ⟨i,rfl⟩:=Int.eq_ofNat_of_zero_le (show 0≤i by omega);have hi3:(i:Int)<n:=by omega
 clear hi hi2 HD;obtain ⟨gf,of,rfl⟩:∃ gf of,fo=some ⟨gf,of,none⟩:=by
  have hs:=HS.out;rw [HN.out] at hs;obtain ⟨g',o',_,_,e',-⟩:=hs.laid (by omega);cases e';exact ⟨_,_,rfl⟩
 go_enter Tryz.func152,Tryz.ntmps152;go_wp2_with fail;refine HO.out.mono ?_;rintro e w1 ⟨rfl,hk⟩;have K1:=Hz hk;obtain ⟨t0,t1,hg⟩:=KK.out _ hk;clear hk;go_wp2_with fail;go_ret2;rw [HE.out];exact ⟨⟨_,rfl,fun _=>⟨gf,of,fc,by rw [HN.out];exact HF.out,rfl⟩⟩,K1.out⟩
end
end
section
open Go.RowKit
def dW (w:World) (h:dj) (r:Int × Wd):Ending→World→Prop:=fun e w'=>e=.returned (.int .i64 r.1)∧aS w h w' r.2
section
variable {w w':World} {h:dj} {W:Wd}
theorem aQ.oy (H:aQ w h W) {rg wt:List (Int × Int)} (T:rE (h.gx W) w h.p h.gv h.wv w' rg wt) (hok:({ W with ah:=rg,wait:=wt }:Wd).ok):aS w h w' { W with ah:=rg,wait:=wt }:=by
 obtain ⟨rv',wv',S,K,o⟩:=T;have ne:∀ {b:Nat} {c:List Value} {T:TypeId},aj w b c T→T≠191→T≠101→¬ aF h.p h.gv h.wv b:=fun hb h1 h2=>H.side.nI hb h1 h2;have aI:∀ b,aF h.p h.gv h.wv b→h.Own b:=fun b hb=>by
  rcases hb with rfl | hb | hb
  ·exact .inl rfl
  ·exact .inr (.inr (.inr (.inl hb)))
  ·exact .inr (.inr (.inr (.inr (.inl hb))))
 refine ⟨⟨h.p,h.tv,h.rv,rv',wv',h.fv⟩,⟨S.hp,H.ht.ab K (fun b hb=>?_) (fun i b hb=>?_),H.hr.ab K (fun b hb=>?_),S.hr,S.hw,S.ap,fun i b hb=>?_,H.fi,H.fl,hok⟩,rfl,K.mono (fun b _ hb=>aI b hb),fun b hb=>?_⟩
 ·obtain ⟨cs,hs,_⟩:=H.ht;obtain ⟨_,c,hc⟩:=hs.own hb;exact ne hc (by decide) (by decide)
 ·obtain ⟨_,⟨c,hc⟩,_⟩:=H.af i b hb;exact ne hc (by decide) (by decide)
 ·obtain ⟨_,c,hc⟩:=H.hr.own hb;exact ne hc (by decide) (by decide)
 ·obtain ⟨h1,⟨c,hc⟩,h3⟩:=H.af i b hb;exact ⟨Nat.lt_of_lt_of_le h1 K.size,⟨c,K.aq hc (ne hc (by decide) (by decide))⟩,h3⟩
 ·rcases hb with hb | hb | hb | hb | hb | hb
  ·exact .inl (.inl hb)
  ·exact .inl (.inr (.inl hb))
  ·exact .inl (.inr (.inr (.inl hb)))
  ·exact (o b (.inr (.inl hb))).imp (aI b) id
  ·exact (o b (.inr (.inr hb))).imp (aI b) id
  ·exact .inl (.inr (.inr (.inr (.inr (.inr hb)))))
theorem Wd.im {k:Int}:W.guard k<0↔W.ai k<0∨(W.th (W.ai k)).k≠5:=by
 unfold Wd.guard;split
 ·rename_i h;exact ⟨fun _=>h,fun _=>by omega⟩
 ·rename_i h;constructor
  ·intro h2;exact absurd (.inl h2) h
  ·intro h2;exact absurd h2 h
theorem Wd.si {k:Int} (h:¬ W.guard k<0):W.guard k=W.ai k∧¬ W.ai k<0∧(W.th (W.ai k)).k=5:=by
 have h2:¬ (W.ai k<0∨(W.th (W.ai k)).k≠5):=fun e=>h (Wd.im.2 e);refine ⟨by unfold Wd.guard;rw [if_neg h2],fun e=>h2 (.inl e),Classical.byContradiction fun e=>h2 (.inr e)⟩
theorem Wd.pY {k:Int} (h:¬ W.ai k<0):(W.rt k).2=W.ai k∧(W.rt k).1=3:=by
 unfold Wd.ai at h ⊢;by_cases e:(W.rt k).1=3
 ·rw [if_pos e];exact ⟨rfl,e⟩
 ·rw [if_neg e] at h;exact absurd (by omega) h
theorem BU (a b:Nat) (xr xi xn:Int) (H:aQ w h W) (ha:a<12) (hb:b<12) :
  Calls Tryz.prog 151 #[.pointer (some ⟨h.p,0,none⟩), .agg #[.int .i64 9, .int .i64 xr, .int .i64 a, .int .i64 b, .int .i64 xi, .int .i64 xn]] w (dW w h (W.fT ⟨9,xr,a,b,xi,xn⟩)):=by
 unfold dW;have HRG:=Hz (show W.fT ⟨9,xr,a,b,xi,xn⟩=if W.ai a<0∨W.guard b<0 then (2,W) else if 24≤W.ah.length+W.wait.length then (3,W) else (0, { W with ah:=W.ah ++ [(W.guard b,W.ai a)] }) from rfl);have HB0:=Hz H;have ax:aj (w.alloc (.cells #[.int .i64 9, .int .i64 xr, .int .i64 a, .int .i64 b, .int .i64 xi, .int .i64 xn] 69)) w.heap.size [.int .i64 9, .int .i64 xr, .int .i64 a, .int .i64 b, .int .i64 xi, .int .i64 xn] 69:=aj.newAt _ rfl rfl;have ka:=(Kz w).alloc (.cells #[.int .i64 9, .int .i64 xr, .int .i64 a, .int .i64 b, .int .i64 xi, .int .i64 xn] 69);have HB1:=Hz (H.same ka);have K1:=Hz ka;have SB1:=Hz ax;have SOW:=Hz (show ¬ h.Own w.heap.size from fun e=>by have:=H.a5 e;omega);clear ax ka H;go_enter Tryz.func151,Tryz.ntmps151;go_upto_region 1 with fail
 generalize w.alloc (.cells #[.int .i64 9, .int .i64 xr, .int .i64 a, .int .i64 b, .int .i64 xi, .int .i64 xn] 69)=w1 at *;generalize w.heap.size=sb at *;have s0:=SB1.out.cell 0;have s1:=SB1.out.cell 1;have s2:=SB1.out.cell 2;have s3:=SB1.out.cell 3;have s4:=SB1.out.cell 4;have s5:=SB1.out.cell 5;have sl:=SB1.out.lt;simp only [Lz,aC] at s0 s1 s2 s3 s4 s5;have HOB:=Hz (fun w' (H:aQ w' h W)=>q9 b hb H);have HOA:=Hz (fun w' (H:aQ w' h W)=>q9 a ha H);by_cases hta:W.ai a<0
 ·rw [jK hta] at HOA;have HE:=Hz (show W.fT ⟨9,xr,a,b,xi,xn⟩=(2,W) by rw [HRG.out,if_pos (.inl hta)]);clear hta;go_wp2_with fail;refine (HOB.out _ HB1.out).mono ?_;rintro e w2 ⟨rfl,hk⟩;have HB2:=Hz (HB1.out.same hk);have K2:=Hz (K1.out.trans hk);have SB2:=Hz (hk.aq SB1.out (fun h=>h));clear hk s0 s1 s2 s3 s4 s5 sl;have s0:=SB2.out.cell 0;have s2:=SB2.out.cell 2;have s3:=SB2.out.cell 3;have sl:=SB2.out.lt;simp only [Lz,aC] at s0 s2 s3;go_wp2_with fail;refine (HOA.out _ HB2.out).mono ?_;rintro e w3 ⟨rfl,hk⟩;have HB3:=Hz (HB2.out.same hk);have K3:=Hz (K2.out.trans hk);have SB3:=Hz (hk.aq SB2.out (fun h=>h));clear hk s0 s2 s3 sl;have s0:=SB3.out.cell 0;have s2:=SB3.out.cell 2;have s3:=SB3.out.cell 3;have sl:=SB3.out.lt;simp only [Lz,aC] at s0 s2 s3;go_wp2_with fail;go_ret;rw [HE.out];exact ⟨rfl,aS.same HB0.out K3.out⟩
 have hla:=Wd.eQ HB0.out.ok hta;obtain ⟨ga,oa,nca,-,-,etl,-⟩:=HB0.out.rowAt hla;rw [jL hta etl] at HOA;by_cases htb:W.ai b<0
 ·rw [jK htb] at HOB;have HE:=Hz (show W.fT ⟨9,xr,a,b,xi,xn⟩=(2,W) by rw [HRG.out,if_pos (.inr (Wd.im.2 (.inl htb)))]);clear htb hta hla etl;go_wp2_with fail;refine (HOB.out _ HB1.out).mono ?_;rintro e w2 ⟨rfl,hk⟩;have HB2:=Hz (HB1.out.same hk);have K2:=Hz (K1.out.trans hk);have SB2:=Hz (hk.aq SB1.out (fun h=>h));clear hk s0 s1 s2 s3 s4 s5 sl;have s0:=SB2.out.cell 0;have s2:=SB2.out.cell 2;have s3:=SB2.out.cell 3;have sl:=SB2.out.lt;simp only [Lz,aC] at s0 s2 s3;go_wp2_with fail;refine (HOA.out _ HB2.out).mono ?_;rintro e w3 ⟨rfl,hk⟩;have HB3:=Hz (HB2.out.same hk);have K3:=Hz (K2.out.trans hk);have SB3:=Hz (hk.aq SB2.out (fun h=>h));clear hk s0 s2 s3 sl;have s0:=SB3.out.cell 0;have s2:=SB3.out.cell 2;have s3:=SB3.out.cell 3;have sl:=SB3.out.lt;simp only [Lz,aC] at s0 s2 s3;go_wp2_with fail;go_ret;rw [HE.out];exact ⟨rfl,aS.same HB0.out K3.out⟩
 have hlb:=Wd.eQ HB0.out.ok htb;have HLB:=Hz hlb;rw [jL htb etl] at HOB;have ETL:=Hz etl;have HTA:=Hz (Wd.pY hta);have HTB:=Hz (Wd.pY htb);by_cases h5:(W.th (W.ai b)).k=5
 case neg=>
  have HE:=Hz (show W.fT ⟨9,xr,a,b,xi,xn⟩=(2,W) by rw [HRG.out,if_pos (.inr (Wd.im.2 (.inr h5)))]);have e5:((W.th (W.ai b)).k != 5)=true:=by simpa using h5
  clear htb hta hla hlb etl h5;go_wp2_with fail;refine (HOB.out _ HB1.out).mono ?_;rintro e w2 ⟨rfl,hk⟩;have HB2:=Hz (HB1.out.same hk);have K2:=Hz (K1.out.trans hk);have SB2:=Hz (hk.aq SB1.out (fun h=>h));clear hk s0 s1 s2 s3 s4 s5 sl;have s0:=SB2.out.cell 0;have s2:=SB2.out.cell 2;have s3:=SB2.out.cell 3;have sl:=SB2.out.lt;simp only [Lz,aC] at s0 s2 s3;go_wp2_with fail;refine (HOA.out _ HB2.out).mono ?_;rintro e w3 ⟨rfl,hk⟩;have HB3:=Hz (HB2.out.same hk);have K3:=Hz (K2.out.trans hk);have SB3:=Hz (hk.aq SB2.out (fun h=>h));clear hk s0 s2 s3 sl;have s0:=SB3.out.cell 0;have s2:=SB3.out.cell 2;have s3:=SB3.out.cell 3;have sl:=SB3.out.lt;simp only [Lz,aC] at s0 s2 s3;obtain ⟨gb,ob,ncb,-,-,e',hg,t0,-⟩:=HB3.out.rowAt HLB.out;rw [ETL.out] at e';cases e';go_wp2_with fail;go_ret;rw [HE.out];exact ⟨rfl,aS.same HB0.out K3.out⟩
 have HG:=Hz (show W.fT ⟨9,xr,a,b,xi,xn⟩=if 24≤W.ah.length+W.wait.length then (3,W) else (0, { W with ah:=W.ah ++ [(W.ai b,W.ai a)] }) by
  have hg:¬ W.guard b<0:=fun e=>by rcases Wd.im.1 e with h | h;exact htb h;exact h h5
  rw [HRG.out,if_neg (by rintro (h | h);exact hta h;exact hg h),(Wd.si hg).1])
 have OKE:=Hz (show W.dD (W.ai b,W.ai a) from ⟨hlb,h5,hla⟩);have T0:=Hz (show ∀ w',aQ w' h W→w'.cell? ⟨ga,oa+(W.ai b).toNat*4,none⟩=some (.int .i64 5)∧ga<w'.heap.size from fun w' H'=>by
  obtain ⟨gb,ob,ncb,-,-,e',hg,t0,-⟩:=H'.rowAt HLB.out;rw [ETL.out] at e';cases e';rw [h5] at t0
  exact ⟨t0,hg⟩)
 clear htb hta hla hlb etl h5 HRG;go_wp2_with fail;refine (HOB.out _ HB1.out).mono ?_;rintro e w2 ⟨rfl,hk⟩;have HB2:=Hz (HB1.out.same hk);have K2:=Hz (K1.out.trans hk);have SB2:=Hz (hk.aq SB1.out (fun h=>h));clear hk s0 s1 s2 s3 s4 s5 sl;have s0:=SB2.out.cell 0;have s2:=SB2.out.cell 2;have s3:=SB2.out.cell 3;have sl:=SB2.out.lt;simp only [Lz,aC] at s0 s2 s3;go_wp2_with fail;refine (HOA.out _ HB2.out).mono ?_;rintro e w3 ⟨rfl,hk⟩;have HB3:=Hz (HB2.out.same hk);have K3:=Hz (K2.out.trans hk);have SB3:=Hz (hk.aq SB2.out (fun h=>h));clear hk s0 s2 s3 sl;have s0:=SB3.out.cell 0;have s2:=SB3.out.cell 2;have s3:=SB3.out.cell 3;have sl:=SB3.out.lt;simp only [Lz,aC] at s0 s2 s3;obtain ⟨t0,hg⟩:=T0.out _ HB3.out;obtain ⟨gr,orr,rc,-,hgr,q1,-,ra1,-⟩:=HB3.out.fI ha;obtain ⟨gr',or',rc',-,-,q1',-,rb1,-⟩:=HB3.out.fI hb;rw [q1] at q1';cases q1';rw [HTA.out.1] at ra1;rw [HTB.out.1] at rb1;have hai:(a:Int)<12:=by omega
 have hbi:(b:Int)<12:=by omega
 have h24l:=HB3.out.ok.hq;have hsd:=HB3.out.side;have hpl:=HB3.out.hp.lt;generalize W.ai a=va at *;generalize W.ai b=vb at *;by_cases h24:24≤W.ah.length+W.wait.length
 ·have HE:=Hz (show W.fT ⟨9,xr,a,b,xi,xn⟩=(3,W) by rw [HG.out,if_pos h24]);have hreg:=xF h.p h.gv h.wv W.ah W.wait vb va (w3.drew) (hsd.ab (Kz w3).drew (fun _ _ h=>h)) (by omega) (by omega) h24;have HREG:=Hz hreg;clear hreg hsd h24 h24l;go_wp2_with fail;refine a8 (.free 0 (.free 1 (.free 2 (.free 3 (.free 4 (.free 5 (.free 7 (.free 11 (.free 12 (.free 13 (.free 15 (.pure 6 (.free 8 (.free 9 (.pure 10 (.pure 14 (.pure 16 (.free 17 (.free 18 (.pure 19 (.free 20 (.run 21 (.swi [] (.free 22 (.fin))))))))))))))))))))))))) [21,22] (Fz q1 (Fz rb1 (Fz s2 (Fa ra1)))) ?_
  iterate 21 refine Wz ?_
  refine aA rfl rfl rfl (fun K hK=>?_);unfold aw;go_simp;refine HREG.out.mono ?_;rintro e5 w5 ⟨rfl,hk⟩;refine hK _ _ ?_;clear hK K;refine aB (fun _=>True) trivial ?_;refine Wz ?_;refine av ?_;have K4:=Hz (K3.out.trans ((Kz w3).drew.trans hk));clear hk q1 ra1 rb1 s0 s2 s3 sl t0 hg hgr hpl;go_wp2_with fail;go_ret;rw [HE.out];exact ⟨rfl,aS.same HB0.out K4.out⟩
 ·have HE:=Hz (show W.fT ⟨9,xr,a,b,xi,xn⟩=(0, { W with ah:=W.ah ++ [(vb,va)] }) by rw [HG.out,if_neg h24]);have HOK:=Hz (show ({ W with ah:=W.ah ++ [(vb,va)] }:Wd).ok from by
   have o:=HB3.out.ok;exact ⟨o.hr,o.rv,o.tk,o.tv,fun e he=>by
    rcases List.mem_append.1 he with h1 | h1
    ·exact o.gv e h1
    ·rw [List.mem_singleton.1 h1];exact OKE.out,o.wv,by simp;omega,o.m1,o.m2,o.g1,o.g2,o.uy,o.uo⟩)
  have hreg:=xG h.p h.gv h.wv W.ah W.wait vb va (w3.drew) (hsd.ab (Kz w3).drew (fun _ _ h=>h)) (by omega) (by omega) h24;have HREG:=Hz hreg;clear hreg hsd h24 h24l;go_wp2_with fail;refine a8 (.free 0 (.free 1 (.free 2 (.free 3 (.free 4 (.free 5 (.free 7 (.free 11 (.free 12 (.free 13 (.free 15 (.pure 6 (.free 8 (.free 9 (.pure 10 (.pure 14 (.pure 16 (.free 17 (.free 18 (.pure 19 (.free 20 (.run 21 (.swi [] (.free 22 (.fin))))))))))))))))))))))))) [21,22] (Fz q1 (Fz rb1 (Fz s2 (Fa ra1)))) ?_
  iterate 21 refine Wz ?_
  refine aA rfl rfl rfl (fun K hK=>?_);unfold aw;go_simp;refine HREG.out.mono ?_;rintro e5 w5 ⟨rfl,hs5⟩;refine hK _ _ ?_;clear hK K;refine aB (fun _=>True) trivial ?_;refine Wz ?_;refine av ?_;have TO:=Hz (aS.aK K3.out.drew ((HB3.out.same (Kz w3).drew).oy hs5 HOK.out));clear hs5 q1 ra1 rb1 s0 s2 s3 sl t0 hg hgr hpl;go_wp2_with fail;go_ret;rw [HE.out];exact ⟨rfl,TO.out⟩
end
end
section
open Go.RowKit
def lS (n:Nat) (met:List Int):List Value:=(List.range n).map fun (i:Nat)=>Value.int .i64 (if (i:Int) ∈ met then ((met.idxOf (i:Int):Nat):Int)+1 else 0)
theorem lT (n:Nat) (met:List Int):(lS n met).length=n:=by simp [lS]
theorem nB {n:Nat} {met:List Int} {i:Nat} (h:i<n):(lS n met)[i]? = some (.int .i64 (if (i:Int) ∈ met then ((met.idxOf (i:Int):Nat):Int)+1 else 0)):=by
 unfold lS;rw [List.getElem?_map,List.getElem?_range h];rfl
theorem xZ (n:Nat):lS n []=List.replicate n (.int .i64 0):=by
 apply List.ext_getElem?;intro i;by_cases h:i<n
 ·rw [nB h,List.getElem?_replicate,if_pos h];simp
 ·rw [List.getElem?_eq_none (by rw [lT];omega),List.getElem?_eq_none (by simp;omega)]
theorem wG {n:Nat} {met:List Int} {x:Nat} (hx:x<n) (hm:¬ (x:Int) ∈ met):(lS n met).set x (.int .i64 ((met.length:Int)+1))=lS n (met ++ [(x:Int)]):=by
 apply List.ext_getElem?;intro i;rw [List.getElem?_set];by_cases h:i<n
 ·have r1:=nB (met:=met) h;have r2:=nB (met:=met ++ [(x:Int)]) h;rw [r2,r1];by_cases e:x=i
  ·subst e;rw [if_pos rfl,if_pos (by rw [lT];exact h),if_pos (by simp),List.idxOf_append,if_neg hm];simp
  ·rw [if_neg e];have hne:¬ (i:Int)=(x:Int):=by omega
   by_cases h1:(i:Int) ∈ met
   ·rw [if_pos h1,if_pos (by simp [h1]),List.idxOf_append,if_pos h1]
   ·rw [if_neg h1,if_neg (by simp [h1,hne])]
 ·rw [if_neg (by omega),List.getElem?_eq_none (by rw [lT];omega),List.getElem?_eq_none (by rw [lT];omega)]
def jg (w:World) (b n:Nat) (met:List Int):Prop:=aj w b (lS n met) 3
theorem jg.ab {w w':World} {b n:Nat} {met:List Int} {S:Nat→Prop} (h:jg w b n met) (k:aa S w w') (hn:¬ S b):jg w' b n met:=k.aq h hn
section
variable {w w':World} {h:dj} {W:Wd}
structure dq (w:World) (q:Nat) (h:dj) (W:Wd) (b:Nat) (rv nv:Value) (F:Nat→Prop) (s:VS):Prop where
 hq:aj w q [.pointer (some ⟨h.p,0,none⟩), .slice (some ⟨b,0,none⟩) W.T.length W.T.length,rv,nv] 212
 hw:aQ w h W
 hm:jg w b W.T.length s.1
 hn:dw w nv F s.2
 hl:s.2.length=s.1.length
 hF:∀ k,F k→k<w.heap.size∧¬ (k=q∨k=b∨ak nv k)
 hO:∀ k,F k→¬ h.Own k
def jt (q b:Nat) (nv:Value) (k:Nat):Prop:=k=q∨k=b∨ak nv k
variable {q b:Nat} {rv nv:Value} {F:Nat→Prop} {s:VS}
theorem dq.eO (V:dq w q h W b rv nv F s) {k:Nat} (hk:h.Own k):¬ jt q b nv k:=by
 obtain ⟨-,c,T,hc,hT⟩:=V.hw.bB hk;have hne:T≠212∧T≠139∧T≠3:=by rcases hT with rfl | rfl | rfl | rfl <;> exact ⟨by decide,by decide,by decide⟩
 rintro (rfl | rfl | hk2)
 ·exact hc.ne V.hq hne.1 rfl
 ·exact hc.ne V.hm hne.2.2 rfl
 ·obtain ⟨_,c',hc'⟩:=V.hn.own hk2;exact hc.ne hc' hne.2.1 rfl
theorem dq.lt (V:dq w q h W b rv nv F s) {k:Nat} (hk:jt q b nv k):k<w.heap.size:=by
 rcases hk with rfl | rfl | hk
 ·exact V.hq.lt
 ·exact V.hm.lt
 ·exact (V.hn.own hk).1
theorem dq.kC (V:dq w q h W b rv nv F s) {k:Nat} {c:List Value} {T:TypeId} (hc:aj w k c T) (h1:T≠212) (h2:T≠139) (h3:T≠3):¬ jt q b nv k:=by
 rintro (rfl | rfl | hk2)
 ·exact hc.ne V.hq h1 rfl
 ·exact hc.ne V.hm h3 rfl
 ·obtain ⟨_,c',hc'⟩:=V.hn.own hk2;exact hc.ne hc' h2 rfl
theorem dq.ab {S:Nat→Prop} (V:dq w q h W b rv nv F s) (k:aa S w w') (h1:∀ j,jt q b nv j→¬ S j) (h2:∀ j,h.Own j→¬ S j) (h3:∀ j,F j→¬ S j):dq w' q h W b rv nv F s:=
 ⟨k.aq V.hq (h1 _ (.inl rfl)),V.hw.ab k h2,V.hm.ab k (h1 _ (.inr (.inl rfl))),V.hn.ab k (fun j hj _=>h3 j hj) (fun j hj=>h1 j (.inr (.inr hj))),V.hl,fun j hj=>⟨Nat.lt_of_lt_of_le (V.hF j hj).1 k.size,(V.hF j hj).2⟩,V.hO⟩
theorem dq.same (V:dq w q h W b rv nv F s) (k:aa (fun _=>False) w w'):dq w' q h W b rv nv F s:=V.ab k (fun _ _ h=>h) (fun _ _ h=>h) (fun _ _ h=>h)
def nC (w:World) (q:Nat) (h:dj) (W:Wd) (b:Nat) (rv nv:Value) (F:Nat→Prop) (s':VS) (w':World):Prop:=
 ∃ nv' F',dq w' q h W b rv nv' F' s'∧aa (jt q b nv) w w'∧(∀ k,ak nv' k→ak nv k∨w.heap.size≤k)∧∀ k,F' k→F k∨w.heap.size≤k
def rG (w:World) (q:Nat) (h:dj) (W:Wd) (b:Nat) (rv nv:Value) (F:Nat→Prop) (r:Vl × VS) (e:Ending) (w':World):Prop:=
 e=.returned (.agg #[.int .i64 r.1.1, .int .i64 r.1.2])∧nC w q h W b rv nv F r.2 w'
structure dr (w:World) (q:Nat) (h:dj) (W:Wd) (b:Nat) (rv nv:Value) (F:Nat→Prop) (s:VS) (lv:Value) (l:List Vl) (wr:World) (nv':Value) (F':Nat→Prop):Prop where
 V:dq wr q h W b rv nv' F' s
 K:aa (jt q b nv) w wr
 o1:∀ k,ak nv' k→ak nv k∨w.heap.size≤k
 o2:∀ k,F' k→F k∨w.heap.size≤k
 L:Sl wr 96 2 lv l.length (aE l)
 o3:∀ k,ak lv k→w.heap.size≤k∧¬ F' k
 ol:∀ k,h.Own k→k<w.heap.size
theorem dr.kD {lv:Value} {l:List Vl} {wr:World} {nv':Value} {F':Nat→Prop} (I:dr w q h W b rv nv F s lv l wr nv' F') {k:Nat} (hk:ak lv k):¬ jt q b nv' k∧¬ h.Own k:=by
 obtain ⟨_,c,hc⟩:=I.L.own hk;constructor
 ·rintro (rfl | rfl | h1)
  ·exact hc.ne I.V.hq (by decide) rfl
  ·exact I.V.hm.ne hc (by decide) rfl
  ·obtain ⟨_,c',hc'⟩:=I.V.hn.own h1;exact hc.ne hc' (by decide) rfl
 ·intro h1;have:=I.ol k h1;have:=(I.o3 k hk).1;omega
theorem dr.told {lv:Value} {l:List Vl} {wr w2:World} {nv':Value} {F':Nat→Prop} {s2:VS} (I:dr w q h W b rv nv F s lv l wr nv' F') (t:nC wr q h W b rv nv' F' s2 w2):∃ nv2 F2,dr w q h W b rv nv F s2 lv l w2 nv2 F2:=by
 obtain ⟨nv2,F2,V2,k2,p1,p2⟩:=t;refine ⟨nv2,F2,V2,I.K.then k2 (fun j hj=>?_),fun j hj=>?_,fun j hj=>?_,I.L.ab k2 (fun j hj=>(I.kD hj).1),fun j hj=>⟨(I.o3 j hj).1,fun hf=>?_⟩,I.ol⟩
 ·rcases hj with rfl | rfl | hj
  ·exact .inl (.inl rfl)
  ·exact .inl (.inr (.inl rfl))
  ·rcases I.o1 j hj with h | h
   ·exact .inl (.inr (.inr h))
   ·exact .inr h
 ·rcases p1 j hj with h | h
  ·exact I.o1 j h
  ·exact .inr (Nat.le_trans I.K.size h)
 ·rcases p2 j hj with h | h
  ·exact I.o2 j h
  ·exact .inr (Nat.le_trans I.K.size h)
 ·rcases p2 j hf with h | h
  ·exact (I.o3 j hj).2 h
  ·have:=(I.L.own hj).1;omega
theorem dr.app {lv:Value} {l:List Vl} {wr wa w2:World} {nv' lv2:Value} {F':Nat→Prop} {v:Vl} (I:dr w q h W b rv nv F s lv l wr nv' F') (ka:aa (fun _=>False) wr wa)
  (hs:Sl w2 96 2 lv2 (l.length+1) (aE l ++ [.int .i64 v.1, .int .i64 v.2])) (hk:aa (ak lv) wa w2) (ho:∀ k,ak lv2 k→ak lv k∨wa.heap.size≤k):dr w q h W b rv nv F s lv2 (l ++ [v]) w2 nv' F':=by
 have k2:=(ka.mono (T:=ak lv) (fun _ _ h=>h.elim)).trans hk;refine ⟨I.V.ab k2 (fun j hj hl=>(I.kD hl).1 hj) (fun j hj hl=>(I.kD hl).2 hj) (fun j hj hl=>(I.o3 j hl).2 hj),I.K.then k2 (fun j hj=>.inr (I.o3 j hj).1),I.o1,I.o2,?_,fun j hj=>?_,I.ol⟩
 ·have e:aE (l ++ [v])=aE l ++ [.int .i64 v.1, .int .i64 v.2]:=by simp [aE]
  rw [e,List.length_append];exact hs
 ·rcases ho j hj with h1 | h1
  ·exact I.o3 j h1
  ·have:=ka.size;have:=I.K.size;exact ⟨by omega,fun hf=>by have:=(I.V.hF j hf).1;omega⟩
theorem dr.same {lv:Value} {l:List Vl} {wr w2:World} {nv':Value} {F':Nat→Prop} (I:dr w q h W b rv nv F s lv l wr nv' F') (k:aa (fun _=>False) wr w2):dr w q h W b rv nv F s lv l w2 nv' F':=
 ⟨I.V.same k,I.K.trans (k.mono (fun _ _ h=>h.elim)),I.o1,I.o2,I.L.ab k (fun _ _ h=>h),I.o3,I.ol⟩
theorem dq.push {x:Int} {kd:Int} {wm wa w2:World} {nv2:Value} (V:dq w q h W b rv nv F s) (hm:jg wm b W.T.length (s.1 ++ [x])) (km:aa (·=b) w wm) (ka:aa (fun _=>False) wm wa)
  (cs:List Value) (hcs:cy 2 (fR w F) s.2 cs)
  (hs:Sl w2 139 2 nv2 (s.2.length+1) (cs ++ [.int .i64 kd, .slice none 0 0])) (hk:aa (ak nv) wa w2) (ho:∀ k,ak nv2 k→ak nv k∨wa.heap.size≤k) :
  nC w q h W b rv nv F (s.1 ++ [x],s.2 ++ [(kd,[])]) (w2.setCell ⟨q,3,none⟩ nv2):=by
 have K1:aa (jt q b nv) w w2:=((km.mono (fun j _ hj=>.inr (.inl hj))).trans (ka.mono (fun _ _ h=>h.elim))).trans (hk.mono (fun j _ hj=>.inr (.inr hj)));have K2:=K1.setCell (p:=⟨q,3,none⟩) (.inl (.inl rfl)) nv2;have hsz:=km.size;have hsz2:=ka.size;have hsz3:=hk.size;have nq:¬ ak nv q:=fun hq=>by obtain ⟨_,c,hc⟩:=V.hn.own hq;exact V.hq.ne hc (by decide) rfl
 have nb:¬ ak nv b:=fun hq=>by obtain ⟨_,c,hc⟩:=V.hn.own hq;exact V.hm.ne hc (by decide) rfl
 have qb:q≠b:=V.hq.ne V.hm (by decide);have hq2:=hk.aq (ka.aq (km.aq V.hq qb) (fun h=>h)) nq;have ne2:∀ k,ak nv2 k→k≠q:=fun k hk2 e=>by
  obtain ⟨_,c,hc⟩:=hs.own hk2;exact hc.ne hq2 (by decide) e
 have setk:=(aa.refl (·=q) w2).setCell (p:=⟨q,3,none⟩) (.inl rfl) nv2;refine ⟨nv2,F,⟨by simpa using hq2.aG 3 nv2,V.hw.ab K2 (fun j hj=>V.eO hj),?_,⟨_,by rw [List.length_append];exact hs.ab setk ne2,?_⟩,by simp [V.hl],fun j hj=>⟨?_,?_⟩,V.hO⟩,K2,fun j hj=>?_,fun j hj=>.inl hj⟩
 ·exact (hm.ab (ka.mono (T:=ak nv) (fun _ _ h=>h.elim) |>.trans hk) nb).ab setk (Ne.symm qb)
 ·refine cy.app (hcs.mono (fun a _ r hr=>hr.ab K2 (fun j hj _=>(V.hF j hj).2))) rfl ?_;exact ⟨none,0,rfl,Rd.nil _ _,(fun a ha=>by cases ha),Nat.zero_le _⟩
 ·have:=(V.hF j hj).1;have:=K2.size;omega
 ·rintro (e | e | e)
  ·exact (V.hF j hj).2 (.inl e)
  ·exact (V.hF j hj).2 (.inr (.inl e))
  ·rcases ho j e with h1 | h1
   ·exact (V.hF j hj).2 (.inr (.inr h1))
   ·have:=(V.hF j hj).1;omega
 ·rcases ho j hj with h1 | h1
  ·exact .inl h1
  ·exact .inr (by omega)
theorem dr.done {lv:Value} {l:List Vl} {wr:World} {nv':Value} {F':Nat→Prop} {kd:Int} {n:Nat} {g o cap:Nat} {ao:Option Addr} {lc:Nat} (hlv:lv=.slice ao l.length lc) (I:dr w q h W b rv nv F s lv l wr nv' F')
  (hnv:nv'=.slice (some ⟨g,o,none⟩) s.2.length cap) (hn:s.2[n]? = some (kd,[])):nC w q h W b rv nv F (s.1,s.2.set n (kd,l)) (wr.setCell ⟨g,o+n*2+1,none⟩ lv):=by
 subst hnv hlv;have hlt:n<s.2.length:=(List.getElem?_eq_some_iff.1 hn).1;have hgo:ak (.slice (some ⟨g,o,none⟩) s.2.length cap) g:=rfl;have hne:=fun k hk=>I.kD (k:=k) hk;have setk:=(aa.refl (·=g) wr).setCell (p:=⟨g,o+n*2+1,none⟩) (.inl rfl) (.slice ao l.length lc);have K2:aa (jt q b nv) w (wr.setCell ⟨g,o+n*2+1,none⟩ (.slice ao l.length lc)):=I.K.setCell (p:=⟨g,o+n*2+1,none⟩) (by
  rcases I.o1 g hgo with h1 | h1
  ·exact .inl (.inr (.inr h1))
  ·exact .inr h1) _
 obtain ⟨cs,hs,hr⟩:=I.V.hn;have hgq:¬ q=g:=fun e=>by
  obtain ⟨_,c,hc⟩:=hs.own hgo;exact I.V.hq.ne hc (by decide) e
 have hgb:¬ b=g:=fun e=>by
  obtain ⟨_,c,hc⟩:=hs.own hgo;exact I.V.hm.ne hc (by decide) e
 obtain ⟨ao',cap',e1,hrd,hcm,hnc⟩:=I.L.rd;cases e1;have hlF:∀ k,ak (.slice ao l.length lc) k→¬ k=g:=fun k hk e=>by
  subst e;exact (hne _ hk).1 (.inr (.inr hgo))
 refine ⟨.slice (some ⟨g,o,none⟩) s.2.length cap,fun k=>F' k∨ak (.slice ao l.length lc) k,⟨setk.aq I.V.hq hgq,I.V.hw.ab setk (fun j hj e=>?_),I.V.hm.ab setk hgb,?_,by simp [I.V.hl],fun j hj=>?_,fun j hj=>hj.elim (I.V.hO j) (fun h=>(hne j h).2)⟩,K2,I.o1,fun j hj=>?_⟩
 ·subst e;exact I.V.eO hj (.inr (.inr hgo))
 ·have hsl:(s.2.set n (kd,l)).length=s.2.length:=by simp
  refine ⟨cs.set (n*2+1) (.slice ao l.length lc),?_,?_⟩
  ·rw [hsl];exact hs.set (j:=n*2+1) (by omega)
  ·have hr':cy 2 (fR (wr.setCell ⟨g,o+n*2+1,none⟩ (.slice ao l.length lc)) (fun k=>F' k∨ak (.slice ao l.length lc) k)) s.2 cs:=
    hr.mono (fun a _ r h1=>(h1.ab setk (fun j hj _ e=>by subst e;exact (I.V.hF j hj).2 (.inr (.inr hgo)))).more (fun j hj=>.inl hj))
   refine cy.setCell hlt (by decide) hr' (fun r h2 h3=>?_);have e2:s.2[n]=(kd,[]):=by rw [Le hlt] at hn;exact Option.some.inj hn
   rw [e2] at h3;obtain ⟨_,_,rfl,-⟩:=h3;refine ⟨ao,lc,rfl,hrd.ab setk (fun a ha _ e=>?_),fun a ha=>.inr ?_,hcm⟩
   ·subst ha;exact hlF a.block rfl e
   ·subst ha;rfl
 ·rcases hj with hj | hj
  ·exact ⟨Nat.lt_of_lt_of_le (I.V.hF j hj).1 setk.size,(I.V.hF j hj).2⟩
  ·exact ⟨Nat.lt_of_lt_of_le (I.L.own hj).1 setk.size,(hne j hj).1⟩
 ·rcases hj with hj | hj
  ·exact I.o2 j hj
  ·exact .inr (I.o3 j hj).1
end
end
section
open Go.RowKit
section
variable {w w':World} {h:dj} {W:Wd} {q b:Nat} {rv nv:Value} {F:Nat→Prop} {s:VS}
theorem dq.seen (V:dq w q h W b rv nv F s) {i:Nat} (hi:i<W.T.length):w.cell? ⟨b,i,none⟩=some (.int .i64 (if (i:Int) ∈ s.1 then ((s.1.idxOf (i:Int):Nat):Int)+1 else 0)):=(V.hm.cell i).trans (nB hi)
theorem dq.cells (V:dq w q h W b rv nv F s):w.cell? ⟨q,0,none⟩=some (.pointer (some ⟨h.p,0,none⟩))∧w.cell? ⟨q,1,none⟩=some (.slice (some ⟨b,0,none⟩) W.T.length W.T.length)∧w.cell? ⟨q,2,none⟩=some rv∧w.cell? ⟨q,3,none⟩=some nv∧q<w.heap.size:=
 ⟨V.hq.cell 0,V.hq.cell 1,V.hq.cell 2,V.hq.cell 3,V.hq.lt⟩
theorem re (v:Vl) (n:Nat) (V:dq w q h W b rv nv F s) (hv:v.1=3→W.live v.2) (hm:v.1=3→v.2 ∈ s.1) (hl:s.1.length≤1000000) :
  Calls Tryz.prog 172 #[.pointer (some ⟨q,0,none⟩), .agg #[.int .i64 v.1, .int .i64 v.2]] w fun e w'=>rG w q h W b rv nv F (valM W.gr n v s) e w':=by
 have HV:=Hz V;obtain ⟨kd,x⟩:=v;dsimp only at hv hm ⊢;have ka:=(Kz w).alloc (.cells #[.int .i64 kd, .int .i64 x] 96);have ax:aj (w.alloc (.cells #[.int .i64 kd, .int .i64 x] 96)) w.heap.size [.int .i64 kd, .int .i64 x] 96:=aj.newAt _ rfl rfl;have ka2:=ka.alloc (.cells #[.int .i64 0, .int .i64 0] 96);have bH:aj ((w.alloc (.cells #[.int .i64 kd, .int .i64 x] 96)).alloc (.cells #[.int .i64 0, .int .i64 0] 96)) (w.heap.size+1) [.int .i64 0, .int .i64 0] 96:=aj.newAt _ (by simp) rfl;have B1:=Hz (ax.alloc (.cells #[.int .i64 0, .int .i64 0] 96));have B2:=Hz bH;have V1:=Hz (V.same ka2);have KA:=Hz ka2;clear ka ax bH ka2 V;go_enter Tryz.func172,Tryz.ntmps172;go_upto_region 1 with fail
 generalize (w.alloc (.cells #[.int .i64 kd, .int .i64 x] 96)).alloc (.cells #[.int .i64 0, .int .i64 0] 96)=w1 at *;obtain ⟨sb,hsb⟩:∃ k,w.heap.size=k:=⟨_,rfl⟩;rw [hsb] at B1 B2;rw [hsb];have HSB:=Hz hsb;clear hsb;have s0:=B1.out.cell 0;have s1:=B1.out.cell 1;have sl:=B1.out.lt;have l0:=B2.out.cell 0;have l1:=B2.out.cell 1;have ll:=B2.out.lt;have f0:=B2.out.free 0;have f1:=B2.out.free 1;simp only [Lz,aC] at s0 s1 l0 l1;have FIN:=Hz (fun (wz:World) (k:aa (·=sb+1) w1 wz)=>(show nC w q h W b rv nv F s wz from by
  have ho:∀ j,h.Own j→j<w.heap.size:=fun j hj=>HV.out.hw.a5 hj;have V2:=V1.out.ab k (fun j hj e=>by have:=HV.out.lt hj;rw [HSB.out] at this;omega) (fun j hj e=>by have:=ho j hj;rw [HSB.out] at this;omega) (fun j hj e=>by have:=(HV.out.hF j hj).1;rw [HSB.out] at this;omega)
  exact ⟨nv,F,V2,(KA.out.mono (fun _ _ h=>h.elim)).then k (fun j hj=>.inr (by rw [HSB.out];omega)),fun j hj=>.inl hj,fun j hj=>.inl hj⟩))
 by_cases h3:kd=3
 case neg=>
  have HE:=Hz (show valM W.gr n (kd,x) s=((kd,x),s) from dB W.gr n s h3);have e3:(kd != 3)=true:=by simpa using h3
  clear h3;go_wp2_with (refine bZ rfl 96 (.tmp 3) rfl (by kernel_rfl) sb 0 rfl _ _ s0 s1 ?_);have bH:=(B2.out.aG 0 (.int .i64 kd)).aG 1 (.int .i64 x);have x0:=bH.cell 0;have x1:=bH.cell 1;simp only [List.set_cons_zero,List.set_cons_succ,Lz,aC] at x0 x1;refine bodyPost_ret (v:=.agg #[.int .i64 kd, .int .i64 x]) (by simp [results,Tryz.results172,go_sem,x0,x1]) rfl ?_;refine ⟨by rw [HE.out],?_⟩;rw [HE.out];exact FIN.out _ (((aa.refl (·=sb+1) w1).setCell (p:=⟨sb+1,0,none⟩) (.inl rfl) _).setCell (p:=⟨sb+1,1,none⟩) (.inl rfl) _)
 subst h3;have HM:=Hz (hm rfl);have hlv:=hv rfl;obtain ⟨x,rfl⟩:=Int.eq_ofNat_of_zero_le hlv.1;have HE:=Hz (show valM W.gr n (3,(x:Int)) s=(gY (s.1.idxOf (x:Int)),s) from fL W.gr n rfl HM.out);have hxl:x<W.T.length:=by have:=hlv.2.1;omega
 have hxi:(x:Int)<W.T.length:=hlv.2.1;have hx0:=V1.out.seen hxl;rw [if_pos HM.out] at hx0;have hil:s.1.idxOf (x:Int)≤1000000:=by have:=List.idxOf_le_length (l:=s.1) (a:=(x:Int));omega
 obtain ⟨-,q1,-,-,ql⟩:=V1.out.cells;have hbl:=V1.out.hm.lt;clear hm hv hlv;generalize s.1.idxOf (x:Int)=ix at *;have hne:(((ix:Int)+1) == 0)=false:=by simp;omega
 have hwr:IntKind.i64.wrap (ix:Int)=(ix:Int):=IntWalk.i64_in _ (by omega);go_wp2_with fail;refine a8 (.free 0 (.free 1 (.free 2 (.free 4 (.pure 3 (.pure 5 (.free 6 (.pure 7 (.free 8 (.fin)))))))))) [] (Fz q1 (Fz s1 (Fa hx0))) ?_
 iterate 9 refine Wz ?_
 refine av ?_;go_wp2_with fail;refine a8 (.free 0 (.free 1 (.free 2 (.free 4 (.pure 3 (.pure 5 (.free 6 (.pure 7 (.free 8 (.free 9 (.run 10 (.swi [] (.fin))))))))))))) [10] (Fz q1 (Fz s1 (Fa hx0))) ?_
 iterate 10 refine Wz ?_
 refine aA rfl rfl rfl (fun K hK=>?_);unfold aw;go_simp;refine hK _ _ ?_;clear hK K;refine aB (fun _=>True) trivial (av ?_);go_wp2_with fail;have bH:=((B2.out.aG 0 (.int .i64 3)).aG 1 (.int .i64 ix)).drew.drew;have x0:=bH.cell 0;have x1:=bH.cell 1;simp only [List.set_cons_zero,List.set_cons_succ,Lz,aC] at x0 x1;refine bodyPost_ret (v:=.agg #[.int .i64 3, .int .i64 ix]) (by simp [results,Tryz.results172,go_sem,x0,x1]) rfl ?_;refine ⟨by rw [HE.out];rfl,?_⟩;rw [HE.out];exact FIN.out _ ((((aa.refl (·=sb+1) w1).setCell (p:=⟨sb+1,0,none⟩) (.inl rfl) _).setCell (p:=⟨sb+1,1,none⟩) (.inl rfl) _).drew.drew)
end
end
section
open Go.RowKit
section
variable {w w':World} {h:dj} {W:Wd} {q b:Nat} {rv nv:Value} {F:Nat→Prop} {s:VS}
def ud (h:dj) (W:Wd) (q b:Nat) (rv:Value) (n:Nat):Prop:=∀ (v:Vl) (nv:Value) (F:Nat→Prop) (s:VS) (w:World),dq w q h W b rv nv F s→(v.1=3→W.live v.2)→dA W.all s.1≤n→s.1.length+dA W.all s.1≤5000 →
 Calls Tryz.prog 172 #[.pointer (some ⟨q,0,none⟩), .agg #[.int .i64 v.1, .int .i64 v.2]] w fun e w'=>rG w q h W b rv nv F (valM W.gr n v s) e w'
theorem x4 {x:Int} {j:Nat} (hj:j<(W.th x).fs.length):(W.gr x).2[j]? = some ((W.th x).fs.getD j (0,0)):=by
 show ((W.th x).fs ++ _)[j]? = _
 rw [List.getElem?_append_left hj,Ld,Le hj];rfl
theorem zd {x:Int} {j:Nat} (hk:(W.th x).k=5) (h0:(W.th x).fs.length=0) (hj:j<(dS W.wait x).length):(W.gr x).2[j]? = some (3,(dS W.wait x).getD j 0):=by
 show ((W.th x).fs ++ (if (W.th x).k=5 then (dS W.wait x).map fun y=>((3,y):Vl) else []))[j]? = _
 rw [if_pos hk,List.length_eq_zero_iff.1 h0,List.nil_append,List.getElem?_map,Le hj,Ld,Le hj];rfl
theorem AH {x:Int}:(W.gr x).2.length=(W.th x).fs.length+if (W.th x).k=5 then (dS W.wait x).length else 0:=by
 show ((W.th x).fs ++ (if (W.th x).k=5 then (dS W.wait x).map fun y=>((3,y):Vl) else [])).length=_
 rw [List.length_append];split <;> simp
theorem AJ (n:Nat) (ih:ud h W q b rv n) (x:Nat) (nv:Value) (F:Nat→Prop) (s:VS) (w:World) (V:dq w q h W b rv nv F s) (hlv:W.live (x:Int)) (hm:¬ (x:Int) ∈ s.1) (hT:W.T.length≤100000)
  (hu:dA W.all s.1≤n+1) (hc:s.1.length+dA W.all s.1≤5000) :
  Calls Tryz.prog 176 #[.pointer (some ⟨q,0,none⟩), .int .i64 x] w fun e w'=>e=.returned (.tuple #[])∧nC w q h W b rv nv F (valM W.gr (n+1) (3,(x:Int)) s).2 w':=by
 have HV:=Hz V;have HLV:=Hz hlv;have HOK:=Hz V.hw.ok;have hx:=Wd.i7.2 hlv;have HNEW:=Hz (eJ W.gr n (v:=(3,(x:Int))) rfl hm);have HM:=Hz hm;have HX:=Hz hx;have hp:=kX hx hm;have HU:=Hz (show dA W.all (s.1 ++ [(x:Int)])≤n by omega);have HC:=Hz (show (s.1 ++ [(x:Int)]).length+dA W.all (s.1 ++ [(x:Int)])≤5000 by rw [List.length_append];simp;omega);have hl5:s.1.length≤5000:=by omega
 obtain ⟨ni,hi,hz0,hz1,hz2⟩:=eh rV;have Ni:=Hz hi;have Nz0:=Hz hz0;have Nz1:=Hz hz1;have Nz2:=Hz hz2;clear hi hz0 hz1 hz2;obtain ⟨vi,hi,hz0,hz1,hz2⟩:=eh jA;have Vi:=Hz hi;have Vz0:=Hz hz0;have Vz1:=Hz hz1;have Vz2:=Hz hz2;clear hi hz0 hz1 hz2;obtain ⟨cs,hsl,hcs⟩:=V.hn;obtain ⟨no,nc,rfl,-,hnm,-⟩:=hsl.rd;have HSL:=Hz hsl;have HCS:=Hz hcs;have HLL:=Hz V.hl;have hs5:s.2.length≤5000:=by rw [V.hl];exact hl5
 have hxl:x<W.T.length:=by have:=hlv.2.1;omega
 have hxi:(x:Int)<W.T.length:=hlv.2.1;have hx0:=V.seen hxl;rw [if_neg hm] at hx0;have hbf:=V.hm.free x;have hbl:=V.hm.lt;obtain ⟨c0,c1,-,c3,cl⟩:=V.cells;obtain ⟨gt,ot,ntc,fo,fc,etl,hgt,t0,t1,efv,hfs⟩:=V.hw.rowAt hlv;rw [Int.toNat_natCast] at t0 t1 efv;obtain ⟨p0,-⟩:=V.hw.cells;rw [etl] at p0;have pl:=V.hw.hp.lt;have hwr:IntKind.i64.wrap ((s.2.length:Int)+1)=(s.2.length:Int)+1:=IntWalk.i64_in _ (by omega);have HTV:=Hz etl;clear hm hp hu hc hsl hcs hnm hfs efv etl V hx hlv;go_enter Tryz.func176,Tryz.ntmps176;go_upto_region 2 with fail
 have hset:=HV.out.hm.aG x (.int .i64 ((s.2.length:Int)+1));rw [HV.out.hl,wG hxl HM.out,←HV.out.hl] at hset;have KM:=Hz ((aa.refl (·=b) w).setCell (p:=⟨b,x,none⟩) (.inl rfl) (.int .i64 ((s.2.length:Int)+1)));have HSEE:=Hz (show jg _ b W.T.length (s.1 ++ [(x:Int)]) from hset);have Wm:=Hz (HV.out.hw.ab KM.out (fun j hj e=>HV.out.eO hj (.inr (.inl e))));have HQM:=Hz (KM.out.aq HV.out.hq (fun e=>HV.out.hq.ne HV.out.hm (by decide) e));clear hset hx0 hbf hbl c0 c1 c3 cl t0 t1 p0 pl hgt hwr;generalize w.setCell ⟨b,x,none⟩ (.int .i64 ((s.2.length:Int)+1))=wm at *;have c0:=HQM.out.cell 0;have c3:=HQM.out.cell 3;have cl:=HQM.out.lt;simp only [Lz,aC] at c0 c3;obtain ⟨gt',ot',ntc',fo,fc,etl,hgt,t0,t1,efv,hfs⟩:=Wm.out.rowAt HLV.out;rw [HTV.out] at etl;cases etl;rw [Int.toNat_natCast] at t0 t1 efv;obtain ⟨p0,-⟩:=Wm.out.cells;rw [HTV.out] at p0;have pl:=Wm.out.hp.lt;have HFS:=Hz hfs;have HEF:=Hz efv;have hfl:=(bK (HOK.out.tk _ HLV.out)).2.2.2;have HFT:=Hz (HOK.out.tk _ HLV.out);have HFV:=Hz (fun j (hj:j<(W.th (x:Int)).fs.length)=>x4 (W:=W) (x:=(x:Int)) hj);have HLEN:=Hz (AH (W:=W) (x:=(x:Int)));have HWT:=Hz (fun j hk h0 hj=>zd (W:=W) (x:=(x:Int)) (j:=j) hk h0 hj);have HTVV:=Hz (HOK.out.tv _ HLV.out);clear efv hfs;go_upto_region 3 with fail
 obtain ⟨kd,hkd⟩:∃ k,(W.th (x:Int)).k=k:=⟨_,rfl⟩;have HKT:=Hz hkd;rw [hkd] at t0;clear hkd;refine a8 (.free 0 (.free 1 (.free 2 (.free 3 (.free 4 (.free 6 (.free 7 (.free 8 (.pure 5 (.pure 9 (.free 10 (.run 11 (.run 12 (.swi [16] (.free 13 (.free 14 (.free 15 (.run 16 (.swi [] (.fin)))))))))))))))))))) [12,13,14,15,16] (Fz c3 (Fa t0)) ?_
 iterate 11 refine Wz ?_
 refine aM rfl rfl (fun K hK=>?_);unfold aw;go_simp;have hka:aa (fun _=>False) wm ((wm.alloc (.cells #[.int .i64 kd, .slice none 0 0] 139)).drew):=((Kz wm).alloc (.cells #[.int .i64 kd, .slice none 0 0] 139)).drew;refine hK _ _ (fun _=>⟨(World.cell?_of_block (w:=wm) (a:=⟨q,3,none⟩) (hka.block _ cl (fun h=>h))).trans c3,(World.cell?_of_block (w:=wm) (a:=⟨gt,ot+x*4,none⟩) (hka.block _ hgt (fun h=>h))).trans t0⟩) ?_;clear hK K;refine aA rfl rfl rfl (fun K hK=>?_);refine dF (.tmp 39) (.tmp 45) 39 rfl 139 ni (.agg #[.int .i64 0, .slice none 0 0]) 2 32 Tryz.underlying39 Ni.out Nz0.out Nz1.out Nz2.out rfl (by decide) _ s.2.length cs rfl ((HSL.out.ab KM.out (fun j hj e=>by subst e;obtain ⟨_,c,hc⟩:=HSL.out.own hj;exact HV.out.hm.ne hc (by decide) rfl)).ab hka (fun _ _ h=>h)) ⟨wm.heap.size,0,none⟩ 1 1 [.int .i64 kd, .slice none 0 0] rfl rfl (bX wm 139 #[.int .i64 kd, .slice none 0 0]) (by intro u hu;simp at hu;rcases hu with rfl | rfl <;> rfl) (by unfold maxLen;omega) (by omega) ?_;intro v2 w2 hs2 hk2 ho2;refine hK _ _ ?_;clear hK K;have HT2:=Hz (HV.out.push (x:=(x:Int)) (kd:=kd) HSEE.out KM.out hka cs HCS.out hs2 hk2 ho2);have nq:¬ ak (.slice no s.2.length nc) q:=fun hq=>by obtain ⟨_,c,hc⟩:=HSL.out.own hq;exact HV.out.hq.ne hc (by decide) rfl
 have hq2:=hk2.aq (hka.aq HQM.out (fun h=>h)) nq;have x3:=hq2.cell 3;have xl:=hq2.lt;have xf:=hq2.free 3;simp only [Lz,aC] at x3;obtain ⟨vo2,vc2,rfl,-,-,-⟩:=hs2.rd;clear hs2 hk2 ho2 hka nq hq2 c3 c0 cl t0 t1 p0 pl hgt;refine aB (fun _=>True) trivial ?_
 iterate 3 refine Wz ?_
 refine aA rfl rfl rfl (fun K hK=>?_);unfold aw;go_simp;refine hK _ _ ?_;clear hK K;refine aB (fun _=>True) trivial (av ?_);clear x3 xl xf;have HI:=Hz (show ∃ nv1 F1,dr w q h W b rv (.slice no s.2.length nc) F (s.1 ++ [(x:Int)],s.2 ++ [(kd,[])]) (.slice none 0 0) [] (w2.setCell ⟨q,3,none⟩ (.slice vo2 (s.2.length+1) vc2)) nv1 F1 by
  obtain ⟨nv1,F1,V1,k1,p1,p2⟩:=HT2.out
  exact ⟨nv1,F1,V1,k1,p1,p2,Sl.nil _ _ _,fun k hk=>(ck hk).elim,fun k hk=>HV.out.hw.a5 hk⟩)
 clear HT2;generalize w2.setCell ⟨q,3,none⟩ (.slice vo2 (s.2.length+1) vc2)=w3 at *;have hkd:(W.gr (x:Int)).1=kd:=HKT.out;have HKP:=Hz (fun j=>uZ W.gr n (x:Int) s j HLL.out);have HUN:=Hz (fun j=>Bp (Wd.rS HOK.out) (n:=n) (s:=s) HX.out j HU.out HC.out);have HI0:=Hz (show ∃ nv1 F1,dr w q h W b rv (.slice no s.2.length nc) F (NS W.gr n (x:Int) s 0).2 (.slice none 0 0) (NS W.gr n (x:Int) s 0).1 w3 nv1 F1 by rw [uY,hkd];exact HI.out);have HKD:=Hz hkd;clear HI hkd;have ih':=Hz ih;obtain ⟨f,hff⟩:∃ f,(W.th (x:Int)).fs.length=f:=⟨_,rfl⟩;have HFF:=Hz hff;rw [hff] at HFV HLEN HEF hfl;rw [HKT.out] at HLEN;have ROW:=Hz (fun (wx:World) (G:aQ wx h W)=>(show gt<wx.heap.size∧wx.cell? ⟨gt,ot+x*4,none⟩=some (.int .i64 kd)∧wx.cell? ⟨gt,ot+x*4+1,none⟩=some (.slice fo f fc)∧Sl wx 96 2 (.slice fo f fc) f (aE (W.th (x:Int)).fs) from by
  obtain ⟨gt',ot',ntc',fo',fc',etl,hgt,t0,t1,efv,hfs⟩:=G.rowAt HLV.out;rw [HTV.out] at etl;cases etl;rw [Int.toNat_natCast] at t0 t1 efv;rw [HEF.out,hff] at efv;cases efv;rw [hff] at t1 hfs;rw [HKT.out] at t0
  exact ⟨hgt,t0,t1,hfs⟩))
 clear hff HFS;obtain ⟨hgt,t0,t1,-⟩:=ROW.out w3 HI0.out.choose_spec.choose_spec.V.hw;go_wp2_with fail;clear hgt t0 t1;go_loopw [6,55] (fun lv i wr=>∃ (j:Nat) (nv1:Value) (F1:Nat→Prop),j≤f∧i=.int .i64 j∧dr w q h W b rv (.slice no s.2.length nc) F (NS W.gr n (x:Int) s j).2 lv (NS W.gr n (x:Int) s j).1 wr nv1 F1) (fun _ i _=>f-(intOf i).toNat)
 case atStart=>
  obtain ⟨nv1,F1,hI⟩:=HI0.out;exact ⟨0,nv1,F1,Nat.zero_le _,rfl,hI⟩
 case round=>
  clear HI0;obtain ⟨j,nv1,F1,hj,rfl,hI⟩:=hrel;have HI:=Hz hI;by_cases hlt:j<f
  ·have HST:=Hz (oN W.gr n (x:Int) s (HFV.out j hlt));have hjl:=qt W.gr n (x:Int) s (j:=j) (by rw [HLEN.out];omega);have HJL:=Hz hjl;obtain ⟨hgt,-,-,hfs⟩:=ROW.out wr hI.V.hw;obtain ⟨_,_,e',hrd,-,-⟩:=hfs.rd;cases e';obtain ⟨gf,of,rfl,hgf,u0,u1⟩:=hrd.fP j (by rw [HFF.out];exact hlt);obtain ⟨lo,lc,rfl,-,-,-⟩:=hI.L.rd;rw [hjl] at HI ⊢;have hin:(W.th (x:Int)).fs.getD j (0,0) ∈ (W.th (x:Int)).fs:=by rw [Ld,Le (by rw [HFF.out];exact hlt)];exact List.getElem_mem _
   have HVL:=Hz (fun h3=>Wd.aY (HTVV.out _ hin) h3);clear hI hjl hfs hrd hin;generalize (W.th (x:Int)).fs.getD j (0,0)=v at *;have hji:(j:Int)<f:=by omega
   go_upto_region 8 with (refine bZ rfl 96 (.tmp 57) rfl (by kernel_rfl) gf (of+j*2) rfl _ _ u0 u1 ?_);have ka:=(Kz wr).alloc (.cells #[.int .i64 v.1, .int .i64 v.2] 96);have BV:=Hz (show aj (wr.alloc (.cells #[.int .i64 v.1, .int .i64 v.2] 96)) wr.heap.size _ 96 from aj.newAt _ rfl rfl);have HI1:=Hz (HI.out.same ka);clear ka u0 u1 hgf hgt HI;generalize wr.alloc (.cells #[.int .i64 v.1, .int .i64 v.2] 96)=wv at *;generalize wr.heap.size=vb at *;have c0:=BV.out.cell 0;have c1:=BV.out.cell 1;have cl:=BV.out.lt;simp only [Lz,aC] at c0 c1;go_wp2_with (refine bZ rfl 96 (.tmp 8) rfl (by kernel_rfl) vb 0 rfl _ _ c0 c1 ?_);refine (ih'.out v nv1 F1 _ _ HI1.out.V HVL.out (HUN.out j).1 (HUN.out j).2).mono ?_;rintro e w4 ⟨rfl,ht⟩;obtain ⟨nv2,F2,hI2⟩:=HI1.out.told ht;obtain ⟨⟨⟨r1,r2⟩,sr⟩,hr⟩:∃ t,valM W.gr n v (NS W.gr n (x:Int) s j).2=t:=⟨_,rfl⟩;rw [hr] at hI2 HST ⊢;dsimp only at hI2 HST ⊢;have HI2:=Hz hI2;have HL2:=Hz (show Sl w4 96 2 (.slice lo j lc) j (aE (NS W.gr n (x:Int) s j).1) by have:=hI2.L;rw [HJL.out] at this;exact this);clear hI2 ht c0 c1 cl hr HI1 BV;go_wp2_with (at_builtin;refine da rfl (.tmp 59) (.tmp 63) 38 rfl 96 vi (.agg #[.int .i64 0, .int .i64 0]) 2 16 Tryz.underlying38 Vi.out Vz0.out Vz1.out Vz2.out rfl (by decide) _ j (aE (NS W.gr n (x:Int) s j).1) rfl (HL2.out.ab ((Kz w4).alloc _) (fun _ _ h=>h)) ⟨(w4).heap.size,0,none⟩ 1 1 [.int .i64 r1, .int .i64 r2] rfl rfl (bX w4 96 #[.int .i64 r1, .int .i64 r2]) (by intro u hu;simp at hu;rcases hu with rfl | rfl <;> rfl) (by unfold maxLen;omega) (by omega) ?_);intro v6 w6 hs6 hk6 ho6;have HI5:=Hz (HI2.out.app (v:=(r1,r2)) ((Kz w4).alloc _) (by rw [HJL.out];exact hs6) hk6 (by simpa using ho6));clear hs6 hk6 ho6;go_wp2_with fail;go_roundw
   case rel=>exact ⟨j+1,nv2,F2,by omega,by go_num,by rw [HST.out];exact HI5.out⟩
   case measure=>simp [intOf];omega
  ·obtain rfl:j=f:=by omega
   clear hlt hj;obtain ⟨hgt,t0,t1,-⟩:=ROW.out wr hI.V.hw;by_cases hk5:kd=5
   ·subst hk5;have hj0:j=0:=by
     have:=HFT.out;rw [HKT.out,HFF.out] at this;simp [bm] at this;omega
    subst hj0;rw [if_pos rfl] at HLEN;have HGW:=Hz (fun (j:Nat) (hj:j<(dS W.wait (x:Int)).length)=>HWT.out j HKT.out HFF.out hj);have hwl:(dS W.wait (x:Int)).length≤24:=by have h1:=qn (x:Int) W.wait;have h2:=HOK.out.hq;unfold dS;unfold gD at h1;omega
    have hwl2:W.wait.length≤1000000:=by have h2:=HOK.out.hq;omega
    have c0:=hI.V.hq.cell 0;have cl:=hI.V.hq.lt;have pl:=hI.V.hw.hp.lt;simp only [Lz,aC] at c0;have HAT:=Hz (Cm h.p h.gv h.wv W.ah W.wait (x:Int) wr hI.V.hw.side hwl2);clear hI;go_wp2_with fail;refine HAT.out.mono ?_;rintro e w4 ⟨ao,ac,rfl,hs4,hk4,ho4⟩;have hI4:=HI.out.same hk4;have HI4:=Hz hI4;have HS4:=Hz hs4;have HO4:Hid (∀ k,ak (.slice ao (gD (x:Int) W.wait).length ac) k→wr.heap.size≤k):=fun k hk=>ho4 k hk;clear hs4 hk4 ho4 hI4 c0 cl pl HAT hgt t0 t1;have hLW:gD (x:Int) W.wait=dS W.wait (x:Int):=rfl;rw [hLW] at HS4 HO4 ⊢;have HRU:=Hz (show ∀ y ∈ dS W.wait (x:Int),W.live y from fun y hy=>by
     unfold dS at hy;obtain ⟨e,he,rfl⟩:=List.mem_map.1 hy
     exact (HOK.out.wv e (List.mem_filter.1 he).1).2.2)
    clear hLW;generalize dS W.wait (x:Int)=L at *;simp only [Nat.zero_add] at HLEN;go_wp2_with fail;go_loopw [6,80] (fun lv i wx=>∃ (j:Nat) (nv1:Value) (F1:Nat→Prop),j≤L.length∧i=.int .i64 j∧dr w q h W b rv (.slice no s.2.length nc) F (NS W.gr n (x:Int) s j).2 lv (NS W.gr n (x:Int) s j).1 wx nv1 F1∧Sl wx 2 1 (.slice ao L.length ac) L.length (L.map (Value.int .i64))) (fun _ i _=>L.length-(intOf i).toNat)
    case atStart=>
     exact ⟨0,nv1,F1,Nat.zero_le _,rfl,HI4.out,HS4.out⟩
    case round=>
     clear HI HI4 HS4 HO4;rename_i nv0 F0 _ _ _;obtain ⟨j,nv1,F1,hj,rfl,hI,hsr⟩:=hrel;have HI:=Hz hI;have HSR:=Hz hsr;obtain ⟨_,_,e',hrd,-,-⟩:=hsr.rd;cases e';clear hsr;by_cases hlt:j<L.length
     ·have HST:=Hz (oN W.gr n (x:Int) s (HGW.out j hlt));have hjl:=qt W.gr n (x:Int) s (j:=j) (by rw [HLEN.out];omega);have HJL:=Hz hjl;obtain ⟨lo,lc,rfl,-,-,-⟩:=hI.L.rd;rw [hjl] at HI ⊢;obtain ⟨gg,go,rfl,ggl,g0⟩:=hrd.int64 j hlt;have HLU:=Hz (HRU.out (L.getD j 0) (by rw [Ld,Le hlt];exact List.getElem_mem hlt));clear hI hjl hrd;generalize L.getD j 0=y at *;go_wp2_with fail;refine (ih'.out (3,y) nv1 F1 _ _ HI.out.V (fun _=>HLU.out) (HUN.out j).1 (HUN.out j).2).mono ?_;rintro e w5 ⟨rfl,ht⟩;have HSR5:=Hz (HSR.out.ab ht.choose_spec.choose_spec.2.1 (fun k hk=>by obtain ⟨_,c,hc⟩:=HSR.out.own hk;exact HI.out.V.kC hc (by decide) (by decide) (by decide)));obtain ⟨nv2,F2,hI2⟩:=HI.out.told ht;obtain ⟨⟨⟨r1,r2⟩,sr⟩,hr⟩:∃ t,valM W.gr n (3,y) (NS W.gr n (x:Int) s j).2=t:=⟨_,rfl⟩;rw [hr] at hI2 HST ⊢;dsimp only at hI2 HST ⊢;have HI2:=Hz hI2;have HL2:=Hz (show Sl w5 96 2 (.slice lo j lc) j (aE (NS W.gr n (x:Int) s j).1) by have:=hI2.L;rw [HJL.out] at this;exact this);clear hI2 ht g0 ggl hr;go_wp2_with (at_builtin;refine da rfl (.tmp 84) (.tmp 89) 38 rfl 96 vi (.agg #[.int .i64 0, .int .i64 0]) 2 16 Tryz.underlying38 Vi.out Vz0.out Vz1.out Vz2.out rfl (by decide) _ j (aE (NS W.gr n (x:Int) s j).1) rfl (HL2.out.ab ((Kz w5).alloc _) (fun _ _ h=>h)) ⟨(w5).heap.size,0,none⟩ 1 1 [.int .i64 r1, .int .i64 r2] rfl rfl (bX w5 96 #[.int .i64 r1, .int .i64 r2]) (by intro u hu;simp at hu;rcases hu with rfl | rfl <;> rfl) (by unfold maxLen;omega) (by omega) ?_);intro v6 w6 hs6 hk6 ho6;have HI5:=Hz (HI2.out.app (v:=(r1,r2)) ((Kz w5).alloc _) (by rw [HJL.out];exact hs6) hk6 (by simpa using ho6));have hka6:=(Kz w5).alloc (.cells #[.int .i64 r1, .int .i64 r2] 96);have HSR6:=Hz ((HSR5.out.ab hka6 (fun _ _ h=>h)).ab hk6 (fun k hk hk2=>by
       obtain ⟨_,c,hc⟩:=(HSR5.out.ab hka6 (fun _ _ h=>h)).own hk;obtain ⟨_,c',hc'⟩:=(HL2.out.ab hka6 (fun _ _ h=>h)).own hk2
       exact hc.ne hc' (by decide) rfl))
      clear hs6 hk6 ho6 hka6;go_wp2_with fail;go_roundw
      case rel=>exact ⟨j+1,nv2,F2,by omega,by go_num,by rw [HST.out];exact HI5.out,HSR6.out⟩
      case measure=>simp [intOf];omega
     ·obtain rfl:j=L.length:=by omega
      clear hlt hj;have HI9:=Hz hI;obtain ⟨cs9,hs9,hr9⟩:=hI.V.hn;have hlt9:s.1.length<(NS W.gr n (x:Int) s L.length).2.2.length:=(List.getElem?_eq_some_iff.1 (HKP.out L.length)).1;obtain ⟨g,o,cap9,cur,rfl,hb9,h91,h92,h93,h94⟩:=hs9.laid (by omega);have c3:=hI.V.hq.cell 3;have cl:=hI.V.hq.lt;have g1:=hb9.cell (o+s.2.length*2+1);have gl:=hb9.lt;have gf:=hb9.free (o+s.2.length*2+1);have hs9l:s.2.length<(NS W.gr n (x:Int) s L.length).2.2.length:=by rw [HLL.out];exact hlt9
      have hs9i:(s.2.length:Int)<((NS W.gr n (x:Int) s L.length).2.2.length:Int):=by omega
      obtain ⟨u9,hu9⟩:∃ u,cur[o+s.2.length*2+1]? = some u:=⟨_,Le (by omega)⟩;simp only [Lz,aC] at c3;rw [hu9] at g1;obtain ⟨lo9,lc9,rfl,-,-,-⟩:=hI.L.rd;have hs9m:(NS W.gr n (x:Int) s L.length).2.2.length≤cap9:=h91;clear hI hr9 hs9 hb9 h92 h93 h94 hlt9 h91 hu9;go_wp2_with fail;go_end0;have hd:=dr.done (kd:=5) (n:=s.1.length) rfl HI9.out rfl (by have hkp:=HKP.out L.length;rw [HKD.out] at hkp;exact hkp);refine ⟨rfl,?_⟩;rw [HNEW.out];have hfull:NS W.gr n (x:Int) s L.length=fldM (valM W.gr n) (W.gr (x:Int)).2 (s.1 ++ [(x:Int)],s.2 ++ [((W.gr (x:Int)).1,[])]):=by
       unfold NS;rw [List.take_of_length_le (by rw [HLEN.out];simp)]
      rw [←hfull,HKD.out];rw [←HLL.out] at hd ⊢;exact hd
   ·have hkb:(kd == 5)=false:=by simpa using hk5
    rw [if_neg hk5] at HLEN;clear hk5;have HI9:=Hz hI;obtain ⟨cs9,hs9,hr9⟩:=hI.V.hn;have hlt9:s.1.length<(NS W.gr n (x:Int) s j).2.2.length:=(List.getElem?_eq_some_iff.1 (HKP.out j)).1;obtain ⟨g,o,cap9,cur,rfl,hb9,h91,h92,h93,h94⟩:=hs9.laid (by omega);have c3:=hI.V.hq.cell 3;have cl:=hI.V.hq.lt;have g1:=hb9.cell (o+s.2.length*2+1);have gl:=hb9.lt;have gf:=hb9.free (o+s.2.length*2+1);have hs9l:s.2.length<(NS W.gr n (x:Int) s j).2.2.length:=by rw [HLL.out];exact hlt9
    have hs9i:(s.2.length:Int)<((NS W.gr n (x:Int) s j).2.2.length:Int):=by omega
    obtain ⟨u9,hu9⟩:∃ u,cur[o+s.2.length*2+1]? = some u:=⟨_,Le (by omega)⟩;simp only [Lz,aC] at c3;rw [hu9] at g1;obtain ⟨lo9,lc9,rfl,-,-,-⟩:=hI.L.rd;have hs9m:(NS W.gr n (x:Int) s j).2.2.length≤cap9:=h91;clear hI hr9 hs9 hb9 h92 h93 h94 hlt9 h91 hu9;go_wp2_with fail;go_end0;have hd:=dr.done (kd:=kd) (n:=s.1.length) rfl HI9.out rfl (by have hkp:=HKP.out j;rw [HKD.out] at hkp;exact hkp);refine ⟨rfl,?_⟩;rw [HNEW.out];have hfull:NS W.gr n (x:Int) s j=fldM (valM W.gr n) (W.gr (x:Int)).2 (s.1 ++ [(x:Int)],s.2 ++ [((W.gr (x:Int)).1,[])]):=by
     unfold NS;rw [List.take_of_length_le (by rw [HLEN.out];simp)]
    rw [←hfull,HKD.out];rw [←HLL.out] at hd ⊢;exact hd
end
end
section
open Go.RowKit
theorem ze {G:Gr} {n:Nat} {x:Int} {s:VS} (hm:¬ x ∈ s.1):x ∈ (valM G (n+1) (3,x) s).2.1∧(valM G (n+1) (3,x) s).2.1.idxOf x=s.1.length:=by
 rw [eJ G n (v:=(3,x)) rfl hm];dsimp only;obtain ⟨m,hm2⟩:=kY (kZ G n) (G x).2 (s.1 ++ [x],s.2 ++ [((G x).1,[])]);rw [hm2];dsimp only;refine ⟨by simp,?_⟩;rw [List.append_assoc,List.idxOf_append,if_neg hm];simp
section
variable {w w':World} {h:dj} {W:Wd} {q b:Nat} {rv nv:Value} {F:Nat→Prop} {s:VS}
theorem wH (n:Nat) (ih:ud h W q b rv n) (x:Nat) (V:dq w q h W b rv nv F s) (hlv:W.live (x:Int)) (hm:¬ (x:Int) ∈ s.1) (hT:W.T.length≤100000)
  (hu:dA W.all s.1≤n+1) (hc:s.1.length+dA W.all s.1≤5000) :
  Calls Tryz.prog 172 #[.pointer (some ⟨q,0,none⟩), .agg #[.int .i64 3, .int .i64 x]] w fun e w'=>rG w q h W b rv nv F (valM W.gr (n+1) (3,(x:Int)) s) e w':=by
 have HV:=Hz V;have ka:=(Kz w).alloc (.cells #[.int .i64 3, .int .i64 x] 96);have ax:aj (w.alloc (.cells #[.int .i64 3, .int .i64 x] 96)) w.heap.size [.int .i64 3, .int .i64 x] 96:=aj.newAt _ rfl rfl;have ka2:=ka.alloc (.cells #[.int .i64 0, .int .i64 0] 96);have bH:aj ((w.alloc (.cells #[.int .i64 3, .int .i64 x] 96)).alloc (.cells #[.int .i64 0, .int .i64 0] 96)) (w.heap.size+1) [.int .i64 0, .int .i64 0] 96:=aj.newAt _ (by simp) rfl;have B1:=Hz (ax.alloc (.cells #[.int .i64 0, .int .i64 0] 96));have B2:=Hz bH;have V1:=Hz (V.same ka2);have KA:=Hz ka2;have hz1:((w.alloc (.cells #[.int .i64 3, .int .i64 x] 96)).alloc (.cells #[.int .i64 0, .int .i64 0] 96)).heap.size=w.heap.size+2:=by simp
 have HE:=Hz (show (valM W.gr (n+1) (3,(x:Int)) s).1=gY s.1.length by rw [eJ W.gr n (v:=(3,(x:Int))) rfl hm]);have HMN:=Hz (ze (G:=W.gr) (n:=n) hm);have HND:=Hz (fun w' (V':dq w' q h W b rv nv F s)=>AJ n ih x nv F s w' V' hlv hm hT hu hc);have hxl:x<W.T.length:=by have:=hlv.2.1;omega
 have hxi:(x:Int)<W.T.length:=hlv.2.1;have hl5:s.1.length≤5000:=by omega
 have HM:=Hz hm;clear ka ax bH ka2 V hm hu hc ih hlv;go_enter Tryz.func172,Tryz.ntmps172;go_upto_region 1 with fail
 generalize (w.alloc (.cells #[.int .i64 3, .int .i64 x] 96)).alloc (.cells #[.int .i64 0, .int .i64 0] 96)=w1 at *;obtain ⟨sb,hsb⟩:∃ k,w.heap.size=k:=⟨_,rfl⟩;rw [hsb] at B1 B2 hz1;rw [hsb];have HSB:=Hz hsb;have HZ1:=Hz hz1;clear hsb hz1;have s0:=B1.out.cell 0;have s1:=B1.out.cell 1;have sl:=B1.out.lt;simp only [Lz,aC] at s0 s1;have hx0:=V1.out.seen hxl;rw [if_neg HM.out] at hx0;obtain ⟨-,q1,-,-,ql⟩:=V1.out.cells;have hbl:=V1.out.hm.lt;go_wp2_with fail;refine a8 (.free 0 (.free 1 (.free 2 (.free 4 (.pure 3 (.pure 5 (.free 6 (.pure 7 (.free 8 (.fin)))))))))) [] (Fz q1 (Fz s1 (Fa hx0))) ?_
 iterate 9 refine Wz ?_
 refine av ?_;go_wp2_with fail;refine (HND.out _ (V1.out.same (Kz w1).drew)).mono ?_;rintro e w2 ⟨rfl,ht⟩;obtain ⟨nv1,F1,V2,kk,p1,p2⟩:=ht;have V2:=Hz V2;have K2:=Hz kk;have P1:=Hz p1;have P2:=Hz p2;have fpn:∀ j,sb≤j→j<sb+2→¬ jt q b nv j:=fun j h1 h2 hj=>by have:=HV.out.lt hj;rw [HSB.out] at this;omega
 have C1:=Hz (kk.aq B1.out.drew (fpn sb (Nat.le_refl _) (by omega)));have C2:=Hz (kk.aq B2.out.drew (fpn (sb+1) (by omega) (by omega)));clear kk p1 p2 fpn s0 s1 sl q1 ql hbl hx0;have s1:=C1.out.cell 1;have sl:=C1.out.lt;have l0:=C2.out.cell 0;have l1:=C2.out.cell 1;have ll:=C2.out.lt;have f0:=C2.out.free 0;have f1:=C2.out.free 1;simp only [Lz,aC] at s1 l0 l1;have hx0:=V2.out.seen hxl;rw [if_pos HMN.out.1,HMN.out.2] at hx0;obtain ⟨-,q1,-,-,ql⟩:=V2.out.cells;have hbl:=V2.out.hm.lt;generalize hix:s.1.length=ix at *;have hwr:IntKind.i64.wrap (ix:Int)=(ix:Int):=IntWalk.i64_in _ (by omega);go_wp2_with fail;refine a8 (.free 0 (.free 1 (.free 2 (.free 4 (.pure 3 (.pure 5 (.free 6 (.pure 7 (.free 8 (.free 9 (.run 10 (.swi [] (.fin))))))))))))) [10] (Fz q1 (Fz s1 (Fa hx0))) ?_
 iterate 10 refine Wz ?_
 refine aA rfl rfl rfl (fun K hK=>?_);unfold aw;go_simp;refine hK _ _ ?_;clear hK K;refine aB (fun _=>True) trivial (av ?_);go_wp2_with fail;have bH:=((C2.out.aG 0 (.int .i64 3)).aG 1 (.int .i64 ix)).drew;have x0:=bH.cell 0;have x1:=bH.cell 1;simp only [List.set_cons_zero,List.set_cons_succ,Lz,aC] at x0 x1;refine bodyPost_ret (v:=.agg #[.int .i64 3, .int .i64 ix]) (by simp [results,Tryz.results172,go_sem,x0,x1]) rfl ?_;refine ⟨by rw [HE.out];rfl,?_⟩;have V2:=V2.out;have k2:=K2.out;have p1:=P1.out;have p2:=P2.out;have ke:=(((aa.refl (·=sb+1) w2).setCell (p:=⟨sb+1,0,none⟩) (.inl rfl) (.int .i64 3)).setCell (p:=⟨sb+1,1,none⟩) (.inl rfl) (.int .i64 ix)).drew;have hz:=HZ1.out;have hd1:w1.drew.heap.size=w1.heap.size:=rfl;refine ⟨nv1,F1,V2.ab ke (fun j hj e=>?_) (fun j hj e=>?_) (fun j hj e=>?_),((KA.out.drew.mono (fun _ _ h=>h.elim)).trans k2).then ke (fun j hj=>.inr (by rw [HSB.out];omega)),fun j hj=>?_,fun j hj=>?_⟩
 ·subst e;exact V2.kC C2.out (by decide) (by decide) (by decide) hj
 ·have:=HV.out.hw.a5 hj;rw [HSB.out] at this;omega
 ·subst e;rcases p2 _ hj with h1 | h1
  ·have:=(HV.out.hF _ h1).1;rw [HSB.out] at this;omega
  ·omega
 ·rcases p1 j hj with h1 | h1
  ·exact .inl h1
  ·exact .inr (by rw [HSB.out];omega)
 ·rcases p2 j hj with h1 | h1
  ·exact .inl h1
  ·exact .inr (by rw [HSB.out];omega)
theorem zh (hT:W.T.length≤100000):∀ n:Nat,n≤5000→ud h W q b rv n:=by
 intro n
 induction n with
 | zero=>
  intro _ v nv F s w V hv hu hc;exact re v 0 V hv (fun h3=>pD (Nat.le_zero.1 hu) (Wd.i7.2 (hv h3))) (by omega)
 | succ n ih=>
  intro hn v nv F s w V hv hu hc;by_cases hm:v.1=3→v.2 ∈ s.1
  ·exact re v (n+1) V hv hm (by omega)
  ·obtain ⟨h1,h2⟩:=Classical.not_imp.1 hm;obtain ⟨kd,x⟩:=v;dsimp only at h1 h2 hv ⊢;subst h1;have hl:=hv rfl;obtain ⟨x,rfl⟩:=Int.eq_ofNat_of_zero_le hl.1;exact wH n (ih (by omega)) x V hl h2 hT hu hc
end
end
section
open Go.RowKit
section
variable {w w':World} {h:dj} {W:Wd} {q b:Nat}
structure fY (w:World) (q:Nat) (h:dj) (W:Wd) (b:Nat) (wr:World) (rv nv:Value) (F:Nat→Prop) (s:VS) (l:List Vl):Prop where
 V:dq wr q h W b rv nv F s
 K:aa (fun _=>False) w wr
 o1:∀ k,ak nv k→w.heap.size≤k
 o2:∀ k,F k→w.heap.size<k
 L:Sl wr 96 2 rv l.length (aE l)
 o3:∀ k,ak rv k→w.heap.size≤k∧¬ F k
 oq:w.heap.size≤q
 ob:w.heap.size≤b
 B:aj wr w.heap.size [.slice none 0 0, .slice none 0 0] 41
 ol:∀ k,h.Own k→k<w.heap.size
theorem fY.mK {w wr:World} {rv nv:Value} {F:Nat→Prop} {s:VS} {l:List Vl} (I:fY w q h W b wr rv nv F s l) {k:Nat} (hk:ak rv k):¬ jt q b nv k∧¬ h.Own k:=by
 obtain ⟨_,c,hc⟩:=I.L.own hk;exact ⟨I.V.kC hc (by decide) (by decide) (by decide),fun h1=>by have:=I.ol k h1;have:=(I.o3 k hk).1;omega⟩
theorem fY.told {w wr w2:World} {rv nv:Value} {F:Nat→Prop} {s s2:VS} {l:List Vl} (I:fY w q h W b wr rv nv F s l) (t:nC wr q h W b rv nv F s2 w2):∃ nv2 F2,fY w q h W b w2 rv nv2 F2 s2 l:=by
 obtain ⟨nv2,F2,V2,k2,p1,p2⟩:=t;have hz:=I.K.size;refine ⟨nv2,F2,V2,I.K.then k2 (fun j hj=>?_),fun j hj=>?_,fun j hj=>?_,I.L.ab k2 (fun j hj=>(I.mK hj).1),fun j hj=>⟨(I.o3 j hj).1,fun hf=>?_⟩,I.oq,I.ob,k2.aq I.B (I.V.kC I.B (by decide) (by decide) (by decide)),I.ol⟩
 ·rcases hj with rfl | rfl | hj
  ·exact .inr I.oq
  ·exact .inr I.ob
  ·exact .inr (I.o1 j hj)
 ·rcases p1 j hj with h | h
  ·exact I.o1 j h
  ·omega
 ·have hbl:=I.B.lt;rcases p2 j hj with h | h
  ·exact I.o2 j h
  ·omega
 ·rcases p2 j hf with h | h
  ·exact (I.o3 j hj).2 h
  ·have:=(I.L.own hj).1;omega
theorem fY.same {w wr w2:World} {rv nv:Value} {F:Nat→Prop} {s:VS} {l:List Vl} (I:fY w q h W b wr rv nv F s l) (k:aa (fun _=>False) wr w2):fY w q h W b w2 rv nv F s l:=
 ⟨I.V.same k,I.K.trans k,I.o1,I.o2,I.L.ab k (fun _ _ h=>h),I.o3,I.oq,I.ob,k.aq I.B (fun h=>h),I.ol⟩
theorem fY.app {w wr wa w2:World} {rv nv v2:Value} {F:Nat→Prop} {s:VS} {l:List Vl} {v:Vl} (I:fY w q h W b wr rv nv F s l) (ka:aa (fun _=>False) wr wa)
  (hs:Sl w2 96 2 v2 (l.length+1) (aE l ++ [.int .i64 v.1, .int .i64 v.2])) (hk:aa (ak rv) wa w2) (ho:∀ k,ak v2 k→ak rv k∨wa.heap.size≤k):fY w q h W b (w2.setCell ⟨q,2,none⟩ v2) v2 nv F s (l ++ [v]):=by
 have k2:=(ka.mono (T:=ak rv) (fun _ _ h=>h.elim)).trans hk;have hz:=ka.size;have hz2:=I.K.size;have nq:∀ {v:Value} {wx:World} {n:Nat} {xs:List Value},Sl wx 96 2 v n xs→aj wx q [.pointer (some ⟨h.p,0,none⟩), .slice (some ⟨b,0,none⟩) W.T.length W.T.length,rv,nv] 212→¬ ak v q:=fun hs hq h=>by
  obtain ⟨_,c,hc⟩:=hs.own h;exact hc.ne hq (by decide) rfl
 have hq2:=k2.aq I.V.hq (nq I.L I.V.hq);have set:=(aa.refl (·=q) w2).setCell (p:=⟨q,2,none⟩) (.inl rfl) v2;have V2:=I.V.ab k2 (fun j hj hl=>(I.mK hl).1 hj) (fun j hj hl=>(I.mK hl).2 hj) (fun j hj hl=>(I.o3 j hl).2 hj);have sq:∀ j,ak v2 j→¬ j=q:=fun j hj e=>nq hs hq2 (e ▸ hj);have B2:=k2.aq I.B (fun hl=>by obtain ⟨_,c,hc⟩:=I.L.own hl;exact hc.ne I.B (by decide) rfl);refine ⟨⟨by simpa using hq2.aG 2 v2,V2.hw.ab set (fun j hj e=>by subst e;exact V2.eO hj (.inl rfl)),V2.hm.ab set (fun e=>V2.hm.ne V2.hq (by decide) e),V2.hn.ab set (fun j hj _ e=>(V2.hF j hj).2 (.inl e)) (fun j hj e=>?_),V2.hl,fun j hj=>⟨?_,(V2.hF j hj).2⟩,V2.hO⟩,
  (I.K.then k2 (fun j hj=>.inr (I.o3 j hj).1)).setCell (p:=⟨q,2,none⟩) (.inr I.oq) _,I.o1,I.o2,?_,fun j hj=>?_,I.oq,I.ob,set.aq B2 (B2.ne hq2 (by decide)),I.ol⟩
 ·obtain ⟨_,c,hc⟩:=V2.hn.own hj;exact hc.ne hq2 (by decide) e
 ·have:=(V2.hF j hj).1;have:=set.size;omega
 ·have e:aE (l ++ [v])=aE l ++ [.int .i64 v.1, .int .i64 v.2]:=by simp [aE]
  rw [e,List.length_append];exact hs.ab set sq
 ·rcases ho j hj with h1 | h1
  ·exact I.o3 j h1
  ·exact ⟨by omega,fun hf=>by have:=(I.V.hF j hf).1;omega⟩
theorem AL (w:World) (H:aQ w h W) (hT:W.T.length≤100000) :
  Calls Tryz.prog 156 #[.pointer (some ⟨h.p,0,none⟩)] w fun e w'=>rr w W.view e w':=by
 have HH:=Hz H;have HT:=Hz hT;obtain ⟨vi,hi,hz0,hz1,hz2⟩:=eh jA;have Vi:=Hz hi;have Vz0:=Hz hz0;have Vz1:=Hz hz1;have Vz2:=Hz hz2;clear hi hz0 hz1 hz2;obtain ⟨i0,hi,hz0,hz1,hz2⟩:=info_parts iK;have hmk:=fun (wx:World)=>dP (P:=Tryz.prog) wx 83 3 i0 (.int .i64 0) Tryz.underlying83 hi hz0 rfl hz1 W.T.length (by rw [hz2];omega) (by omega);clear hi hz0 hz1 hz2 i0;have HOK:=Hz H.ok;have h12:W.roots.length≤12:=by have:=H.ok.hr;omega
 obtain ⟨p0,-⟩:=H.cells;have pl:=H.hp.lt;obtain ⟨tno,tnc,etv⟩:=H.tv;rw [etv] at p0;clear H etv;go_enter Tryz.func156,Tryz.ntmps156;go_upto_region 2 with fail
 have k1:=(((Kz w).alloc (.cells #[.slice none 0 0, .slice none 0 0] 41)).alloc (.cells (Array.replicate W.T.length (.int .i64 0)) 3)).alloc (.cells #[.pointer (some ⟨h.p,0,none⟩), .slice (some ⟨w.heap.size+1,0,none⟩) W.T.length W.T.length, .slice none 0 0, .slice none 0 0] 212);have hb:aj (((w.alloc (.cells #[.slice none 0 0, .slice none 0 0] 41)).alloc (.cells (Array.replicate W.T.length (.int .i64 0)) 3)).alloc (.cells #[.pointer (some ⟨h.p,0,none⟩), .slice (some ⟨w.heap.size+1,0,none⟩) W.T.length W.T.length, .slice none 0 0, .slice none 0 0] 212)) w.heap.size [.slice none 0 0, .slice none 0 0] 41:=((aj.newAt _ rfl rfl).alloc _).alloc _;have hsn:jg (((w.alloc (.cells #[.slice none 0 0, .slice none 0 0] 41)).alloc (.cells (Array.replicate W.T.length (.int .i64 0)) 3)).alloc (.cells #[.pointer (some ⟨h.p,0,none⟩), .slice (some ⟨w.heap.size+1,0,none⟩) W.T.length W.T.length, .slice none 0 0, .slice none 0 0] 212)) (w.heap.size+1) W.T.length []:=by
  unfold jg;rw [xZ];exact (aj.newAt _ (by simp) (by simp)).alloc _
 have hv:dq (((w.alloc (.cells #[.slice none 0 0, .slice none 0 0] 41)).alloc (.cells (Array.replicate W.T.length (.int .i64 0)) 3)).alloc (.cells #[.pointer (some ⟨h.p,0,none⟩), .slice (some ⟨w.heap.size+1,0,none⟩) W.T.length W.T.length, .slice none 0 0, .slice none 0 0] 212)) (w.heap.size+1+1) h W (w.heap.size+1) (.slice none 0 0) (.slice none 0 0) (fun _=>False) ([],[]):=
  ⟨aj.newAt _ (by simp) rfl,HH.out.ab k1 (fun _ _ h=>h),hsn,dw.nil _ _,rfl,fun _ h=>h.elim,fun _ h=>h.elim⟩
 have HK1:=Hz k1;have HB:=Hz hb;have HVW:=Hz hv;clear k1 hb hsn hv hmk p0 pl;generalize ((w.alloc (.cells #[.slice none 0 0, .slice none 0 0] 41)).alloc (.cells (Array.replicate W.T.length (.int .i64 0)) 3)).alloc (.cells #[.pointer (some ⟨h.p,0,none⟩), .slice (some ⟨w.heap.size+1,0,none⟩) W.T.length W.T.length, .slice none 0 0, .slice none 0 0] 212)=w1 at *;obtain ⟨-,p1,-⟩:=HVW.out.hw.cells;have pl:=HVW.out.hw.hp.lt;obtain ⟨ro,rc,erv,-,-,-⟩:=HH.out.hr.rd;rw [erv] at p1;have HRV:=Hz erv;clear erv;go_wp2_with fail;have HI0:=Hz (show fY w (w.heap.size+1+1) h W (w.heap.size+1) w1 (.slice none 0 0) (.slice none 0 0) (fun _=>False) (TR W 0).2 (TR W 0).1 from
  ⟨HVW.out,HK1.out,fun _ h=>(ck h).elim,fun _ h=>h.elim,Sl.nil _ _ _,fun _ h=>(ck h).elim,by omega,by omega,HB.out,fun k hk=>HH.out.a5 hk⟩)
 clear HVW HB HK1 p1 pl;go_loopw [21] (fun i wr=>∃ (k:Nat) (rv nv:Value) (F:Nat→Prop),k≤W.roots.length∧i=.int .i64 k∧fY w (w.heap.size+1+1) h W (w.heap.size+1) wr rv nv F (TR W k).2 (TR W k).1) (fun i _=>W.roots.length-(intOf i).toNat)
 case atStart=>exact ⟨0,_,_,_,Nat.zero_le _,rfl,HI0.out⟩
 case round=>
  clear HI0;obtain ⟨k,rv,nv,F,hk,rfl,hI⟩:=hrel;have HI:=Hz hI;have hkl:=Bq (W:=W) (k:=k) hk;have HKL:=Hz hkl;by_cases hlt:k<W.roots.length
  ·have HST:=Hz (Ag (W:=W) (k:=k) hlt);have hm:W.roots.getD k (0,0) ∈ W.roots:=by rw [Ld,Le hlt];exact List.getElem_mem _
   have HLU:=Hz (fun h3=>Wd.aY (HOK.out.rv _ hm) h3);have hrr:Rd wr ro (aE W.roots):=by
    have:=hI.V.hw.hr;rw [HRV.out] at this;obtain ⟨_,_,e',rd,-,-⟩:=this.rd;cases e';exact rd
   obtain ⟨gg,go,rfl,ggl,u0,u1⟩:=hrr.fP k hlt;clear hI hkl hm hrr;generalize W.roots.getD k (0,0)=y at *;have hki:(k:Int)<W.roots.length:=by omega
   go_upto_region 5 with (refine bZ rfl 96 (.tmp 23) rfl (by kernel_rfl) gg (go+k*2) rfl _ _ u0 u1 ?_);have ka:=(Kz wr).alloc (.cells #[.int .i64 y.1, .int .i64 y.2] 96);have BV:=Hz (show aj (wr.alloc (.cells #[.int .i64 y.1, .int .i64 y.2] 96)) wr.heap.size _ 96 from aj.newAt _ rfl rfl);have HIa:=Hz (HI.out.same ka);clear ka u0 u1 ggl HI;generalize wr.alloc (.cells #[.int .i64 y.1, .int .i64 y.2] 96)=wa at *;generalize wr.heap.size=ba at *;have c0:=BV.out.cell 0;have c1:=BV.out.cell 1;have cl:=BV.out.lt;simp only [Lz,aC] at c0 c1;have HVC:=Hz (zh HT.out 5000 (Nat.le_refl _) y nv F _ _ HIa.out.V HLU.out (zy HOK.out k).1 (zy HOK.out k).2);go_wp2_with (refine bZ rfl 96 (.tmp 5) rfl (by kernel_rfl) ba 0 rfl _ _ c0 c1 ?_);refine HVC.out.mono ?_;rintro e w2 ⟨rfl,ht⟩;obtain ⟨nv2,F2,hI2⟩:=HIa.out.told ht;obtain ⟨⟨⟨r1,r2⟩,sr⟩,hr⟩:∃ t,valM W.gr 5000 y (TR W k).2=t:=⟨_,rfl⟩;rw [hr] at hI2 HST ⊢;dsimp only at hI2 HST ⊢;clear hr ht c0 c1 cl HVC BV;go_upto_region 6 with fail;have hka:=(Kz w2).alloc (.cells #[.int .i64 r1, .int .i64 r2] 96);have hI3:=hI2.same hka;have hvb:aj (w2.alloc (.cells #[.int .i64 r1, .int .i64 r2] 96)) w2.heap.size [.int .i64 r1, .int .i64 r2] 96:=aj.newAt _ rfl rfl;have HI3:=Hz hI3;obtain ⟨lo,lc,rfl,-,-,-⟩:=hI3.L.rd;rw [HKL.out] at HI3;have c2:=hI3.V.hq.cell 2;have cl:=hI3.V.hq.lt;have v0:=hvb.cell 0;have v1:=hvb.cell 1;have vl:=hvb.lt;simp only [Lz,aC] at c2 v0 v1;rw [HKL.out] at c2;have HL3:=Hz (show Sl (w2.alloc (.cells #[.int .i64 r1, .int .i64 r2] 96)) 96 2 (.slice lo k lc) k (aE (TR W k).1) by have:=HI3.out.L;rw [HKL.out] at this;exact this);clear hka hI3 hI2 hvb HIa;generalize w2.alloc (.cells #[.int .i64 r1, .int .i64 r2] 96)=wb at *;generalize w2.heap.size=bv at *;refine a8 (.free 0 (.free 1 (.free 2 (.free 3 (.free 4 (.pure 5 (.pure 6 (.run 7 (.run 8 (.swi [12] (.free 9 (.free 10 (.free 11 (.run 12 (.swi [] (.fin)))))))))))))))) [8,9,10,11,12] (Fz c2 (Fz v0 (Fa v1))) ?_
   iterate 7 refine Wz ?_
   refine aM rfl rfl (fun K hK=>?_);unfold aw;go_simp;have hkb:aa (fun _=>False) wb ((wb.drew).alloc (.cells #[.int .i64 r1, .int .i64 r2] 96)):=(Kz wb).drew.alloc (.cells #[.int .i64 r1, .int .i64 r2] 96);refine hK _ _ (fun hg=>?_) ?_
   ·refine ⟨?_,?_,?_⟩
    ·exact (World.cell?_of_block (w:=wb) (a:=⟨w.heap.size+1+1,2,none⟩) (hkb.block _ cl (fun h=>h))).trans c2
    ·exact (World.cell?_of_block (w:=wb) (a:=⟨bv,0,none⟩) (hkb.block _ vl (fun h=>h))).trans v0
    ·exact (World.cell?_of_block (w:=wb) (a:=⟨bv,1,none⟩) (hkb.block _ vl (fun h=>h))).trans v1
   clear hK K;refine aA rfl rfl rfl (fun K hK=>?_);refine dF (.tmp 33) (.tmp 35) 38 rfl 96 vi (.agg #[.int .i64 0, .int .i64 0]) 2 16 Tryz.underlying38 Vi.out Vz0.out Vz1.out Vz2.out rfl (by decide) _ k (aE (TR W k).1) rfl (HL3.out.ab hkb (fun _ _ h=>h)) ⟨wb.heap.size,0,none⟩ 1 1 [.int .i64 r1, .int .i64 r2] rfl rfl (bX wb.drew 96 #[.int .i64 r1, .int .i64 r2]) (by intro u hu;simp at hu;rcases hu with rfl | rfl <;> rfl) (by unfold maxLen;omega) (by omega) ?_;intro v3 w3 hs3 hk3 ho3;have HI4:=Hz (HI3.out.app (v:=(r1,r2)) hkb (by rw [HKL.out];exact hs3) hk3 ho3);have hp3:=hk3.aq (hkb.aq HI3.out.V.hq (fun h=>h)) (fun hv=>by obtain ⟨_,c',hc⟩:=(HL3.out.ab hkb (fun _ _ h=>h)).own hv;exact (hkb.aq HI3.out.V.hq (fun h=>h)).ne hc (by decide) rfl);have x0:=hp3.cell 2;have xf:=hp3.free 2;have xl:=hp3.lt;simp only [Lz,aC] at x0;obtain ⟨lo3,lc3,rfl,-,-,-⟩:=hs3.rd;refine hK _ _ ?_;clear hK K hkb hs3 hk3 ho3 hp3 c2 cl v0 v1 vl;refine aB (fun _=>True) trivial ?_
   iterate 3 refine Wz ?_
   refine aA rfl rfl rfl (fun K hK=>?_);unfold aw;go_simp;refine hK _ _ ?_;clear hK K;refine aB (fun _=>True) trivial (av ?_);clear x0 xf xl;go_wp2_with fail;go_roundw
   case rel=>exact ⟨k+1,_,nv2,F2,by omega,by go_num,by rw [HST.out];exact HI4.out⟩
   case measure=>simp [intOf];omega
  ·have hke:k=W.roots.length:=by omega
   subst hke;obtain ⟨lo,lc,rfl,hrr,-,-⟩:=hI.L.rd;obtain ⟨cs,hns,hnr⟩:=hI.V.hn;obtain ⟨no,nc,rfl,-,-,-⟩:=hns.rd;have c2:=hI.V.hq.cell 2;have c3:=hI.V.hq.cell 3;have cl:=hI.V.hq.lt;have b0:=hI.B.cell 0;have b1:=hI.B.cell 1;have bl:=hI.B.lt;have f0:=hI.B.free 0;have f1:=hI.B.free 1;simp only [Lz,aC] at c2 c3 b0 b1;have HVE:=Hz (show W.view=((TR W W.roots.length).1,(TR W W.roots.length).2.2) by
    unfold Wd.view ky TR deep
    rw [List.take_of_length_le (Nat.le_refl _)])
   clear hI hrr hns hnr hlt hk hkl;go_wp2_with (refine bZ rfl 41 (.tmp 43) rfl (by kernel_rfl) (w.heap.size+1+1) 2 rfl _ _ c2 c3 ?_);have dX:=(HI.out.B.aG 0 (.slice lo (TR W W.roots.length).1.length lc)).aG 1 (.slice no (TR W W.roots.length).2.2.length nc);have x0:=dX.cell 0;have x1:=dX.cell 1;simp only [List.set_cons_zero,List.set_cons_succ,Lz,aC] at x0 x1;refine bodyPost_ret (v:=.agg #[.slice lo (TR W W.roots.length).1.length lc, .slice no (TR W W.roots.length).2.2.length nc]) (by simp [results,Tryz.results156,go_sem,x0,x1]) rfl ?_;refine ⟨_,rfl,?_,(HI.out.K.setCell (p:=⟨w.heap.size,0,none⟩) (.inr (Nat.le_refl _)) _).setCell (p:=⟨w.heap.size,1,none⟩) (.inr (Nat.le_refl _)) _⟩;rw [HVE.out];have ke:=((aa.refl (·=w.heap.size) wr).setCell (p:=⟨w.heap.size,0,none⟩) (.inl rfl) (.slice lo (TR W W.roots.length).1.length lc)).setCell (p:=⟨w.heap.size,1,none⟩) (.inl rfl) (.slice no (TR W W.roots.length).2.2.length nc);have nF:∀ j,F j→¬ j=w.heap.size:=fun j hj e=>by
    have:=HI.out.o2 j hj;omega
   refine ⟨lo,lc,no,nc,F,rfl,HI.out.L.ab ke (fun j hj e=>?_),HI.out.V.hn.ab ke (fun j hj _=>nF j hj) (fun j hj e=>?_),fun j hj=>?_⟩
   ·subst e;obtain ⟨_,c,hc⟩:=HI.out.L.own hj;exact hc.ne HI.out.B (by decide) rfl
   ·subst e;obtain ⟨_,c,hc⟩:=HI.out.V.hn.own hj;exact hc.ne HI.out.B (by decide) rfl
   ·have hks:=ke.size;rcases hj with hj | hj | hj
    ·exact ⟨Nat.le_of_lt (HI.out.o2 j hj),by have:=(HI.out.V.hF j hj).1;omega⟩
    ·exact ⟨(HI.out.o3 j hj).1,by have:=(HI.out.L.own hj).1;omega⟩
    ·exact ⟨HI.out.o1 j hj,by have:=(HI.out.V.hn.own hj).1;omega⟩
end
end
end Go.Proofs.YtjifdalflepcoacGreat
