/-
  Parts of the proof, merged: what the functions do, and plain laws.
-/
import Derived.Test.YtjifdalflepcoadGreatTRPP15
set_option maxHeartbeats 16000000
set_option maxRecDepth 100000
set_option linter.unusedVariables false
set_option linter.unusedSimpArgs false
namespace Go.Proofs.YtjifdalflepcoadGreat
section
open Go.RowKit
section
variable {w w':World} {h:dj} {W:Wd}
theorem aR.D9 (H:aR w h W) {r:Nat} {kd:Int} {l:List Vl} {tv fu:Value} {cs:List Value}
  (hp:ak w' h.p [tv,h.rv,h.gv,h.wv, .int .i64 (W.aA+(1+(l.length:Int))), .int .i64 W.cD, .int .i64 W.most, .int .i64 W.grow] 86)
  (hR:∀ i,i<W.T.length->nU w (h.fv i) (W.T.getD i Th.none) cs[i*4]? cs[i*4+1]? cs[i*4+2]? cs[i*4+3]?) (hcl:cs.length=W.T.length*4)
  (hT:Sl w' 151 4 tv (W.T.length+1) (cs ++ [.int .i64 kd,fu, .bool false, .bool false]))
  (hr:Sl w' 77 2 h.rv W.roots.length (((aH W.roots).set (r*2) (.int .i64 3)).set (r*2+1) (.int .i64 W.T.length)))
  (hf:Sl w' 77 2 fu l.length (aH l)) (hfn:∀ b,aq fu b->w.heap.size<=b)
  (K:aa (λb=>aq h.rv b\/aq h.tv b\/b=h.p) w w') (hto:∀ b,aq tv b->aq h.tv b\/w.heap.size<=b) (hok:(W.put r kd l).ok):aT w h w' (W.put r kd l):=by
 have nF:∀ i b,aq (h.fv i) b->¬ (aq h.rv b\/aq h.tv b\/b=h.p):=λi b hb e=>by
  obtain ⟨_,⟨c,hc⟩,h3⟩:=H.af i b hb;rcases e with e | e | e
  ·exact h3 e
  ·obtain ⟨cs',hs',_⟩:=H.ht;obtain ⟨_,c',hc'⟩:=hs'.own e;exact hc.ne hc' (by decide) rfl
  ·exact hc.ne H.hp (by decide) e
 have nE:∀ {v:Value} {n:Nat} {xs:List Value},Sl w 119 2 v n xs->∀ b,aq v b->¬ (aq h.rv b\/aq h.tv b\/b=h.p):=λhs b hb e=>by
  obtain ⟨_,c,hc⟩:=hs.own hb;rcases e with e | e | e
  ·obtain ⟨_,c',hc'⟩:=H.hr.own e;exact hc.ne hc' (by decide) rfl
  ·obtain ⟨cs',hs',_⟩:=H.ht;obtain ⟨_,c',hc'⟩:=hs'.own e;exact hc.ne hc' (by decide) rfl
  ·exact hc.ne H.hp (by decide) e
 have el:(W.put r kd l).T.length=W.T.length+1:=by simp [Wd.put]
 have er:(W.put r kd l).roots=W.roots.set r (3,(W.T.length:Int)):=by simp [Wd.put,ij]
 have erl:(W.put r kd l).roots.length=W.roots.length:=by rw [er];simp
 have aK:∀ i k,aq (h.fv i) k->i≠W.T.length/\k<w.heap.size:=λi k hk=>⟨λe=>by have:=(H.fl i k hk).2.1;omega,(H.af i k hk).1⟩;refine ⟨⟨h.p,tv,h.rv,h.gv,h.wv,λj=>if j=W.T.length then fu else h.fv j⟩,⟨by rw [Wd.oG,Wd.ub];exact hp,⟨_,by rw [el];exact hT,λi hi=>?_⟩,by rw [erl,er,im];exact hr,H.hg.ab K (nE H.hg),H.hw.ab K (nE H.hw),H.ap,λi b hb=>?_,λi j k h1 h2=>?_,λi k hk=>?_,hok⟩,rfl,K.mono (λb _ e=>?_),λb hb=>?_⟩
 ·show nU w' (if i=W.T.length then fu else h.fv i) _ _ _ _ _
  have e2:(W.put r kd l).T=W.T ++ [⟨kd,l,false,false⟩]:=rfl;rw [el] at hi;rw [e2];by_cases e:i=W.T.length
  ·subst e;rw [if_pos rfl];have g:∀ j,j<4->(cs ++ [.int .i64 kd,fu, .bool false, .bool false])[W.T.length*4+j]? = [Value.int .i64 kd,fu, .bool false, .bool false][j]? := λj hj=>by
    rw [List.getElem?_append_right (by omega),hcl];congr 1;omega
   have g0:=g 0 (by decide);rw [Nat.add_zero] at g0;rw [g0,g 1 (by decide),g 2 (by decide),g 3 (by decide)];have et:(W.T ++ [(⟨kd,l,false,false⟩:Th)]).getD W.T.length Th.none=⟨kd,l,false,false⟩:=by
    rw [Ld,List.getElem?_append_right (Nat.le_refl _),Nat.sub_self];rfl
   rw [et];exact ⟨rfl,λ_=>rfl,λ_=>rfl,λ_=>rfl,λ_=>hf,kd,fu,false,rfl,rfl,rfl⟩
  ·rw [if_neg e];have hi':i<W.T.length:=by omega
   have et:(W.T ++ [(⟨kd,l,false,false⟩:Th)]).getD i Th.none=W.T.getD i Th.none:=by
    rw [Ld,List.getElem?_append_left hi',Ld]
   rw [et,List.getElem?_append_left (by omega),List.getElem?_append_left (by omega),List.getElem?_append_left (by omega),List.getElem?_append_left (by omega)];have hr':=hR i hi';exact ⟨hr'.d,hr'.k,hr'.f,hr'.o,λhd=>(hr'.s hd).ab K (nF i),hr'.c⟩
 ·dsimp only at hb;split at hb
  ·obtain ⟨h1,c,h2⟩:=hf.own hb;exact ⟨h1,⟨c,h2⟩,λe=>by have:=(H.hr.own e).1;have:=hfn b hb;omega⟩
  ·obtain ⟨h1,⟨c,h2⟩,h3⟩:=H.af i b hb;exact ⟨Zd h1 K.size,⟨c,K.au h2 (nF i b hb)⟩,h3⟩
 ·dsimp only at h1 h2;split at h1
  ·rename_i e1;split at h2
   ·rename_i e2;omega
   ·have:=(aK j k h2).2;have:=hfn k h1;omega
  ·split at h2
   ·have:=(aK i k h1).2;have:=hfn k h2;omega
   ·exact H.fi i j k h1 h2
 ·dsimp only at hk;split at hk
  ·rename_i e;subst e;exact ⟨by omega,by rw [el];omega,by rw [Wd.dt]⟩
  ·exact Wd.ik (H.fl i k hk)
 ·rcases e with e | e | e
  ·exact .inr (.inr (.inl e))
  ·exact .inr (.inl e)
  ·exact .inl e
 ·rcases hb with hb | hb | hb | hb | hb | ⟨i,hb⟩
  ·exact .inl (.inl hb)
  ·exact (hto b hb).imp (λh=>.inr (.inl h)) id
  ·exact .inl (.inr (.inr (.inl hb)))
  ·exact .inl (.inr (.inr (.inr (.inl hb))))
  ·exact .inl (.inr (.inr (.inr (.inr (.inl hb)))))
  ·dsimp only at hb;split at hb
   ·exact .inr (hfn b hb)
   ·exact .inl (.inr (.inr (.inr (.inr (.inr ⟨i,hb⟩)))))
theorem Cf (n:Int) (H:aR w h W) (hT:W.T.length<=100000) (h0:0<=n) (h1:n<=100) :
  Calls Tryz.prog 99 #[.pointer (some ⟨h.p,0,none⟩), .int .i64 n] w λe w'=>e=.returned (.int .i64 (W.room n).1)/\aT w h w' (W.room n).2:=by
 have hok:=H.ok;have g1:=hok.g1;have g2:=hok.g2;have uo:=hok.uo;have uy:=hok.uy;have m1:=hok.m1;have m2:=hok.m2;have y0:0<=W.aA:=iM _ _;have z0:0<=W.cD:=iM _ _;obtain ⟨-,-,-,-,p4,p5,p6,p7⟩:=H.cells;have pl:=H.hp.lt;have HH:=Hz H;have hw1:IntKind.i64.wrap (W.grow-W.cD)=W.grow-W.cD:=IntWalk.i64_in _ (by omega);have hw2:IntKind.i64.wrap (W.most-W.aA)=W.most-W.aA:=IntWalk.i64_in _ (by omega);clear H hok;go_enter Tryz.func99,Tryz.ntmps99;go_wp2_with fail;by_cases hn:n<=W.most-W.aA
 ·have HE:=Hz (show W.room n=(0,W) by unfold Wd.room;rw [if_neg (by omega)]);refine a6 (ftq [0,1,2,3,5,6,7] (.pure 4 (.pure 8 (.free 9 (.free 10 (.fin)))))) [] (Fz p4 (Fa p6)) ?_
  iterate 11 refine Wz ?_
  refine av ?_;go_wp2_with fail;go_ret;rw [HE.o];exact ⟨rfl,aT.same HH.o (aa.refl _ _).drew⟩
 ·have HE:=Hz (show W.room n=W.cut (decide (W.aA > W.grow-W.cD)) by unfold Wd.room;rw [if_pos (by omega)]);obtain ⟨mj,hmj⟩:∃ b,decide (W.aA > W.grow-W.cD)=b:=⟨_,rfl⟩;rw [hmj] at HE;have hdm:decide (W.grow-W.cD<W.aA)=mj:=by simpa using hmj
  clear hmj;have hn2:W.most-W.aA<n:=by omega
  refine a6 (ftq [0,1,2,3,5,6,7] (.pure 4 (.pure 8 (.free 9 (.free 10 (.fin)))))) [] (Fz p4 (Fa p6)) ?_
  iterate 11 refine Wz ?_
  refine av ?_;go_wp2_with fail;refine a6 (ftq [0,1,2,3,5,6,7,9,10,11] (ptq [4,8,12] (.free 13 (.free 14 (.run 15 (.swi [] (.free 16 (.fin)))))))) [15,16] (Fz p4 (Fz p5 (Fa p7))) ?_
  iterate 15 refine Wz ?_
  refine aD rfl rfl rfl (λK hK=>?_);unfold ax;go_simp;refine (vg mj (HH.o.same (((Kz w).drew).drew)) hT).mono ?_;rintro e w2 ⟨rfl,hto⟩;have TO:=Hz (aT.aL (((Kz w).drew).drew) hto);clear hto;refine hK _ _ ?_;clear hK K;refine aC (λ_=>True) trivial ?_;refine Wz ?_;refine av ?_;go_wp2_with fail;go_ret;rw [HE.o];exact ⟨rfl,TO.o⟩
end
end
section
open Go.RowKit
theorem vM:(Tryz.prog.info? 151).map (λi=>(i.zero,i.size,i.bytes))=some (some (.agg #[.int .i64 0, .slice none 0 0, .bool false, .bool false]),4,40):=by kernel_rfl
theorem Wd.yZ {W:Wd} {n:Int} (h:(W.room n).1≠0):(W.room n).2=W:=by
 unfold Wd.room at h ⊢;split
 ·rename_i hc;rw [if_pos hc] at h;exact Wd.zD h
 ·rfl
section
variable {w:World} {h:dj} {W:Wd}
theorem mP (r:Nat) (kd:Int) (l:List Nat) (ao:Option Addr) (cap:Nat) (H:aR w h W) (hT:W.T.length<=90000) (hr:r<12) (hl:∀ k ∈ l,k<12) (hf:bj kd l.length=true)
  (hs:Sl w 3 1 (.slice ao l.length cap) l.length (j6 l)) :
  Calls Tryz.prog 39 #[.pointer (some ⟨h.p,0,none⟩), .int .i64 r, .int .i64 kd, .slice ao l.length cap] w λe w'=>e=.returned (.int .i64 (W.bz r kd (l.map λ(k:Nat)=>(k:Int))).1)/\aT w h w' (W.bz r kd (l.map λ(k:Nat)=>(k:Int))).2:=by
 have HH:=Hz H;have HF:=Hz hf;have hl12:=(bL hf).2.2.2;have HLL:=Hz hl;have HS:=Hz hs;have hok:=H.ok;have HOK:=Hz hok;have g1:=hok.g1;have g2:=hok.g2;have uo:=hok.uo;have uy:=hok.uy;have m1:=hok.m1;have m2:=hok.m2;have HN:=Hz (show ∀ c,(W.room (1+(l.length:Int))).1=c->c≠0->W.bz r kd (l.map λ(k:Nat)=>(k:Int))=(c,W) from λc hc h0=>by
  unfold Wd.bz
  rw [Zp,if_neg (by rw [hc];exact h0),hc])
 have HY:=Hz (show (W.room (1+(l.length:Int))).1=0->W.bz r kd (l.map λ(k:Nat)=>(k:Int))=(0,(W.room (1+(l.length:Int))).2.put r kd ((l.map λ(k:Nat)=>(k:Int)).map (W.room (1+(l.length:Int))).2.rt)) from λh0=>by
  unfold Wd.bz
  rw [Zp,if_pos h0])
 have HRM:=Hz (Cf (1+(l.length:Int)) H (by omega) (by omega) (by omega));clear H hf hl hs hok;go_enter Tryz.func39,Tryz.ntmps39;go_wp2_with fail;refine HRM.o.mono ?_;rintro e w1 ⟨rfl,hto⟩;have TO:=Hz hto;clear hto HRM;by_cases h0:(W.room (1+(l.length:Int))).1=0
 case neg=>
  have HE:=Hz (HN.o _ rfl h0);have HC:=Hz (Wd.yZ h0);have hd2:((W.room (1+(l.length:Int))).1 != 0)=true:=by simpa using h0
  clear h0;generalize (W.room (1+(l.length:Int))).1=cc at *;go_wp2_with fail;go_ret;exact ⟨by rw [HE.o];rfl,by rw [HE.o];have:=TO.o;rw [HC.o] at this;exact this⟩
 obtain ⟨h2,H2,ep,hk2,ho2⟩:=TO.o;have HE:=Hz (show W.bz r kd (l.map λ(k:Nat)=>(k:Int))=(0,(W.room (1+(l.length:Int))).2.put r kd (l.map λ(j:Nat)=>(W.room (1+(l.length:Int))).2.rt (j:Int))) by rw [HY.o h0,List.map_map];rfl);have HRO:=Hz (Wd.ok.room HOK.o (1+l.length) (by omega));have hrm:=HRO.o.2 h0;have hTl:(W.room (1+(l.length:Int))).2.T.length<=90000:=by rw [Wd.ur];exact hT
 have HPK:=Hz (HRO.o.1.put (r:=r) (k:=kd) (l:=l.map λ(j:Nat)=>(W.room (1+(l.length:Int))).2.rt (j:Int)) (by rw [Zp];exact HF.o) (λv hv=>by
  obtain ⟨j,hj,rfl⟩:=Zi.1 hv
  exact Wd.g8 H2.ok (j:Int)) (by rw [Zp];exact hrm))
 have S2:=Hz (HS.o.ab hk2 (λb hb e=>by
  obtain ⟨_,c,hc⟩:=HS.o.own hb;obtain ⟨_,c',T,hc',hT⟩:=HH.o.bE e;refine hc.ne hc' ?_ rfl
  rcases hT with rfl | rfl | rfl | rfl <;> decide))
 have K2:=Hz hk2;have O2:=Hz ho2;have H2:=Hz H2;rw [h0];rw [<-ep];have EP:=Hz ep;clear hk2 ho2 h0 HN HY HRO TO ep hrm;generalize (W.room (1+(l.length:Int))).2=W2 at *;obtain ⟨iv,hi,hz0,hz1,hz2⟩:=dJ jJ;have Vi:=Hz hi;have Vz0:=Hz hz0;have Vz1:=Hz hz1;have Vz2:=Hz hz2;clear hi hz0 hz1 hz2;obtain ⟨it,hi,hz0,hz1,hz2⟩:=dJ vM;have Ti:=Hz hi;have Tz0:=Hz hz0;have Tz1:=Hz hz1;have Tz2:=Hz hz2;clear hi hz0 hz1 hz2;go_wp2_with fail;generalize hwb:w1.alloc (.cells #[.int .i64 kd, .slice none 0 0, .bool false, .bool false] 151)=wb;have KB:=Hz (show aa (λ_=>False) w1 wb by rw [<-hwb];exact (aa.refl _ _).alloc _);have TB:=Hz (show ak wb w1.heap.size [.int .i64 kd, .slice none 0 0, .bool false, .bool false] 151 by rw [<-hwb];exact ak.newAt _ rfl rfl);have HB:=Hz (H2.o.same KB.o);have SB:=Hz (S2.o.ab KB.o (λ_ _ h=>h));have OB:=Hz (λb hb=>(H2.o.bE (k:=b) hb).1);have SO:=Hz (λb hb=>(S2.o.own (k:=b) hb).1);have ZB:=Hz (show wb.heap.size=w1.heap.size+1 by rw [<-hwb];simp);have ZK:=Hz K2.o.size;clear hwb;obtain ⟨tb,htb⟩:∃ n,w1.heap.size=n:=⟨_,rfl⟩;rw [htb] at TB OB SO ZB;rw [htb];have HTB:=Hz htb;clear htb;go_loopw [25] (λu wr=>∃ (k:Nat) (fo:Option Addr) (fc:Nat),k<=l.length/\u=.int .i64 k/\aa (·=tb) wb wr/\ak wr tb [.int .i64 kd, .slice fo k fc, .bool false, .bool false] 151/\Sl wr 77 2 (.slice fo k fc) k (aH ((l.take k).map λ(j:Nat)=>W2.rt (j:Int)))/\∀ b,aq (.slice fo k fc) b->tb+1<=b) (λu _=>l.length-(intOf u).toNat)
 case atStart=>exact ⟨0,none,0,Zc _,rfl,aa.refl _ _,TB.o,Sl.nil _ _ _,λb hb=>(b9 hb).elim⟩
 case round=>
  obtain ⟨k,fo,fc,hk,rfl,hK,hB,hS,hO⟩:=hrel;have KR:=Hz hK;have BR:=Hz hB;have FS:=Hz hS;have FO:=Hz hO;have HR:=Hz (HB.o.ab hK (λb hb e=>by have:=OB.o b hb;omega));have SR:=Hz (SB.o.ab hK (λb hb e=>by have:=SO.o b hb;omega));have b1:=hB.cell 1;have bl:=hB.lt;have bf:=hB.free 1;simp only [Lz,aB] at b1;clear hK hB hS hO;by_cases hlt:k<l.length
  ·obtain ⟨_,_,e',rdl,-,-⟩:=SR.o.rd;cases e';obtain ⟨gl,ol,rfl,hgl,l0⟩:=rdl.DL k hlt;have hm:=HLL.o (l.getD k 0) (by rw [Ld,Le hlt];exact Ze _);have htk:((l.take (k+1)).map λ(j:Nat)=>W2.rt (j:Int))=((l.take k).map λ(j:Nat)=>W2.rt (j:Int)) ++ [W2.rt ((l.getD k 0:Nat):Int)]:=by
    rw [List.take_add_one,Le hlt,List.map_append,Ld,Le hlt];rfl
   generalize l.getD k 0=m at *;obtain ⟨g,o,rc,erv,hg,r0,r1⟩:=HR.o.root hm;have hrl:W2.roots.length=12:=HR.o.ok.hr;obtain ⟨-,c1,-⟩:=HR.o.cells;have pl:=HR.o.hp.lt;rw [erv,hrl] at c1;have HTK:=Hz htk;have hmi:(m:Int)<12:=by omega
   generalize W2.rt (m:Int)=v at *;obtain ⟨v1,v2⟩:=v;dsimp only at r0 r1;obtain ⟨L,hL⟩:∃ L,((l.take k).map λ(j:Nat)=>W2.rt (j:Int))=L:=⟨_,rfl⟩;rw [hL] at FS;have HT2:=Hz (show ((l.take (k+1)).map λ(j:Nat)=>W2.rt (j:Int))=L ++ [(v1,v2)] by rw [HTK.o,hL]);clear rdl htk HTK hL erv hrl;go_wp2_with fail;refine a6 (ftq [0,2,3,4,6] (.pure 1 (.pure 5 (.free 7 (.pure 8 (.run 9 (.run 10 (.swi [12] (.free 11 (.run 12 (.swi [] (.fin)))))))))))) [10,11,12] (Fz b1 (Fz c1 (Fz r0 (Fa r1)))) ?_
   iterate 9 refine Wz ?_
   refine aN rfl rfl (λK hK=>?_);unfold ax;go_simp;have hka:aa (λ_=>False) wr ((wr.alloc (.cells #[.int .i64 v1, .int .i64 v2] 77)).drew):=((Kz wr).alloc (.cells #[.int .i64 v1, .int .i64 v2] 77)).drew;have hcc:∀ (a:Nat) (q:Nat),a<wr.heap.size->((wr.alloc (.cells #[.int .i64 v1, .int .i64 v2] 77)).drew).cell? ⟨a,q,none⟩=wr.cell? ⟨a,q,none⟩:=λa q ha=>World.cell?_of_block (w:=wr) (a:=⟨a,q,none⟩) (hka.block a ha (λh=>h));refine hK _ _ (λhg'=>⟨(hcc _ _ bl).trans b1,(hcc _ _ pl).trans c1,(hcc _ _ hg).trans r0,(hcc _ _ hg).trans r1⟩) ?_;clear hK K hcc;refine aD rfl rfl rfl (λK hK=>?_);refine dN (.tmp 30) (.tmp 38) 28 rfl 77 iv (.agg #[.int .i64 0, .int .i64 0]) 2 16 Tryz.underlying28 Vi.o Vz0.o Vz1.o Vz2.o rfl (by decide) _ k (aH L) rfl (FS.o.ab hka (λ_ _ h=>h)) ⟨wr.heap.size,0,none⟩ 1 1 [.int .i64 v1, .int .i64 v2] rfl rfl (bV wr 77 #[.int .i64 v1, .int .i64 v2]) (by intro u hu;simp at hu;rcases hu with rfl | rfl <;> rfl) (by unfold maxLen;omega) (by omega) ?_;intro v2' w2 hs2 hk2 ho2;refine hK _ _ ?_;clear hK K;obtain ⟨ao2,ac2,rfl,-,-,-⟩:=hs2.rd;have hno:∀ b,aq (.slice fo k fc) b->b≠tb:=λb hb e=>by have:=FO.o b hb;omega
   have bG:=hk2.au (hka.au BR.o (λh=>h)) (λhb=>hno _ hb rfl);have KN:aa (·=tb) wb w2:=(KR.o.trans (hka.mono (λ_ _ h=>h.elim))).then hk2 (λj hj=>.inr (by have:=FO.o j hj;rw [ZB.o];exact this));have hoN:∀ b,aq (.slice ao2 (k+1) ac2) b->tb+1<=b:=λb hb=>by
    rcases ho2 b hb with h1 | h1
    ·exact FO.o b h1
    ·have:=BR.o.lt;first | omega | (simp at h1;omega)
   have x1:=bG.cell 1;have xl:=bG.lt;have xf:=bG.free 1;simp only [Lz,aB] at x1;have KN2:=Hz (KN.setCell (p:=⟨tb,1,none⟩) (.inl rfl) (.slice ao2 (k+1) ac2));have BN:=Hz (show ak (w2.setCell ⟨tb,1,none⟩ (.slice ao2 (k+1) ac2)) tb [.int .i64 kd, .slice ao2 (k+1) ac2, .bool false, .bool false] 151 by simpa using bG.aE 1 (.slice ao2 (k+1) ac2));have SN:=Hz (show Sl (w2.setCell ⟨tb,1,none⟩ (.slice ao2 (k+1) ac2)) 77 2 (.slice ao2 (k+1) ac2) (k+1) (aH (L ++ [(v1,v2)])) by
    have e2:aH (L ++ [(v1,v2)])=aH L ++ [.int .i64 v1, .int .i64 v2]:=by simp [aH]
    rw [e2]
    exact hs2.ab ((aa.refl (·=tb) w2).setCell (p:=⟨tb,1,none⟩) (.inl rfl) (.slice ao2 (k+1) ac2)) (λb hb e=>by have:=hoN b hb;omega))
   have ON:=Hz hoN;clear hs2 hk2 ho2 hka hno bG KN hoN b1 c1 l0 r0 r1 bl pl bf;refine aC (λ_=>True) trivial ?_;refine Wz ?_;refine aD rfl rfl rfl (λK hK=>?_);unfold ax;go_simp;refine hK _ _ ?_;clear hK K;refine aC (λ_=>True) trivial (av ?_);clear x1 xl xf;go_wp2_with fail;go_roundw
   case rel=>exact ⟨k+1,ao2,ac2,hlt,by go_num,KN2.o,BN.o,by rw [HT2.o];exact SN.o,ON.o⟩
   case measure=>simp [intOf];omega
  ·obtain rfl:k=l.length:=by omega
   rw [List.take_length] at FS;have HLN:=Hz (show (l.map λ(j:Nat)=>W2.rt (j:Int)).length=l.length from Zp _);obtain ⟨g,o,rc,erv,hg,-,-⟩:=HR.o.root hr;have hrl:W2.roots.length=12:=HR.o.ok.hr;obtain ⟨no,nc,eth⟩:=HR.o.tv;obtain ⟨c0,c1,-⟩:=HR.o.cells;have pl:=HR.o.hp.lt;have hrs:=HR.o.hr;rw [erv,hrl] at c1 hrs;rw [eth] at c0;have RS:=Hz hrs;have ERV:=Hz erv;have HRL:=Hz hrl;have ETH:=Hz eth;clear erv hrl eth hrs;go_wp2_with fail;have h12:(r:Int)<12:=by omega
   have h12':¬ (12:Int)<=(r:Int):=by omega
   have h12n:¬ (12:Nat)<=r:=by omega
   refine a6 (ftq [0,1,2,4,5,6,7] (.pure 3 (.pure 8 (ftq [9,10,11] (.run 12 (.swi [] (.fin))))))) [12] (Fz c0 (Fa c1)) ?_
   iterate 12 refine Wz ?_
   refine aD rfl rfl rfl (λK hK=>?_);refine cx 77 (.tmp 53) (.tmp 52) rfl rfl g o 12 rc r (aH W2.roots) 77 (.int .i64 3) (.int .i64 W2.T.length) rfl rfl (RS.o.ab (Kz wr).drew (λ_ _ h=>h)) hr (by kernel_rfl) rfl rfl ?_;intro w3 hs3 hk3 hz3;refine hK _ _ ?_;clear hK K;refine aC (λ_=>True) trivial (av ?_);have hkw:aa (·=g) wr w3:=((Kz wr).drew.mono (λ_ _ h=>h.elim)).trans hk3;have KW:=Hz hkw;obtain ⟨_,cg,hcg⟩:=RS.o.own (k:=g) rfl;have ne:∀ {b:Nat} {c:List Value} {T:TypeId},ak wr b c T->T≠77->¬ b=g:=λhb hT e=>hb.ne hcg hT e;have HP3:=hkw.au HR.o.hp (ne HR.o.hp (by decide));have BR3:=hkw.au BR.o (ne BR.o (by decide));obtain ⟨cs,hsT1,hRT⟩:=H2.o.ht;have hsT:=(hsT1.ab KB.o (λ_ _ h=>h)).ab KR.o (λb hb e=>by have:=OB.o b (.inr (.inl hb));omega);have hsT3:=hsT.ab hkw (λb hb=>by obtain ⟨_,c,hc⟩:=hsT.own hb;exact ne hc (by decide));have hgo:aq h2.rv g:=by rw [ERV.o];rfl
   have hgt:=OB.o g (.inr (.inr (.inl hgo)));have FS3:=FS.o.ab hkw (λb hb e=>by have:=FO.o b hb;omega);rw [ETH.o] at hsT3;have c0:=HP3.cell 0;have pl:=HP3.lt;have t0:=BR3.cell 0;have t1:=BR3.cell 1;have t2:=BR3.cell 2;have t3:=BR3.cell 3;have bl:=BR3.lt;simp only [Lz,aB] at c0 t0 t1 t2 t3;rw [ETH.o] at c0;have RS3:=Hz hs3;have HP3:=Hz HP3;have BR3:=Hz BR3;have TS3:=Hz hsT3;have RT:=Hz hRT;have FS3:=Hz FS3;have TS:=Hz hsT;have GO:=Hz hgo;have HGT:=Hz hgt;clear hkw hcg ne hsT hsT3 hRT hs3 hk3 hz3 b1 bf c1 hg h12 h12' h12n hgo hgt;go_wp2_with fail;refine a6 (ftq [0,1,2,3] (.pure 4 (.pure 5 (.run 6 (.run 7 (.swi [10] (.free 8 (.free 9 (.run 10 (.swi [] (.fin))))))))))) [7,8,9,10] (Fz c0 (Fz t0 (Fz t1 (Fz t2 (Fa t3))))) ?_
   iterate 6 ((first | refine kJ rfl rfl λK hK=>?_ | refine kI rfl rfl λK hK=>?_ | refine j9 rfl rfl _ (λw' hG=>by obtain ⟨c0,t0,t1,t2,t3⟩:=hG;exact ov (cs:=[_,_,_,_]) rfl (by decide +kernel) rfl (ae (by assumption) (ae (by assumption) (ae (by assumption) (ae (by assumption) a9))))) (λK hK=>?_) | refine lU rfl rfl λK hK=>?_ | refine kK rfl rfl λK hK=>?_ | refine lT rfl rfl λK hK=>?_);go_simp;refine hK _ ?_;clear hK K)
   refine aN rfl rfl (λK hK=>?_);unfold ax;go_simp;have hka:aa (λ_=>False) w3 ((w3.alloc (.cells #[.int .i64 kd, .slice fo l.length fc, .bool false, .bool false] 151)).drew):=((Kz w3).alloc (.cells #[.int .i64 kd, .slice fo l.length fc, .bool false, .bool false] 151)).drew;refine hK _ _ (λhg=>⟨(hka.au HP3.o (λh=>h)).cell 0 |>.trans (by simp [ETH.o]),(hka.au BR3.o (λh=>h)).cell 0,(hka.au BR3.o (λh=>h)).cell 1,(hka.au BR3.o (λh=>h)).cell 2,(hka.au BR3.o (λh=>h)).cell 3⟩) ?_;clear hK K;refine aD rfl rfl rfl (λK hK=>?_);refine dN (.tmp 58) (.tmp 60) 81 rfl 151 it (.agg #[.int .i64 0, .slice none 0 0, .bool false, .bool false]) 4 40 Tryz.underlying81 Ti.o Tz0.o Tz1.o Tz2.o rfl (by decide) _ W2.T.length cs rfl (TS3.o.ab hka (λ_ _ h=>h)) ⟨w3.heap.size,0,none⟩ 1 1 [.int .i64 kd, .slice fo l.length fc, .bool false, .bool false] rfl rfl (bV w3 151 #[.int .i64 kd, .slice fo l.length fc, .bool false, .bool false]) (by intro u hu;simp at hu;rcases hu with rfl | rfl | rfl <;> rfl) (by unfold maxLen;omega) (by omega) ?_;intro v4 w4 hs4 hk4 ho4;refine hK _ _ ?_;clear hK K;obtain ⟨vo4,vc4,rfl,-,-,-⟩:=hs4.rd;have nTV:∀ {b:Nat} {c:List Value} {T:TypeId},ak w3 b c T->T≠151->¬ aq (.slice no W2.T.length nc) b:=λhb hT e=>by
    obtain ⟨_,c',hc'⟩:=TS3.o.own e;exact hb.ne hc' hT rfl
   have HP4:=Hz (hk4.au (hka.au HP3.o (λh=>h)) (nTV HP3.o (by decide)));have RS4:=Hz ((RS3.o.ab hka (λ_ _ h=>h)).ab hk4 (λb hb e=>by obtain ⟨_,c,hc⟩:=RS3.o.own hb;exact nTV hc (by decide) e));have FS4:=Hz ((FS3.o.ab hka (λ_ _ h=>h)).ab hk4 (λb hb e=>by obtain ⟨_,c,hc⟩:=FS3.o.own hb;exact nTV hc (by decide) e));have BR4:=Hz (hk4.au (hka.au BR3.o (λh=>h)) (λe=>by
    have:=OB.o tb (.inr (.inl (by rw [ETH.o];exact e)));omega))
   have TS4:=Hz hs4;have K13:=Hz (show aa (λb=>aq h2.rv b\/aq h2.tv b\/b=h2.p) w1 w3 from ((KB.o.mono (λ_ _ h=>h.elim)).then KR.o (λb hb=>.inr (by rw [HTB.o,hb];exact Zb _))).then KW.o (λb hb=>.inl (.inl (hb ▸ GO.o))));have K14:=Hz ((K13.o.then hka (λ_ h=>h.elim)).then hk4 (λb hb=>.inl (.inr (.inl (by rw [ETH.o];exact hb)))));have O4:=Hz (show ∀ b,aq (.slice vo4 (W2.T.length+1) vc4) b->aq h2.tv b\/w1.heap.size<=b from λb hb=>by
    rcases ho4 b hb with h1 | h1
    ·exact .inl (by rw [ETH.o];exact h1)
    ·have:=K13.o.size;exact .inr (by first | omega | (simp at h1;omega)))
   have x0:=HP4.o.cell 0;have xl:=HP4.o.lt;have xf:=HP4.o.free 0;simp only [Lz] at x0;clear hs4 hk4 ho4 hka c0 t0 t1 t2 t3 bl pl nTV;refine aC (λ_=>True) trivial ?_
   iterate 2 refine Wz ?_
   refine aD rfl rfl rfl (λK hK=>?_);unfold ax;go_simp;refine hK _ _ ?_;clear hK K;refine aC (λ_=>True) trivial (av ?_);have hset:=(aa.refl (·=h2.p) w4).setCell (p:=⟨h2.p,0,none⟩) (.inl rfl) (.slice vo4 (W2.T.length+1) vc4);have hnp:∀ {b:Nat} {c:List Value} {T:TypeId},ak w4 b c T->T≠86->¬ b=h2.p:=λhb hT=>hb.ne HP4.o hT;have kd0:=Kz (w4.setCell ⟨h2.p,0,none⟩ (.slice vo4 (W2.T.length+1) vc4));have HP5:=Hz (show ak (w4.setCell ⟨h2.p,0,none⟩ (.slice vo4 (W2.T.length+1) vc4)) h2.p _ _ from HP4.o.aE 0 (.slice vo4 (W2.T.length+1) vc4));have RS5:=Hz (RS4.o.ab hset (λb hb e=>by obtain ⟨_,c,hc⟩:=RS4.o.own hb;exact hnp hc (by decide) e));have FS5:=Hz (FS4.o.ab hset (λb hb e=>by obtain ⟨_,c,hc⟩:=FS4.o.own hb;exact hnp hc (by decide) e));have TS5:=Hz (TS4.o.ab hset (λb hb e=>by obtain ⟨_,c,hc⟩:=TS4.o.own hb;exact hnp hc (by decide) e));have BR5:=Hz (hset.au BR4.o (λe=>hnp BR4.o (by decide) e));have K15:=Hz (K14.o.then hset (λb hb=>.inl (.inr (.inr hb))));clear x0 xl xf hset hnp kd0 HP4 RS4 FS4 TS4 BR4 K14 HP3 RS3 FS3 TS3 BR3 RS SR;go_wp2_with fail;generalize w4.setCell ⟨h2.p,0,none⟩ (.slice vo4 (W2.T.length+1) vc4)=w5 at *;have p4:=HP5.o.cell 4;have pl:=HP5.o.lt;have f4:=HP5.o.free 4;have t1:=BR5.o.cell 1;have bl:=BR5.o.lt;simp only [Zu,Lz,aB] at p4 t1;have hy2:=HPK.o.uy;have hm2:=HPK.o.m2;rw [Wd.oG] at hy2;have hy0:0<=W2.aA:=iM _ _;have hmo:(W2.put r kd (l.map λ(j:Nat)=>W2.rt (j:Int))).most<=256:=hm2;have hyl:W2.aA<=256:=by omega
   have hwr:IntKind.i64.wrap (W2.aA+(1+(l.length:Int)))=W2.aA+(1+l.length):=IntWalk.i64_in _ (by omega);clear hy2 hm2 hmo;refine a6 (ftq [0,1,2] (.pure 3 (.run 4 (ftq [5,6,7] (.run 8 (.swi [] (.fin))))))) [8] (Fa p4) ?_
   iterate 4 refine Wz ?_
   refine aN rfl rfl (λK hK=>?_);unfold ax;go_simp;refine (uY (g:=tb) (o:=0) (n:=l.length) (fo:=fo) (fc:=fc) (w:=w5.drew) bl t1 (by omega)).mono ?_;rintro e w6 ⟨rfl,rfl⟩;refine hK _ _ (λh=>h) ?_;clear hK K
   iterate 3 refine Wz ?_
   refine aD rfl rfl rfl (λK hK=>?_);unfold ax;go_simp;refine hK _ _ ?_;clear hK K;refine aC (λ_=>True) trivial (av ?_);go_wp2_with fail;go_ret;refine ⟨by rw [HE.o];rfl,?_⟩;rw [HE.o];have hset:=((aa.refl (·=h2.p) w5).setCell (p:=⟨h2.p,4,none⟩) (.inl rfl) (.int .i64 (W2.aA+(1+(l.length:Int))))).drew;have hnp:∀ {b:Nat} {c:List Value} {T:TypeId},ak w5 b c T->T≠86->¬ b=h2.p:=λhb hT=>hb.ne HP5.o hT;have hlen:=HLN.o;have hput:=H2.o.D9 (w':=(w5.setCell ⟨h2.p,4,none⟩ (.int .i64 (W2.aA+(1+(l.length:Int))))).drew) (r:=r) (kd:=kd) (l:=(l.map λ(j:Nat)=>W2.rt (j:Int))) (tv:=.slice vo4 (W2.T.length+1) vc4) (fu:=.slice fo l.length fc) (cs:=cs)
    (by rw [hlen];simpa using (HP5.o.aE 4 (.int .i64 (W2.aA+(1+(l.length:Int))))).drew) RT.o TS.o.1 (TS5.o.ab hset (λb hb e=>by obtain ⟨_,c,hc⟩:=TS5.o.own hb;exact hnp hc (by decide) e))
    (by rw [ERV.o,HRL.o];exact RS5.o.ab hset (λb hb e=>by obtain ⟨_,c,hc⟩:=RS5.o.own hb;exact hnp hc (by decide) e)) (by rw [hlen];exact FS5.o.ab hset (λb hb e=>by obtain ⟨_,c,hc⟩:=FS5.o.own hb;exact hnp hc (by decide) e))
    (λb hb=>by have:=FO.o b hb;rw [HTB.o];omega) (K15.o.then hset (λb hb=>.inl (.inr (.inr hb)))) O4.o HPK.o
   exact aT.step EP.o K2.o O2.o hput
end
end
section
open Go.RowKit
def Ad (w:World) (n o:Int) (e:Ending) (w':World):Prop:=
 ∃ h:dj,e=.returned (.tuple #[.pointer (some ⟨h.p,0,none⟩), .agg #[.int .i64 0, .int .i64 0]])/\aR w' h (Wd.new n o)/\aa (λ_=>False) w w'/\∀ k,h.Own k->w.heap.size<=k
theorem Ae (n o:Int) (w:World) (h:Ar.fits n o=true) :
  Calls Tryz.prog 19 #[.int .i64 n, .int .i64 o] w λe w'=>Ad w n o e w':=by
 obtain ⟨i,hi,hz0,hz1,hz2⟩:=dJ jJ;obtain ⟨A,hA⟩:∃ A:Array Value,A=(aH (List.replicate 12 (0,0))).toArray:=⟨_,rfl⟩;have hmk:∀ w,(Instr.makeSlice 28 (.int .i64 12) (.int .i64 12)).run Tryz.prog w=.ok (.slice (some ⟨w.heap.size,0,none⟩) 12 12) (w.alloc (.cells A 77)):=λw=>by
  have:=run_make (P:=Tryz.prog) w 28 77 i _ Tryz.underlying28 hi hz0 .i64 .i64 12 12 (by decide) (by decide) (by rw [hz2];decide) (by decide);rw [this,hz1,hA,<-CA]
  rfl
 have HAA:=Hz hA;clear hA;have hno:16<=n/\n<=256/\0<=o/\o<=1024:=by simp [Ar.fits] at h;omega
 have HOK:=Hz (Wd.ki hno.1 hno.2.1 hno.2.2.1 hno.2.2.2);clear hi hz0 hz1 hz2 hno;go_enter Tryz.func19,Tryz.ntmps19;go_wp2_with fail;refine (uD n o _ h).mono ?_;rintro e w1 ⟨hh,rfl,-,k1,-⟩;have ay:ak w1 w.heap.size [.int .i64 0, .int .i64 0] 33:=k1.au (ak.newAt _ rfl rfl) (λh=>h);have ka0:=(Kz w).alloc (.cells #[.int .i64 0, .int .i64 0] 33);have HK:=Hz (ka0.trans k1);have HB:=Hz ay;clear k1 ay ka0;generalize hb0:w.heap.size=b0 at HB ⊢;have HSB:=Hz (Nat.le_of_eq hb0);have HB0:=Hz hb0.symm;clear hb0;go_upto_region 2 with (fail)
 have kb:=(Kz w1).alloc (.cells #[.int .i64 0, .int .i64 0] 33);have d0:(w1.alloc (.cells #[.int .i64 0, .int .i64 0] 33)).cell? ⟨w1.heap.size,0,none⟩=some (.int .i64 0):=(ak.new w1 [.int .i64 0, .int .i64 0] 33).cell 0;have dl:w1.heap.size<(w1.alloc (.cells #[.int .i64 0, .int .i64 0] 33)).heap.size:=by simp
 have HK2:=Hz (HK.o.trans kb);have HB2:=Hz (kb.au HB.o (λh=>h));clear kb HK HB;generalize w1.alloc (.cells #[.int .i64 0, .int .i64 0] 33)=w2 at *;have f0:=HB2.o.free 0;have f1:=HB2.o.free 1;have c0:=HB2.o.cell 0;have c1:=HB2.o.cell 1;have cl:=HB2.o.lt;simp only [Lz,aB] at c0 c1;go_wp2_with fail;have kset:=((aa.refl (·=b0) w2).setCell (p:=⟨b0,0,none⟩) (.inl rfl) (.int .i64 0)).setCell (p:=⟨b0,1,none⟩) (.inl rfl) (.int .i64 0);have hbN:=(HB2.o.aE 0 (.int .i64 0)).aE 1 (.int .i64 0);have hs3:((w2.setCell ⟨b0,0,none⟩ (.int .i64 0)).setCell ⟨b0,1,none⟩ (.int .i64 0)).heap.size=w2.heap.size:=by simp
 generalize (w2.setCell ⟨b0,0,none⟩ (.int .i64 0)).setCell ⟨b0,1,none⟩ (.int .i64 0)=w3 at *;generalize hw4:w3.alloc (.cells A 77)=w4 at *;have k4:aa (λ_=>False) w3 w4:=by rw [<-hw4];exact (aa.refl _ _).alloc _
 have b4:ak w4 w2.heap.size (aH (List.replicate 12 (0,0))) 77:=by rw [<-hw4];exact ak.newAt _ hs3.symm (by rw [HAA.o])
 have hs4:w4.heap.size=w2.heap.size+1:=by rw [<-hw4];simp [hs3]
 have hb4:=(k4.au hbN (λh=>h)).alloc (.cells #[.slice none 0 0, .slice (some ⟨w2.heap.size,0,none⟩) 12 12, .slice none 0 0, .slice none 0 0, .int .i64 0, .int .i64 0, .int .i64 n, .int .i64 o] 86);have x0':=hb4.cell 0;have x1':=hb4.cell 1;simp only [Zu,Zv,Lz,aB] at x0' x1';refine bodyPost_ret (v:=.tuple #[.pointer (some ⟨w2.heap.size+1,0,none⟩), .agg #[.int .i64 0, .int .i64 0]]) (by simp [results,Tryz.results19,go_sem,x0',x1']) rfl ?_;have nl:∀ {b:Nat},aq (.slice none 0 0) b->False:=λhb=>by simp [aq,Value.ownBlock] at hb
 have hsz:w.heap.size<=w2.heap.size:=HK2.o.size;refine ⟨⟨w2.heap.size+1, .slice none 0 0, .slice (some ⟨w2.heap.size,0,none⟩) 12 12, .slice none 0 0, .slice none 0 0,λ_=>.slice none 0 0⟩,rfl,⟨ak.newAt _ (by rw [hs4]) rfl,⟨[],Sl.nil _ _ _,λi hi=>absurd hi (by simp [Wd.new])⟩,?_,Sl.nil _ _ _,Sl.nil _ _ _,λk hk=>nl hk.1,λi k hk=>(nl hk).elim,λi j k hk=>(nl hk).elim,λi k hk=>(nl hk).elim,HOK.o⟩,?_,?_⟩
 ·exact ⟨rfl, .inr ⟨w2.heap.size,0,12,aH (List.replicate 12 (0,0)),rfl,b4.alloc _,Zb _,by decide,by decide,rfl⟩⟩
 ·exact ((HK2.o.then kset (λk hk=>.inr (by rw [hk];exact HSB.o))).trans k4).alloc _
 ·intro k hk;rcases hk with rfl | hk | hk | hk | hk | ⟨_,hk⟩
  ·exact Nat.le_succ_of_le hsz
  ·exact (nl hk).elim
  ·simp [aq,Value.ownBlock] at hk;omega
  ·exact (nl hk).elim
  ·exact (nl hk).elim
  ·exact (nl hk).elim
theorem Cg {w:World} {h:dj} {W:Wd} (H:aR w h W) :
  Calls Tryz.prog 46 #[.pointer (some ⟨h.p,0,none⟩)] w λe w'=>e=.returned (.tuple #[.int .i64 W.aA, .int .i64 W.cD])/\aa (λ_=>False) w w':=by
 have HC:=Hz H.cells;have hl:=H.hp.lt;clear H;obtain ⟨-,-,-,-,c4,c5,-,-⟩:=HC.o;generalize h.p=p at *;go_enter Tryz.func46,Tryz.ntmps46;go_wp2_with fail;refine a6 (ftq [0,1,2,4,5,6] (.pure 3 (.free 8 (.pure 7 (.free 9 (.fin)))))) [] (Fz c4 (Fa c5)) ?_
 iterate 10 refine Wz ?_
 refine av ?_;go_wp2_with fail;exact bodyPost_ret (v:=.tuple #[.int .i64 W.aA, .int .i64 W.cD]) (by simp [results,Tryz.results46,go_sem]) rfl ⟨rfl,(aa.refl _ _).drew⟩
end
section
open Go.RowKit
def y3 (h:dj) (W:Wd) (k:Int):Value:=
 if W.ah k<0 then .pointer none else match h.tv with
  | .slice (some a) _ _=>.pointer (some ⟨a.block,a.off+(W.ah k).toNat*4,none⟩)
  | _=>.pointer none
section
variable {w w':World} {h:dj} {W:Wd}
theorem jU {k:Int} (hn:W.ah k<0):y3 h W k=.pointer none:=by unfold y3;rw [if_pos hn]
theorem jV {k:Int} {g o nc:Nat} (hn:¬ W.ah k<0) (e:h.tv=.slice (some ⟨g,o,none⟩) W.T.length nc):y3 h W k=.pointer (some ⟨g,o+(W.ah k).toNat*4,none⟩):=by unfold y3;rw [if_neg hn,e]
theorem aR.fR (H:aR w h W) {k:Nat} (hk:k<12):∃ g o rc,h.rv=.slice (some ⟨g,o,none⟩) 12 rc/\g<w.heap.size/\w.cell? ⟨h.p,1,none⟩=some (.slice (some ⟨g,o,none⟩) 12 rc)/\w.cell? ⟨g,o+k*2,none⟩=some (.int .i64 (W.rt k).1)/\w.cell? ⟨g,o+k*2+1,none⟩=some (.int .i64 (W.rt k).2) /\
  Sl w 77 2 (.slice (some ⟨g,o,none⟩) 12 rc) 12 (aH W.roots):=by
 obtain ⟨g,o,rc,e,hg,h0,h1⟩:=H.root hk;have hc:=H.cells.2.1;have hr:=H.hr;rw [H.ok.hr] at e hr;rw [e] at hc hr;exact ⟨g,o,rc,e,hg,hc,h0,h1,hr⟩
theorem rM (k:Nat) (hk:k<12) (H:aR w h W) :
  Calls Tryz.prog 102 #[.pointer (some ⟨h.p,0,none⟩), .int .i64 k] w λe w'=>e=.returned (y3 h W k)/\aa (λ_=>False) w w':=by
 obtain ⟨g,o,rc,erv,hg,q1,r0,r1,-⟩:=H.fR hk;obtain ⟨p0,-⟩:=H.cells;have pl:=H.hp.lt;have hki:(k:Int)<12:=by omega
 by_cases h3:(W.rt k).1=3
 ·have hth:W.ah k=(W.rt k).2:=by unfold Wd.ah;rw [if_pos h3]
  have hlv:W.live (W.rt k).2:=Wd.aY (Wd.g8 H.ok k) h3;obtain ⟨gt,ot,nc,etl,-,hgt,-⟩:=H.nth (i:=(W.rt k).2.toNat) (by have:=hlv.1;have:=hlv.2.1;omega);have HE:=Hz (jV (h:=h) (k:=k) (by have:=hlv.1;omega) etl);rw [etl] at p0;rw [hth] at HE;rw [h3] at r0;have h0:=hlv.1;have h1:=hlv.2.1;clear H hth hlv erv h3 etl;generalize (W.rt k).2=x at *;obtain ⟨x,rfl⟩:=Zg h0;rw [Zt] at HE;go_enter Tryz.func102,Tryz.ntmps102;go_wp2_with fail;refine a6 (ftq [0,1,2,4,5,6,8] (.pure 3 (.pure 7 (.free 9 (.free 10 (.pure 11 (.free 12 (.free 13 (.fin))))))))) [] (Fz p0 (Fz q1 (Fa r1))) ?_
  iterate 14 refine Wz ?_
  refine av ?_;go_wp2_with fail;go_ret;exact ⟨by rw [HE.o];rfl,(aa.refl _ _).drew⟩
 ·have HE:=Hz (jU (h:=h) (W:=W) (k:=k) (by unfold Wd.ah;rw [if_neg h3];omega));have e3:((W.rt k).1 != 3)=true:=by simpa using h3
  clear H erv h3 r1;generalize (W.rt k).1=x at *;go_enter Tryz.func102,Tryz.ntmps102;go_wp2_with fail;go_ret;exact ⟨by rw [HE.o];rfl,aa.refl _ _⟩
def Af (h:dj) (W:Wd) (a:Nat) (i c:Int) (e:Ending):Prop:=
 ∃ p:Option Addr,e=.returned (.tuple #[.pointer p, .int .i64 c])/\(c=0->∃ gf of fc,h.fv (W.ah a).toNat=.slice (some ⟨gf,of,none⟩) (W.th (W.ah a)).fs.length fc/\p=some ⟨gf,of+i.toNat*2,none⟩)
theorem aR.rowAt (H:aR w h W) {i:Int} (hi:W.live i):∃ g o nc fo fc,h.tv=.slice (some ⟨g,o,none⟩) W.T.length nc/\g<w.heap.size/\w.cell? ⟨g,o+i.toNat*4,none⟩=some (.int .i64 (W.th i).k) /\
  w.cell? ⟨g,o+i.toNat*4+1,none⟩=some (.slice fo (W.th i).fs.length fc)/\h.fv i.toNat=.slice fo (W.th i).fs.length fc/\Sl w 77 2 (.slice fo (W.th i).fs.length fc) (W.th i).fs.length (aH (W.th i).fs):=by
 obtain ⟨g,o,nc,e,-,hg,-,hr⟩:=H.nth (i:=i.toNat) (by have:=hi.1;have:=hi.2.1;omega);have e2:W.T.getD i.toNat Th.none=W.th i:=rfl;rw [e2] at hr;have hs:=hr.s hi.2.2;obtain ⟨fo,fc,ef,-,-,-⟩:=hs.rd;have hf:=hr.f hi.2.2;rw [ef] at hf hs;exact ⟨g,o,nc,fo,fc,e,hg,hr.k hi.2.2,hf,ef,hs⟩
theorem vh (a:Nat) (i:Int) (x:St) (hxa:x.a=a) (hxi:x.i=i) (ha:a<12) (H:aR w h W) :
  Calls Tryz.prog 42 #[.pointer (some ⟨h.p,0,none⟩), .int .i64 a, .int .i64 i] w λe w'=>Af h W a i (W.bP x) e/\aa (λ_=>False) w w':=by
 have HO:=Hz (rM a ha H);have HC:=Hz (show W.bP x=if W.ah a<0\/(W.th (W.ah a)).k=5 then 2 else if i<0\/((W.th (W.ah a)).fs.length:Int)<=i then 1 else 0 by unfold Wd.bP;rw [hxa,hxi]);clear hxa hxi;by_cases hn:W.ah a<0
 ·rw [jU hn] at HO;have HE:=Hz (show W.bP x=2 by rw [HC.o,if_pos (.inl hn)]);clear H hn;go_enter Tryz.func42,Tryz.ntmps42;go_wp2_with fail;refine HO.o.mono ?_;rintro e w1 ⟨rfl,hk⟩;have K1:=Hz hk;clear hk;go_wp2_with fail;go_ret2;rw [HE.o];exact ⟨⟨none,rfl,λh=>by cases h⟩,K1.o⟩
 have hlv:=Wd.dg H.ok hn;obtain ⟨g,o,nc,fo,fc,etl,hg,t0,t1,ef,hs⟩:=H.rowAt hlv;rw [jV hn etl] at HO;have HF:=Hz ef;have HS:=Hz hs;have hfl:=(bL (H.ok.tk _ hlv)).2.2.2;have KK:=Hz (λ(w1:World) (k:aa (λ_=>False) w w1)=>(show w1.cell? ⟨g,o+(W.ah a).toNat*4,none⟩=some (.int .i64 (W.th (W.ah a)).k)/\w1.cell? ⟨g,o+(W.ah a).toNat*4+1,none⟩=some (.slice fo (W.th (W.ah a)).fs.length fc)/\g<w1.heap.size from by
  have hb:=k.block g hg (λh=>h);refine ⟨?_,?_,Zd hg k.size⟩
  ·rw [<-t0];simp only [World.cell?,hb]
  ·rw [<-t1];simp only [World.cell?,hb]))
 clear t0 t1 hg etl ef hs hlv H;by_cases h5:(W.th (W.ah a)).k=5
 ·have HE:=Hz (show W.bP x=2 by rw [HC.o,if_pos (.inr h5)]);rw [h5] at KK;clear h5 HC;go_enter Tryz.func42,Tryz.ntmps42;go_wp2_with fail;refine HO.o.mono ?_;rintro e w1 ⟨rfl,hk⟩;have K1:=Hz hk;obtain ⟨t0,t1,hg⟩:=KK.o _ hk;clear hk;go_wp2_with fail;go_ret2;rw [HE.o];exact ⟨⟨none,rfl,λh=>by cases h⟩,K1.o⟩
 have e5:((W.th (W.ah a)).k == 5)=false:=by simpa using h5
 have HD:=Hz (show W.bP x=if i<0\/((W.th (W.ah a)).fs.length:Int)<=i then 1 else 0 by rw [HC.o,if_neg (by rintro (h1 | h1);exact hn h1;exact h5 h1)]);clear h5 hn HC;generalize (W.th (W.ah a)).k=kd at *;obtain ⟨n,hnn⟩:∃ n,(W.th (W.ah a)).fs.length=n:=⟨_,rfl⟩;have HN:=Hz hnn;rw [hnn] at KK HD HF hfl;clear hnn;by_cases hi:i<0
 ·have HE:=Hz (show W.bP x=1 by rw [HD.o,if_pos (.inl hi)]);clear HD;go_enter Tryz.func42,Tryz.ntmps42;go_wp2_with fail;refine HO.o.mono ?_;rintro e w1 ⟨rfl,hk⟩;have K1:=Hz hk;obtain ⟨t0,t1,hg⟩:=KK.o _ hk;clear hk;go_wp2_with fail;go_ret2;rw [HE.o];exact ⟨⟨none,rfl,λh=>by cases h⟩,K1.o⟩
 by_cases hi2:(n:Int)<=i
 ·have HE:=Hz (show W.bP x=1 by rw [HD.o,if_pos (.inr hi2)]);clear HD;go_enter Tryz.func42,Tryz.ntmps42;go_wp2_with fail;refine HO.o.mono ?_;rintro e w1 ⟨rfl,hk⟩;have K1:=Hz hk;obtain ⟨t0,t1,hg⟩:=KK.o _ hk;clear hk;go_wp2_with fail;go_ret2;rw [HE.o];exact ⟨⟨none,rfl,λh=>by cases h⟩,K1.o⟩
 have HE:=Hz (show W.bP x=0 by rw [HD.o,if_neg (by rintro (h1 | h1);exact hi h1;exact hi2 h1)]);obtain ⟨i,rfl⟩:=Zg (show 0<=i by omega);have hi3:(i:Int)<n:=by omega
 clear hi hi2 HD;obtain ⟨gf,of,rfl⟩:∃ gf of,fo=some ⟨gf,of,none⟩:=by
  have hs:=HS.o;rw [HN.o] at hs;obtain ⟨g',o',_,_,e',-⟩:=hs.laid (by omega);cases e';exact ⟨_,_,rfl⟩
 go_enter Tryz.func42,Tryz.ntmps42;go_wp2_with fail;refine HO.o.mono ?_;rintro e w1 ⟨rfl,hk⟩;have K1:=Hz hk;obtain ⟨t0,t1,hg⟩:=KK.o _ hk;clear hk;go_wp2_with fail;go_ret2;rw [HE.o];exact ⟨⟨_,rfl,λ_=>⟨gf,of,fc,by rw [HN.o];exact HF.o,rfl⟩⟩,K1.o⟩
end
end
section
open Go.RowKit
def ei (w:World) (h:dj) (r:Int × Wd):Ending->World->Prop:=λe w'=>e=.returned (.int .i64 r.1)/\aT w h w' r.2
section
variable {w w':World} {h:dj} {W:Wd}
theorem aR.oV (H:aR w h W) {rg wt:List (Int × Int)} (T:sd (h.gx W) w h.p h.gv h.wv w' rg wt) (hok:({ W with ai:=rg,wait:=wt }:Wd).ok):aT w h w' { W with ai:=rg,wait:=wt }:=by
 obtain ⟨rv',wv',S,K,o⟩:=T;have ne:∀ {b:Nat} {c:List Value} {T:TypeId},ak w b c T->T≠86->T≠119->¬ aG h.p h.gv h.wv b:=λhb h1 h2=>H.side.oh hb h1 h2;have aK:∀ b,aG h.p h.gv h.wv b->h.Own b:=λb hb=>by
  rcases hb with rfl | hb | hb
  ·exact .inl rfl
  ·exact .inr (.inr (.inr (.inl hb)))
  ·exact .inr (.inr (.inr (.inr (.inl hb))))
 refine ⟨⟨h.p,h.tv,h.rv,rv',wv',h.fv⟩,⟨S.hp,H.ht.ab K (λb hb=>?_) (λi b hb=>?_),H.hr.ab K (λb hb=>?_),S.hr,S.hw,S.ap,λi b hb=>?_,H.fi,H.fl,hok⟩,rfl,K.mono (λb _ hb=>aK b hb),λb hb=>?_⟩
 ·obtain ⟨cs,hs,_⟩:=H.ht;obtain ⟨_,c,hc⟩:=hs.own hb;exact ne hc (by decide) (by decide)
 ·obtain ⟨_,⟨c,hc⟩,_⟩:=H.af i b hb;exact ne hc (by decide) (by decide)
 ·obtain ⟨_,c,hc⟩:=H.hr.own hb;exact ne hc (by decide) (by decide)
 ·obtain ⟨h1,⟨c,hc⟩,h3⟩:=H.af i b hb;exact ⟨Zd h1 K.size,⟨c,K.au hc (ne hc (by decide) (by decide))⟩,h3⟩
 ·rcases hb with hb | hb | hb | hb | hb | hb
  ·exact .inl (.inl hb)
  ·exact .inl (.inr (.inl hb))
  ·exact .inl (.inr (.inr (.inl hb)))
  ·exact (o b (.inr (.inl hb))).imp (aK b) id
  ·exact (o b (.inr (.inr hb))).imp (aK b) id
  ·exact .inl (.inr (.inr (.inr (.inr (.inr hb)))))
theorem Wd.iE {k:Int}:W.guard k<0↔W.ah k<0\/(W.th (W.ah k)).k≠5:=by
 unfold Wd.guard;split
 ·rename_i h;exact ⟨λ_=>h,λ_=>by omega⟩
 ·rename_i h;constructor
  ·intro h2;exact absurd (.inl h2) h
  ·intro h2;exact absurd h2 h
theorem Wd.tm {k:Int} (h:¬ W.guard k<0):W.guard k=W.ah k/\¬ W.ah k<0/\(W.th (W.ah k)).k=5:=by
 have h2:¬ (W.ah k<0\/(W.th (W.ah k)).k≠5):=λe=>h (Wd.iE.2 e);refine ⟨by unfold Wd.guard;rw [if_neg h2],λe=>h2 (.inl e),Classical.byContradiction λe=>h2 (.inr e)⟩
theorem Wd.qE {k:Int} (h:¬ W.ah k<0):(W.rt k).2=W.ah k/\(W.rt k).1=3:=by
 unfold Wd.ah at h ⊢;by_cases e:(W.rt k).1=3
 ·rw [if_pos e];exact ⟨rfl,e⟩
 ·rw [if_neg e] at h;exact absurd (by omega) h
theorem Du (a b:Nat) (xr xi xn:Int) (H:aR w h W) (ha:a<12) (hb:b<12) :
  Calls Tryz.prog 41 #[.pointer (some ⟨h.p,0,none⟩), .agg #[.int .i64 9, .int .i64 xr, .int .i64 a, .int .i64 b, .int .i64 xi, .int .i64 xn]] w (ei w h (W.eZ ⟨9,xr,a,b,xi,xn⟩)):=by
 unfold ei;have HRG:=Hz (show W.eZ ⟨9,xr,a,b,xi,xn⟩=if W.ah a<0\/W.guard b<0 then (2,W) else if 24<=W.ai.length+W.wait.length then (3,W) else (0, { W with ai:=W.ai ++ [(W.guard b,W.ah a)] }) from rfl);have HB0:=Hz H;have ay:ak (w.alloc (.cells #[.int .i64 9, .int .i64 xr, .int .i64 a, .int .i64 b, .int .i64 xi, .int .i64 xn] 26)) w.heap.size [.int .i64 9, .int .i64 xr, .int .i64 a, .int .i64 b, .int .i64 xi, .int .i64 xn] 26:=ak.newAt _ rfl rfl;have ka:=(Kz w).alloc (.cells #[.int .i64 9, .int .i64 xr, .int .i64 a, .int .i64 b, .int .i64 xi, .int .i64 xn] 26);have HB1:=Hz (H.same ka);have K1:=Hz ka;have SB1:=Hz ay;have SOW:=Hz (show ¬ h.Own w.heap.size from λe=>by have:=H.aZ e;omega);clear ay ka H;go_enter Tryz.func41,Tryz.ntmps41;go_upto_region 1 with fail
 generalize w.alloc (.cells #[.int .i64 9, .int .i64 xr, .int .i64 a, .int .i64 b, .int .i64 xi, .int .i64 xn] 26)=w1 at *;generalize w.heap.size=sb at *;have s0:=SB1.o.cell 0;have s1:=SB1.o.cell 1;have s2:=SB1.o.cell 2;have s3:=SB1.o.cell 3;have s4:=SB1.o.cell 4;have s5:=SB1.o.cell 5;have sl:=SB1.o.lt;simp only [Lz,aB] at s0 s1 s2 s3 s4 s5;have HOB:=Hz (λw' (H:aR w' h W)=>rM b hb H);have HOA:=Hz (λw' (H:aR w' h W)=>rM a ha H);by_cases hta:W.ah a<0
 ·rw [jU hta] at HOA;have HE:=Hz (show W.eZ ⟨9,xr,a,b,xi,xn⟩=(2,W) by rw [HRG.o,if_pos (.inl hta)]);clear hta;go_wp2_with fail;refine (HOB.o _ HB1.o).mono ?_;rintro e w2 ⟨rfl,hk⟩;have HB2:=Hz (HB1.o.same hk);have K2:=Hz (K1.o.trans hk);have SB2:=Hz (hk.au SB1.o (λh=>h));clear hk s0 s1 s2 s3 s4 s5 sl;have s0:=SB2.o.cell 0;have s2:=SB2.o.cell 2;have s3:=SB2.o.cell 3;have sl:=SB2.o.lt;simp only [Lz,aB] at s0 s2 s3;go_wp2_with fail;refine (HOA.o _ HB2.o).mono ?_;rintro e w3 ⟨rfl,hk⟩;have HB3:=Hz (HB2.o.same hk);have K3:=Hz (K2.o.trans hk);have SB3:=Hz (hk.au SB2.o (λh=>h));clear hk s0 s2 s3 sl;have s0:=SB3.o.cell 0;have s2:=SB3.o.cell 2;have s3:=SB3.o.cell 3;have sl:=SB3.o.lt;simp only [Lz,aB] at s0 s2 s3;go_wp2_with fail;go_ret;rw [HE.o];exact ⟨rfl,aT.same HB0.o K3.o⟩
 have hla:=Wd.dg HB0.o.ok hta;obtain ⟨ga,oa,nca,-,-,etl,-⟩:=HB0.o.rowAt hla;rw [jV hta etl] at HOA;by_cases htb:W.ah b<0
 ·rw [jU htb] at HOB;have HE:=Hz (show W.eZ ⟨9,xr,a,b,xi,xn⟩=(2,W) by rw [HRG.o,if_pos (.inr (Wd.iE.2 (.inl htb)))]);clear htb hta hla etl;go_wp2_with fail;refine (HOB.o _ HB1.o).mono ?_;rintro e w2 ⟨rfl,hk⟩;have HB2:=Hz (HB1.o.same hk);have K2:=Hz (K1.o.trans hk);have SB2:=Hz (hk.au SB1.o (λh=>h));clear hk s0 s1 s2 s3 s4 s5 sl;have s0:=SB2.o.cell 0;have s2:=SB2.o.cell 2;have s3:=SB2.o.cell 3;have sl:=SB2.o.lt;simp only [Lz,aB] at s0 s2 s3;go_wp2_with fail;refine (HOA.o _ HB2.o).mono ?_;rintro e w3 ⟨rfl,hk⟩;have HB3:=Hz (HB2.o.same hk);have K3:=Hz (K2.o.trans hk);have SB3:=Hz (hk.au SB2.o (λh=>h));clear hk s0 s2 s3 sl;have s0:=SB3.o.cell 0;have s2:=SB3.o.cell 2;have s3:=SB3.o.cell 3;have sl:=SB3.o.lt;simp only [Lz,aB] at s0 s2 s3;go_wp2_with fail;go_ret;rw [HE.o];exact ⟨rfl,aT.same HB0.o K3.o⟩
 have hlb:=Wd.dg HB0.o.ok htb;have HLB:=Hz hlb;rw [jV htb etl] at HOB;have ETL:=Hz etl;have HTA:=Hz (Wd.qE hta);have HTB:=Hz (Wd.qE htb);by_cases h5:(W.th (W.ah b)).k=5
 case neg=>
  have HE:=Hz (show W.eZ ⟨9,xr,a,b,xi,xn⟩=(2,W) by rw [HRG.o,if_pos (.inr (Wd.iE.2 (.inr h5)))]);have e5:((W.th (W.ah b)).k != 5)=true:=by simpa using h5
  clear htb hta hla hlb etl h5;go_wp2_with fail;refine (HOB.o _ HB1.o).mono ?_;rintro e w2 ⟨rfl,hk⟩;have HB2:=Hz (HB1.o.same hk);have K2:=Hz (K1.o.trans hk);have SB2:=Hz (hk.au SB1.o (λh=>h));clear hk s0 s1 s2 s3 s4 s5 sl;have s0:=SB2.o.cell 0;have s2:=SB2.o.cell 2;have s3:=SB2.o.cell 3;have sl:=SB2.o.lt;simp only [Lz,aB] at s0 s2 s3;go_wp2_with fail;refine (HOA.o _ HB2.o).mono ?_;rintro e w3 ⟨rfl,hk⟩;have HB3:=Hz (HB2.o.same hk);have K3:=Hz (K2.o.trans hk);have SB3:=Hz (hk.au SB2.o (λh=>h));clear hk s0 s2 s3 sl;have s0:=SB3.o.cell 0;have s2:=SB3.o.cell 2;have s3:=SB3.o.cell 3;have sl:=SB3.o.lt;simp only [Lz,aB] at s0 s2 s3;obtain ⟨gb,ob,ncb,-,-,e',hg,t0,-⟩:=HB3.o.rowAt HLB.o;rw [ETL.o] at e';cases e';go_wp2_with fail;go_ret;rw [HE.o];exact ⟨rfl,aT.same HB0.o K3.o⟩
 have HG:=Hz (show W.eZ ⟨9,xr,a,b,xi,xn⟩=if 24<=W.ai.length+W.wait.length then (3,W) else (0, { W with ai:=W.ai ++ [(W.ah b,W.ah a)] }) by
  have hg:¬ W.guard b<0:=λe=>by rcases Wd.iE.1 e with h | h;exact htb h;exact h h5
  rw [HRG.o,if_neg (by rintro (h | h);exact hta h;exact hg h),(Wd.tm hg).1])
 have OKE:=Hz (show W.dL (W.ah b,W.ah a) from ⟨hlb,h5,hla⟩);have T0:=Hz (show ∀ w',aR w' h W->w'.cell? ⟨ga,oa+(W.ah b).toNat*4,none⟩=some (.int .i64 5)/\ga<w'.heap.size from λw' H'=>by
  obtain ⟨gb,ob,ncb,-,-,e',hg,t0,-⟩:=H'.rowAt HLB.o;rw [ETL.o] at e';cases e';rw [h5] at t0
  exact ⟨t0,hg⟩)
 clear htb hta hla hlb etl h5 HRG;go_wp2_with fail;refine (HOB.o _ HB1.o).mono ?_;rintro e w2 ⟨rfl,hk⟩;have HB2:=Hz (HB1.o.same hk);have K2:=Hz (K1.o.trans hk);have SB2:=Hz (hk.au SB1.o (λh=>h));clear hk s0 s1 s2 s3 s4 s5 sl;have s0:=SB2.o.cell 0;have s2:=SB2.o.cell 2;have s3:=SB2.o.cell 3;have sl:=SB2.o.lt;simp only [Lz,aB] at s0 s2 s3;go_wp2_with fail;refine (HOA.o _ HB2.o).mono ?_;rintro e w3 ⟨rfl,hk⟩;have HB3:=Hz (HB2.o.same hk);have K3:=Hz (K2.o.trans hk);have SB3:=Hz (hk.au SB2.o (λh=>h));clear hk s0 s2 s3 sl;have s0:=SB3.o.cell 0;have s2:=SB3.o.cell 2;have s3:=SB3.o.cell 3;have sl:=SB3.o.lt;simp only [Lz,aB] at s0 s2 s3;obtain ⟨t0,hg⟩:=T0.o _ HB3.o;obtain ⟨gr,orr,rc,-,hgr,q1,-,ra1,-⟩:=HB3.o.fR ha;obtain ⟨gr',or',rc',-,-,q1',-,rb1,-⟩:=HB3.o.fR hb;rw [q1] at q1';cases q1';rw [HTA.o.1] at ra1;rw [HTB.o.1] at rb1;have hai:(a:Int)<12:=by omega
 have hbi:(b:Int)<12:=by omega
 have h24l:=HB3.o.ok.hq;have hsd:=HB3.o.side;have hpl:=HB3.o.hp.lt;generalize W.ah a=va at *;generalize W.ah b=vb at *;by_cases h24:24<=W.ai.length+W.wait.length
 ·have HE:=Hz (show W.eZ ⟨9,xr,a,b,xi,xn⟩=(3,W) by rw [HG.o,if_pos h24]);have hreg:=yA h.p h.gv h.wv W.ai W.wait vb va (w3.drew) (hsd.ab (Kz w3).drew (λ_ _ h=>h)) (by omega) (by omega) h24;have HREG:=Hz hreg;clear hreg hsd h24 h24l;go_wp2_with fail;refine a6 (ftq [0,1,2,3,4,5,7,11,12,13,15] (.pure 6 (.free 8 (.free 9 (ptq [10,14,16] (.free 17 (.free 18 (.pure 19 (.free 20 (.run 21 (.swi [] (.free 22 (.fin))))))))))))) [21,22] (Fz q1 (Fz rb1 (Fz s2 (Fa ra1)))) ?_
  iterate 21 refine Wz ?_
  refine aD rfl rfl rfl (λK hK=>?_);unfold ax;go_simp;refine HREG.o.mono ?_;rintro e5 w5 ⟨rfl,hk⟩;refine hK _ _ ?_;clear hK K;refine aC (λ_=>True) trivial ?_;refine Wz ?_;refine av ?_;have K4:=Hz (K3.o.trans ((Kz w3).drew.trans hk));clear hk q1 ra1 rb1 s0 s2 s3 sl t0 hg hgr hpl;go_wp2_with fail;go_ret;rw [HE.o];exact ⟨rfl,aT.same HB0.o K4.o⟩
 ·have HE:=Hz (show W.eZ ⟨9,xr,a,b,xi,xn⟩=(0, { W with ai:=W.ai ++ [(vb,va)] }) by rw [HG.o,if_neg h24]);have HOK:=Hz (show ({ W with ai:=W.ai ++ [(vb,va)] }:Wd).ok from by
   have o:=HB3.o.ok;exact ⟨o.hr,o.rv,o.tk,o.tv,λe he=>by
    rcases Zk.1 he with h1 | h1
    ·exact o.gv e h1
    ·rw [List.mem_singleton.1 h1];exact OKE.o,o.wv,by simp;omega,o.m1,o.m2,o.g1,o.g2,o.uy,o.uo⟩)
  have hreg:=yB h.p h.gv h.wv W.ai W.wait vb va (w3.drew) (hsd.ab (Kz w3).drew (λ_ _ h=>h)) (by omega) (by omega) h24;have HREG:=Hz hreg;clear hreg hsd h24 h24l;go_wp2_with fail;refine a6 (ftq [0,1,2,3,4,5,7,11,12,13,15] (.pure 6 (.free 8 (.free 9 (ptq [10,14,16] (.free 17 (.free 18 (.pure 19 (.free 20 (.run 21 (.swi [] (.free 22 (.fin))))))))))))) [21,22] (Fz q1 (Fz rb1 (Fz s2 (Fa ra1)))) ?_
  iterate 21 refine Wz ?_
  refine aD rfl rfl rfl (λK hK=>?_);unfold ax;go_simp;refine HREG.o.mono ?_;rintro e5 w5 ⟨rfl,hs5⟩;refine hK _ _ ?_;clear hK K;refine aC (λ_=>True) trivial ?_;refine Wz ?_;refine av ?_;have TO:=Hz (aT.aL K3.o.drew ((HB3.o.same (Kz w3).drew).oV hs5 HOK.o));clear hs5 q1 ra1 rb1 s0 s2 s3 sl t0 hg hgr hpl;go_wp2_with fail;go_ret;rw [HE.o];exact ⟨rfl,TO.o⟩
end
end
section
open Go.RowKit
def mi (n:Nat) (met:List Int):List Value:=(List.range n).map λ(i:Nat)=>Value.int .i64 (if (i:Int) ∈ met then ((met.idxOf (i:Int):Nat):Int)+1 else 0)
theorem ml (n:Nat) (met:List Int):(mi n met).length=n:=by simp [mi]
theorem nW {n:Nat} {met:List Int} {i:Nat} (h:i<n):(mi n met)[i]? = some (.int .i64 (if (i:Int) ∈ met then ((met.idxOf (i:Int):Nat):Int)+1 else 0)):=by
 unfold mi;rw [Zw,List.getElem?_range h];rfl
theorem y4 (n:Nat):mi n []=List.replicate n (.int .i64 0):=by
 apply List.ext_getElem?;intro i;by_cases h:i<n
 ·rw [nW h,List.getElem?_replicate,if_pos h];simp
 ·rw [List.getElem?_eq_none (by rw [ml];omega),List.getElem?_eq_none (by simp;omega)]
theorem xO {n:Nat} {met:List Int} {x:Nat} (hx:x<n) (hm:¬ (x:Int) ∈ met):(mi n met).set x (.int .i64 ((met.length:Int)+1))=mi n (met ++ [(x:Int)]):=by
 apply List.ext_getElem?;intro i;rw [List.getElem?_set];by_cases h:i<n
 ·have r1:=nW (met:=met) h;have r2:=nW (met:=met ++ [(x:Int)]) h;rw [r2,r1];by_cases e:x=i
  ·subst e;rw [if_pos rfl,if_pos (by rw [ml];exact h),if_pos (by simp),List.idxOf_append,if_neg hm];simp
  ·rw [if_neg e];have hne:¬ (i:Int)=(x:Int):=by omega
   by_cases h1:(i:Int) ∈ met
   ·rw [if_pos h1,if_pos (by simp [h1]),List.idxOf_append,if_pos h1]
   ·rw [if_neg h1,if_neg (by simp [h1,hne])]
 ·rw [if_neg (by omega),List.getElem?_eq_none (by rw [ml];omega),List.getElem?_eq_none (by rw [ml];omega)]
def jr (w:World) (b n:Nat) (met:List Int):Prop:=ak w b (mi n met) 3
theorem jr.ab {w w':World} {b n:Nat} {met:List Int} {S:Nat->Prop} (h:jr w b n met) (k:aa S w w') (hn:¬ S b):jr w' b n met:=k.au h hn
section
variable {w w':World} {h:dj} {W:Wd}
structure dx (w:World) (q:Nat) (h:dj) (W:Wd) (b:Nat) (rv nv:Value) (F:Nat->Prop) (s:VS):Prop where
 hq:ak w q [.pointer (some ⟨h.p,0,none⟩), .slice (some ⟨b,0,none⟩) W.T.length W.T.length,rv,nv] 167
 hw:aR w h W
 hm:jr w b W.T.length s.1
 hn:dP w nv F s.2
 hl:s.2.length=s.1.length
 hF:∀ k,F k->k<w.heap.size/\¬ (k=q\/k=b\/aq nv k)
 hO:∀ k,F k->¬ h.Own k
def jC (q b:Nat) (nv:Value) (k:Nat):Prop:=k=q\/k=b\/aq nv k
variable {q b:Nat} {rv nv:Value} {F:Nat->Prop} {s:VS}
theorem dx.e6 (V:dx w q h W b rv nv F s) {k:Nat} (hk:h.Own k):¬ jC q b nv k:=by
 obtain ⟨-,c,T,hc,hT⟩:=V.hw.bE hk;have hne:T≠167/\T≠60/\T≠3:=by rcases hT with rfl | rfl | rfl | rfl <;> exact ⟨by decide,by decide,by decide⟩
 rintro (rfl | rfl | hk2)
 ·exact hc.ne V.hq hne.1 rfl
 ·exact hc.ne V.hm hne.2.2 rfl
 ·obtain ⟨_,c',hc'⟩:=V.hn.own hk2;exact hc.ne hc' hne.2.1 rfl
theorem dx.lt (V:dx w q h W b rv nv F s) {k:Nat} (hk:jC q b nv k):k<w.heap.size:=by
 rcases hk with rfl | rfl | hk
 ·exact V.hq.lt
 ·exact V.hm.lt
 ·exact (V.hn.own hk).1
theorem dx.kO (V:dx w q h W b rv nv F s) {k:Nat} {c:List Value} {T:TypeId} (hc:ak w k c T) (h1:T≠167) (h2:T≠60) (h3:T≠3):¬ jC q b nv k:=by
 rintro (rfl | rfl | hk2)
 ·exact hc.ne V.hq h1 rfl
 ·exact hc.ne V.hm h3 rfl
 ·obtain ⟨_,c',hc'⟩:=V.hn.own hk2;exact hc.ne hc' h2 rfl
theorem dx.ab {S:Nat->Prop} (V:dx w q h W b rv nv F s) (k:aa S w w') (h1:∀ j,jC q b nv j->¬ S j) (h2:∀ j,h.Own j->¬ S j) (h3:∀ j,F j->¬ S j):dx w' q h W b rv nv F s:=
 ⟨k.au V.hq (h1 _ (.inl rfl)),V.hw.ab k h2,V.hm.ab k (h1 _ (.inr (.inl rfl))),V.hn.ab k (λj hj _=>h3 j hj) (λj hj=>h1 j (.inr (.inr hj))),V.hl,λj hj=>⟨Zd (V.hF j hj).1 k.size,(V.hF j hj).2⟩,V.hO⟩
theorem dx.same (V:dx w q h W b rv nv F s) (k:aa (λ_=>False) w w'):dx w' q h W b rv nv F s:=V.ab k (λ_ _ h=>h) (λ_ _ h=>h) (λ_ _ h=>h)
def nX (w:World) (q:Nat) (h:dj) (W:Wd) (b:Nat) (rv nv:Value) (F:Nat->Prop) (s':VS) (w':World):Prop:=
 ∃ nv' F',dx w' q h W b rv nv' F' s'/\aa (jC q b nv) w w'/\(∀ k,aq nv' k->aq nv k\/w.heap.size<=k)/\∀ k,F' k->F k\/w.heap.size<=k
def sf (w:World) (q:Nat) (h:dj) (W:Wd) (b:Nat) (rv nv:Value) (F:Nat->Prop) (r:Vl × VS) (e:Ending) (w':World):Prop:=
 e=.returned (.agg #[.int .i64 r.1.1, .int .i64 r.1.2])/\nX w q h W b rv nv F r.2 w'
structure dy (w:World) (q:Nat) (h:dj) (W:Wd) (b:Nat) (rv nv:Value) (F:Nat->Prop) (s:VS) (lv:Value) (l:List Vl) (wr:World) (nv':Value) (F':Nat->Prop):Prop where
 V:dx wr q h W b rv nv' F' s
 K:aa (jC q b nv) w wr
 o1:∀ k,aq nv' k->aq nv k\/w.heap.size<=k
 o2:∀ k,F' k->F k\/w.heap.size<=k
 L:Sl wr 77 2 lv l.length (aH l)
 o3:∀ k,aq lv k->w.heap.size<=k/\¬ F' k
 ol:∀ k,h.Own k->k<w.heap.size
theorem dy.kP {lv:Value} {l:List Vl} {wr:World} {nv':Value} {F':Nat->Prop} (I:dy w q h W b rv nv F s lv l wr nv' F') {k:Nat} (hk:aq lv k):¬ jC q b nv' k/\¬ h.Own k:=by
 obtain ⟨_,c,hc⟩:=I.L.own hk;constructor
 ·rintro (rfl | rfl | h1)
  ·exact hc.ne I.V.hq (by decide) rfl
  ·exact I.V.hm.ne hc (by decide) rfl
  ·obtain ⟨_,c',hc'⟩:=I.V.hn.own h1;exact hc.ne hc' (by decide) rfl
 ·intro h1;have:=I.ol k h1;have:=(I.o3 k hk).1;omega
theorem dy.told {lv:Value} {l:List Vl} {wr w2:World} {nv':Value} {F':Nat->Prop} {s2:VS} (I:dy w q h W b rv nv F s lv l wr nv' F') (t:nX wr q h W b rv nv' F' s2 w2):∃ nv2 F2,dy w q h W b rv nv F s2 lv l w2 nv2 F2:=by
 obtain ⟨nv2,F2,V2,k2,p1,p2⟩:=t;refine ⟨nv2,F2,V2,I.K.then k2 (λj hj=>?_),λj hj=>?_,λj hj=>?_,I.L.ab k2 (λj hj=>(I.kP hj).1),λj hj=>⟨(I.o3 j hj).1,λhf=>?_⟩,I.ol⟩
 ·rcases hj with rfl | rfl | hj
  ·exact .inl (.inl rfl)
  ·exact .inl (.inr (.inl rfl))
  ·rcases I.o1 j hj with h | h
   ·exact .inl (.inr (.inr h))
   ·exact .inr h
 ·rcases p1 j hj with h | h
  ·exact I.o1 j h
  ·exact .inr (Za I.K.size h)
 ·rcases p2 j hj with h | h
  ·exact I.o2 j h
  ·exact .inr (Za I.K.size h)
 ·rcases p2 j hf with h | h
  ·exact (I.o3 j hj).2 h
  ·have:=(I.L.own hj).1;omega
theorem dy.app {lv:Value} {l:List Vl} {wr wa w2:World} {nv' lv2:Value} {F':Nat->Prop} {v:Vl} (I:dy w q h W b rv nv F s lv l wr nv' F') (ka:aa (λ_=>False) wr wa)
  (hs:Sl w2 77 2 lv2 (l.length+1) (aH l ++ [.int .i64 v.1, .int .i64 v.2])) (hk:aa (aq lv) wa w2) (ho:∀ k,aq lv2 k->aq lv k\/wa.heap.size<=k):dy w q h W b rv nv F s lv2 (l ++ [v]) w2 nv' F':=by
 have k2:=(ka.mono (T:=aq lv) (λ_ _ h=>h.elim)).trans hk;refine ⟨I.V.ab k2 (λj hj hl=>(I.kP hl).1 hj) (λj hj hl=>(I.kP hl).2 hj) (λj hj hl=>(I.o3 j hl).2 hj),I.K.then k2 (λj hj=>.inr (I.o3 j hj).1),I.o1,I.o2,?_,λj hj=>?_,I.ol⟩
 ·have e:aH (l ++ [v])=aH l ++ [.int .i64 v.1, .int .i64 v.2]:=by simp [aH]
  rw [e,Zq];exact hs
 ·rcases ho j hj with h1 | h1
  ·exact I.o3 j h1
  ·have:=ka.size;have:=I.K.size;exact ⟨by omega,λhf=>by have:=(I.V.hF j hf).1;omega⟩
theorem dy.same {lv:Value} {l:List Vl} {wr w2:World} {nv':Value} {F':Nat->Prop} (I:dy w q h W b rv nv F s lv l wr nv' F') (k:aa (λ_=>False) wr w2):dy w q h W b rv nv F s lv l w2 nv' F':=
 ⟨I.V.same k,I.K.trans (k.mono (λ_ _ h=>h.elim)),I.o1,I.o2,I.L.ab k (λ_ _ h=>h),I.o3,I.ol⟩
theorem dx.push {x:Int} {kd:Int} {wm wa w2:World} {nv2:Value} (V:dx w q h W b rv nv F s) (hm:jr wm b W.T.length (s.1 ++ [x])) (km:aa (·=b) w wm) (ka:aa (λ_=>False) wm wa)
  (cs:List Value) (hcs:cC 2 (gh w F) s.2 cs)
  (hs:Sl w2 60 2 nv2 (s.2.length+1) (cs ++ [.int .i64 kd, .slice none 0 0])) (hk:aa (aq nv) wa w2) (ho:∀ k,aq nv2 k->aq nv k\/wa.heap.size<=k) :
  nX w q h W b rv nv F (s.1 ++ [x],s.2 ++ [(kd,[])]) (w2.setCell ⟨q,3,none⟩ nv2):=by
 have K1:aa (jC q b nv) w w2:=((km.mono (λj _ hj=>.inr (.inl hj))).trans (ka.mono (λ_ _ h=>h.elim))).trans (hk.mono (λj _ hj=>.inr (.inr hj)));have K2:=K1.setCell (p:=⟨q,3,none⟩) (.inl (.inl rfl)) nv2;have hsz:=km.size;have hsz2:=ka.size;have hsz3:=hk.size;have nq:¬ aq nv q:=λhq=>by obtain ⟨_,c,hc⟩:=V.hn.own hq;exact V.hq.ne hc (by decide) rfl
 have nb:¬ aq nv b:=λhq=>by obtain ⟨_,c,hc⟩:=V.hn.own hq;exact V.hm.ne hc (by decide) rfl
 have qb:q≠b:=V.hq.ne V.hm (by decide);have hq2:=hk.au (ka.au (km.au V.hq qb) (λh=>h)) nq;have ne2:∀ k,aq nv2 k->k≠q:=λk hk2 e=>by
  obtain ⟨_,c,hc⟩:=hs.own hk2;exact hc.ne hq2 (by decide) e
 have setk:=(aa.refl (·=q) w2).setCell (p:=⟨q,3,none⟩) (.inl rfl) nv2;refine ⟨nv2,F,⟨by simpa using hq2.aE 3 nv2,V.hw.ab K2 (λj hj=>V.e6 hj),?_,⟨_,by rw [Zq];exact hs.ab setk ne2,?_⟩,by simp [V.hl],λj hj=>⟨?_,?_⟩,V.hO⟩,K2,λj hj=>?_,λj hj=>.inl hj⟩
 ·exact (hm.ab (ka.mono (T:=aq nv) (λ_ _ h=>h.elim) |>.trans hk) nb).ab setk (Ne.symm qb)
 ·refine cC.app (hcs.mono (λa _ r hr=>hr.ab K2 (λj hj _=>(V.hF j hj).2))) rfl ?_;exact ⟨none,0,rfl,Rd.nil _ _,(λa ha=>by cases ha),Zc _⟩
 ·have:=(V.hF j hj).1;have:=K2.size;omega
 ·rintro (e | e | e)
  ·exact (V.hF j hj).2 (.inl e)
  ·exact (V.hF j hj).2 (.inr (.inl e))
  ·rcases ho j e with h1 | h1
   ·exact (V.hF j hj).2 (.inr (.inr h1))
   ·have:=(V.hF j hj).1;omega
 ·rcases ho j hj with h1 | h1
  ·exact .inl h1
  ·exact .inr (by omega)
theorem dy.done {lv:Value} {l:List Vl} {wr:World} {nv':Value} {F':Nat->Prop} {kd:Int} {n:Nat} {g o cap:Nat} {ao:Option Addr} {lc:Nat} (hlv:lv=.slice ao l.length lc) (I:dy w q h W b rv nv F s lv l wr nv' F')
  (hnv:nv'=.slice (some ⟨g,o,none⟩) s.2.length cap) (hn:s.2[n]? = some (kd,[])):nX w q h W b rv nv F (s.1,s.2.set n (kd,l)) (wr.setCell ⟨g,o+n*2+1,none⟩ lv):=by
 subst hnv hlv;have hlt:n<s.2.length:=(Zj.1 hn).1;have hgo:aq (.slice (some ⟨g,o,none⟩) s.2.length cap) g:=rfl;have hne:=λk hk=>I.kP (k:=k) hk;have setk:=(aa.refl (·=g) wr).setCell (p:=⟨g,o+n*2+1,none⟩) (.inl rfl) (.slice ao l.length lc);have K2:aa (jC q b nv) w (wr.setCell ⟨g,o+n*2+1,none⟩ (.slice ao l.length lc)):=I.K.setCell (p:=⟨g,o+n*2+1,none⟩) (by
  rcases I.o1 g hgo with h1 | h1
  ·exact .inl (.inr (.inr h1))
  ·exact .inr h1) _
 obtain ⟨cs,hs,hr⟩:=I.V.hn;have hgq:¬ q=g:=λe=>by
  obtain ⟨_,c,hc⟩:=hs.own hgo;exact I.V.hq.ne hc (by decide) e
 have hgb:¬ b=g:=λe=>by
  obtain ⟨_,c,hc⟩:=hs.own hgo;exact I.V.hm.ne hc (by decide) e
 obtain ⟨ao',cap',e1,hrd,hcm,hnc⟩:=I.L.rd;cases e1;have hlF:∀ k,aq (.slice ao l.length lc) k->¬ k=g:=λk hk e=>by
  subst e;exact (hne _ hk).1 (.inr (.inr hgo))
 refine ⟨.slice (some ⟨g,o,none⟩) s.2.length cap,λk=>F' k\/aq (.slice ao l.length lc) k,⟨setk.au I.V.hq hgq,I.V.hw.ab setk (λj hj e=>?_),I.V.hm.ab setk hgb,?_,by simp [I.V.hl],λj hj=>?_,λj hj=>hj.elim (I.V.hO j) (λh=>(hne j h).2)⟩,K2,I.o1,λj hj=>?_⟩
 ·subst e;exact I.V.e6 hj (.inr (.inr hgo))
 ·have hsl:(s.2.set n (kd,l)).length=s.2.length:=by simp
  refine ⟨cs.set (n*2+1) (.slice ao l.length lc),?_,?_⟩
  ·rw [hsl];exact hs.set (j:=n*2+1) (by omega)
  ·have hr':cC 2 (gh (wr.setCell ⟨g,o+n*2+1,none⟩ (.slice ao l.length lc)) (λk=>F' k\/aq (.slice ao l.length lc) k)) s.2 cs:=
    hr.mono (λa _ r h1=>(h1.ab setk (λj hj _ e=>by subst e;exact (I.V.hF j hj).2 (.inr (.inr hgo)))).more (λj hj=>.inl hj))
   refine cC.setCell hlt (by decide) hr' (λr h2 h3=>?_);have e2:s.2[n]=(kd,[]):=by rw [Le hlt] at hn;exact Option.some.inj hn
   rw [e2] at h3;obtain ⟨_,_,rfl,-⟩:=h3;refine ⟨ao,lc,rfl,hrd.ab setk (λa ha _ e=>?_),λa ha=>.inr ?_,hcm⟩
   ·subst ha;exact hlF a.block rfl e
   ·subst ha;rfl
 ·rcases hj with hj | hj
  ·exact ⟨Zd (I.V.hF j hj).1 setk.size,(I.V.hF j hj).2⟩
  ·exact ⟨Zd (I.L.own hj).1 setk.size,(hne j hj).1⟩
 ·rcases hj with hj | hj
  ·exact I.o2 j hj
  ·exact .inr (I.o3 j hj).1
end
end
section
open Go.RowKit
section
variable {w w':World} {h:dj} {W:Wd} {q b:Nat} {rv nv:Value} {F:Nat->Prop} {s:VS}
theorem dx.seen (V:dx w q h W b rv nv F s) {i:Nat} (hi:i<W.T.length):w.cell? ⟨b,i,none⟩=some (.int .i64 (if (i:Int) ∈ s.1 then ((s.1.idxOf (i:Int):Nat):Int)+1 else 0)):=(V.hm.cell i).trans (nW hi)
theorem dx.cells (V:dx w q h W b rv nv F s):w.cell? ⟨q,0,none⟩=some (.pointer (some ⟨h.p,0,none⟩))/\w.cell? ⟨q,1,none⟩=some (.slice (some ⟨b,0,none⟩) W.T.length W.T.length)/\w.cell? ⟨q,2,none⟩=some rv/\w.cell? ⟨q,3,none⟩=some nv/\q<w.heap.size:=
 ⟨V.hq.cell 0,V.hq.cell 1,V.hq.cell 2,V.hq.cell 3,V.hq.lt⟩
theorem rN (v:Vl) (n:Nat) (V:dx w q h W b rv nv F s) (hv:v.1=3->W.live v.2) (hm:v.1=3->v.2 ∈ s.1) (hl:s.1.length<=1000000) :
  Calls Tryz.prog 112 #[.pointer (some ⟨q,0,none⟩), .agg #[.int .i64 v.1, .int .i64 v.2]] w λe w'=>sf w q h W b rv nv F (valM W.gr n v s) e w':=by
 have HV:=Hz V;obtain ⟨kd,x⟩:=v;dsimp only at hv hm ⊢;have ka:=(Kz w).alloc (.cells #[.int .i64 kd, .int .i64 x] 77);have ay:ak (w.alloc (.cells #[.int .i64 kd, .int .i64 x] 77)) w.heap.size [.int .i64 kd, .int .i64 x] 77:=ak.newAt _ rfl rfl;have ka2:=ka.alloc (.cells #[.int .i64 0, .int .i64 0] 77);have bG:ak ((w.alloc (.cells #[.int .i64 kd, .int .i64 x] 77)).alloc (.cells #[.int .i64 0, .int .i64 0] 77)) (w.heap.size+1) [.int .i64 0, .int .i64 0] 77:=ak.newAt _ (by simp) rfl;have B1:=Hz (ay.alloc (.cells #[.int .i64 0, .int .i64 0] 77));have B2:=Hz bG;have V1:=Hz (V.same ka2);have KA:=Hz ka2;clear ka ay bG ka2 V;go_enter Tryz.func112,Tryz.ntmps112;go_upto_region 1 with fail
 generalize (w.alloc (.cells #[.int .i64 kd, .int .i64 x] 77)).alloc (.cells #[.int .i64 0, .int .i64 0] 77)=w1 at *;obtain ⟨sb,hsb⟩:∃ k,w.heap.size=k:=⟨_,rfl⟩;rw [hsb] at B1 B2;rw [hsb];have HSB:=Hz hsb;clear hsb;have s0:=B1.o.cell 0;have s1:=B1.o.cell 1;have sl:=B1.o.lt;have l0:=B2.o.cell 0;have l1:=B2.o.cell 1;have ll:=B2.o.lt;have f0:=B2.o.free 0;have f1:=B2.o.free 1;simp only [Lz,aB] at s0 s1 l0 l1;have FIN:=Hz (λ(wz:World) (k:aa (·=sb+1) w1 wz)=>(show nX w q h W b rv nv F s wz from by
  have ho:∀ j,h.Own j->j<w.heap.size:=λj hj=>HV.o.hw.aZ hj;have V2:=V1.o.ab k (λj hj e=>by have:=HV.o.lt hj;rw [HSB.o] at this;omega) (λj hj e=>by have:=ho j hj;rw [HSB.o] at this;omega) (λj hj e=>by have:=(HV.o.hF j hj).1;rw [HSB.o] at this;omega)
  exact ⟨nv,F,V2,(KA.o.mono (λ_ _ h=>h.elim)).then k (λj hj=>.inr (by rw [HSB.o];omega)),λj hj=>.inl hj,λj hj=>.inl hj⟩))
 by_cases h3:kd=3
 case neg=>
  have HE:=Hz (show valM W.gr n (kd,x) s=((kd,x),s) from dK W.gr n s h3);have e3:(kd != 3)=true:=by simpa using h3
  clear h3;go_wp2_with (refine ct rfl 77 (.tmp 3) rfl (by kernel_rfl) sb 0 rfl _ _ s0 s1 ?_);have bG:=(B2.o.aE 0 (.int .i64 kd)).aE 1 (.int .i64 x);have x0:=bG.cell 0;have x1:=bG.cell 1;simp only [Zu,Zv,Lz,aB] at x0 x1;refine bodyPost_ret (v:=.agg #[.int .i64 kd, .int .i64 x]) (by simp [results,Tryz.results112,go_sem,x0,x1]) rfl ?_;refine ⟨by rw [HE.o],?_⟩;rw [HE.o];exact FIN.o _ (((aa.refl (·=sb+1) w1).setCell (p:=⟨sb+1,0,none⟩) (.inl rfl) _).setCell (p:=⟨sb+1,1,none⟩) (.inl rfl) _)
 subst h3;have HM:=Hz (hm rfl);have hlv:=hv rfl;obtain ⟨x,rfl⟩:=Zg hlv.1;have HE:=Hz (show valM W.gr n (3,(x:Int)) s=(ij (s.1.idxOf (x:Int)),s) from fV W.gr n rfl HM.o);have hxl:x<W.T.length:=by have:=hlv.2.1;omega
 have hxi:(x:Int)<W.T.length:=hlv.2.1;have hx0:=V1.o.seen hxl;rw [if_pos HM.o] at hx0;have hil:s.1.idxOf (x:Int)<=1000000:=by have:=List.idxOf_le_length (l:=s.1) (a:=(x:Int));omega
 obtain ⟨-,q1,-,-,ql⟩:=V1.o.cells;have hbl:=V1.o.hm.lt;clear hm hv hlv;generalize s.1.idxOf (x:Int)=ix at *;have hne:(((ix:Int)+1) == 0)=false:=by simp;omega
 have hwr:IntKind.i64.wrap (ix:Int)=(ix:Int):=IntWalk.i64_in _ (by omega);go_wp2_with fail;refine a6 (ftq [0,1,2,4] (.pure 3 (.pure 5 (.free 6 (.pure 7 (.free 8 (.fin))))))) [] (Fz q1 (Fz s1 (Fa hx0))) ?_
 iterate 9 refine Wz ?_
 refine av ?_;go_wp2_with fail;refine a6 (ftq [0,1,2,4] (.pure 3 (.pure 5 (.free 6 (.pure 7 (.free 8 (.free 9 (.run 10 (.swi [] (.fin)))))))))) [10] (Fz q1 (Fz s1 (Fa hx0))) ?_
 iterate 10 refine Wz ?_
 refine aD rfl rfl rfl (λK hK=>?_);unfold ax;go_simp;refine hK _ _ ?_;clear hK K;refine aC (λ_=>True) trivial (av ?_);go_wp2_with fail;have bG:=((B2.o.aE 0 (.int .i64 3)).aE 1 (.int .i64 ix)).drew.drew;have x0:=bG.cell 0;have x1:=bG.cell 1;simp only [Zu,Zv,Lz,aB] at x0 x1;refine bodyPost_ret (v:=.agg #[.int .i64 3, .int .i64 ix]) (by simp [results,Tryz.results112,go_sem,x0,x1]) rfl ?_;refine ⟨by rw [HE.o];rfl,?_⟩;rw [HE.o];exact FIN.o _ ((((aa.refl (·=sb+1) w1).setCell (p:=⟨sb+1,0,none⟩) (.inl rfl) _).setCell (p:=⟨sb+1,1,none⟩) (.inl rfl) _).drew.drew)
end
end
section
open Go.RowKit
section
variable {w w':World} {h:dj} {W:Wd} {q b:Nat} {rv nv:Value} {F:Nat->Prop} {s:VS}
def vj (h:dj) (W:Wd) (q b:Nat) (rv:Value) (n:Nat):Prop:=∀ (v:Vl) (nv:Value) (F:Nat->Prop) (s:VS) (w:World),dx w q h W b rv nv F s->(v.1=3->W.live v.2)->dI W.all s.1<=n->s.1.length+dI W.all s.1<=5000 ->
 Calls Tryz.prog 112 #[.pointer (some ⟨q,0,none⟩), .agg #[.int .i64 v.1, .int .i64 v.2]] w λe w'=>sf w q h W b rv nv F (valM W.gr n v s) e w'
theorem y5 {x:Int} {j:Nat} (hj:j<(W.th x).fs.length):(W.gr x).2[j]? = some ((W.th x).fs.getD j (0,0)):=by
 show ((W.th x).fs ++ _)[j]? = _
 rw [List.getElem?_append_left hj,Ld,Le hj];rfl
theorem Ag {x:Int} {j:Nat} (hk:(W.th x).k=5) (h0:(W.th x).fs.length=0) (hj:j<(dY W.wait x).length):(W.gr x).2[j]? = some (3,(dY W.wait x).getD j 0):=by
 show ((W.th x).fs ++ (if (W.th x).k=5 then (dY W.wait x).map λy=>((3,y):Vl) else []))[j]? = _
 rw [if_pos hk,List.length_eq_zero_iff.1 h0,List.nil_append,Zw,Le hj,Ld,Le hj];rfl
theorem Ch {x:Int}:(W.gr x).2.length=(W.th x).fs.length+if (W.th x).k=5 then (dY W.wait x).length else 0:=by
 show ((W.th x).fs ++ (if (W.th x).k=5 then (dY W.wait x).map λy=>((3,y):Vl) else [])).length=_
 rw [Zq];split <;> simp
theorem Ci (n:Nat) (ih:vj h W q b rv n) (x:Nat) (nv:Value) (F:Nat->Prop) (s:VS) (w:World) (V:dx w q h W b rv nv F s) (hlv:W.live (x:Int)) (hm:¬ (x:Int) ∈ s.1) (hT:W.T.length<=100000)
  (hu:dI W.all s.1<=n+1) (hc:s.1.length+dI W.all s.1<=5000) :
  Calls Tryz.prog 140 #[.pointer (some ⟨q,0,none⟩), .int .i64 x] w λe w'=>e=.returned (.tuple #[])/\nX w q h W b rv nv F (valM W.gr (n+1) (3,(x:Int)) s).2 w':=by
 have HV:=Hz V;have HLV:=Hz hlv;have HOK:=Hz V.hw.ok;have hx:=Wd.jO.2 hlv;have HNEW:=Hz (eQ W.gr n (v:=(3,(x:Int))) rfl hm);have HM:=Hz hm;have HX:=Hz hx;have hp:=lC hx hm;have HU:=Hz (show dI W.all (s.1 ++ [(x:Int)])<=n by omega);have HC:=Hz (show (s.1 ++ [(x:Int)]).length+dI W.all (s.1 ++ [(x:Int)])<=5000 by rw [Zq];simp;omega);have hl5:s.1.length<=5000:=by omega
 obtain ⟨ni,hi,hz0,hz1,hz2⟩:=dJ sM;have Ni:=Hz hi;have Nz0:=Hz hz0;have Nz1:=Hz hz1;have Nz2:=Hz hz2;clear hi hz0 hz1 hz2;obtain ⟨vi,hi,hz0,hz1,hz2⟩:=dJ jJ;have Vi:=Hz hi;have Vz0:=Hz hz0;have Vz1:=Hz hz1;have Vz2:=Hz hz2;clear hi hz0 hz1 hz2;obtain ⟨cs,hsl,hcs⟩:=V.hn;obtain ⟨no,nc,rfl,-,hnm,-⟩:=hsl.rd;have HSL:=Hz hsl;have HCS:=Hz hcs;have HLL:=Hz V.hl;have hs5:s.2.length<=5000:=by rw [V.hl];exact hl5
 have hxl:x<W.T.length:=by have:=hlv.2.1;omega
 have hxi:(x:Int)<W.T.length:=hlv.2.1;have hx0:=V.seen hxl;rw [if_neg hm] at hx0;have hbf:=V.hm.free x;have hbl:=V.hm.lt;obtain ⟨c0,c1,-,c3,cl⟩:=V.cells;obtain ⟨gt,ot,ntc,fo,fc,etl,hgt,t0,t1,efv,hfs⟩:=V.hw.rowAt hlv;rw [Zt] at t0 t1 efv;obtain ⟨p0,-⟩:=V.hw.cells;rw [etl] at p0;have pl:=V.hw.hp.lt;have hwr:IntKind.i64.wrap ((s.2.length:Int)+1)=(s.2.length:Int)+1:=IntWalk.i64_in _ (by omega);have HTV:=Hz etl;clear hm hp hu hc hsl hcs hnm hfs efv etl V hx hlv;go_enter Tryz.func140,Tryz.ntmps140;go_upto_region 2 with fail
 have hset:=HV.o.hm.aE x (.int .i64 ((s.2.length:Int)+1));rw [HV.o.hl,xO hxl HM.o,<-HV.o.hl] at hset;have KM:=Hz ((aa.refl (·=b) w).setCell (p:=⟨b,x,none⟩) (.inl rfl) (.int .i64 ((s.2.length:Int)+1)));have HSEE:=Hz (show jr _ b W.T.length (s.1 ++ [(x:Int)]) from hset);have Wm:=Hz (HV.o.hw.ab KM.o (λj hj e=>HV.o.e6 hj (.inr (.inl e))));have HQM:=Hz (KM.o.au HV.o.hq (λe=>HV.o.hq.ne HV.o.hm (by decide) e));clear hset hx0 hbf hbl c0 c1 c3 cl t0 t1 p0 pl hgt hwr;generalize w.setCell ⟨b,x,none⟩ (.int .i64 ((s.2.length:Int)+1))=wm at *;have c0:=HQM.o.cell 0;have c3:=HQM.o.cell 3;have cl:=HQM.o.lt;simp only [Lz,aB] at c0 c3;obtain ⟨gt',ot',ntc',fo,fc,etl,hgt,t0,t1,efv,hfs⟩:=Wm.o.rowAt HLV.o;rw [HTV.o] at etl;cases etl;rw [Zt] at t0 t1 efv;obtain ⟨p0,-⟩:=Wm.o.cells;rw [HTV.o] at p0;have pl:=Wm.o.hp.lt;have HFS:=Hz hfs;have HEF:=Hz efv;have hfl:=(bL (HOK.o.tk _ HLV.o)).2.2.2;have HFT:=Hz (HOK.o.tk _ HLV.o);have HFV:=Hz (λj (hj:j<(W.th (x:Int)).fs.length)=>y5 (W:=W) (x:=(x:Int)) hj);have HLEN:=Hz (Ch (W:=W) (x:=(x:Int)));have HWT:=Hz (λj hk h0 hj=>Ag (W:=W) (x:=(x:Int)) (j:=j) hk h0 hj);have HTVV:=Hz (HOK.o.tv _ HLV.o);clear efv hfs;go_upto_region 3 with fail
 obtain ⟨kd,hkd⟩:∃ k,(W.th (x:Int)).k=k:=⟨_,rfl⟩;have HKT:=Hz hkd;rw [hkd] at t0;clear hkd;refine a6 (ftq [0,1,2,3,4,6,7,8] (.pure 5 (.pure 9 (.free 10 (.run 11 (.run 12 (.swi [16] (ftq [13,14,15] (.run 16 (.swi [] (.fin))))))))))) [12,13,14,15,16] (Fz c3 (Fa t0)) ?_
 iterate 11 refine Wz ?_
 refine aN rfl rfl (λK hK=>?_);unfold ax;go_simp;have hka:aa (λ_=>False) wm ((wm.alloc (.cells #[.int .i64 kd, .slice none 0 0] 60)).drew):=((Kz wm).alloc (.cells #[.int .i64 kd, .slice none 0 0] 60)).drew;refine hK _ _ (λ_=>⟨(World.cell?_of_block (w:=wm) (a:=⟨q,3,none⟩) (hka.block _ cl (λh=>h))).trans c3,(World.cell?_of_block (w:=wm) (a:=⟨gt,ot+x*4,none⟩) (hka.block _ hgt (λh=>h))).trans t0⟩) ?_;clear hK K;refine aD rfl rfl rfl (λK hK=>?_);refine dN (.tmp 39) (.tmp 45) 29 rfl 60 ni (.agg #[.int .i64 0, .slice none 0 0]) 2 32 Tryz.underlying29 Ni.o Nz0.o Nz1.o Nz2.o rfl (by decide) _ s.2.length cs rfl ((HSL.o.ab KM.o (λj hj e=>by subst e;obtain ⟨_,c,hc⟩:=HSL.o.own hj;exact HV.o.hm.ne hc (by decide) rfl)).ab hka (λ_ _ h=>h)) ⟨wm.heap.size,0,none⟩ 1 1 [.int .i64 kd, .slice none 0 0] rfl rfl (bV wm 60 #[.int .i64 kd, .slice none 0 0]) (by intro u hu;simp at hu;rcases hu with rfl | rfl <;> rfl) (by unfold maxLen;omega) (by omega) ?_;intro v2 w2 hs2 hk2 ho2;refine hK _ _ ?_;clear hK K;have HT2:=Hz (HV.o.push (x:=(x:Int)) (kd:=kd) HSEE.o KM.o hka cs HCS.o hs2 hk2 ho2);have nq:¬ aq (.slice no s.2.length nc) q:=λhq=>by obtain ⟨_,c,hc⟩:=HSL.o.own hq;exact HV.o.hq.ne hc (by decide) rfl
 have hq2:=hk2.au (hka.au HQM.o (λh=>h)) nq;have x3:=hq2.cell 3;have xl:=hq2.lt;have xf:=hq2.free 3;simp only [Lz,aB] at x3;obtain ⟨vo2,vc2,rfl,-,-,-⟩:=hs2.rd;clear hs2 hk2 ho2 hka nq hq2 c3 c0 cl t0 t1 p0 pl hgt;refine aC (λ_=>True) trivial ?_
 iterate 3 refine Wz ?_
 refine aD rfl rfl rfl (λK hK=>?_);unfold ax;go_simp;refine hK _ _ ?_;clear hK K;refine aC (λ_=>True) trivial (av ?_);clear x3 xl xf;have HI:=Hz (show ∃ nv1 F1,dy w q h W b rv (.slice no s.2.length nc) F (s.1 ++ [(x:Int)],s.2 ++ [(kd,[])]) (.slice none 0 0) [] (w2.setCell ⟨q,3,none⟩ (.slice vo2 (s.2.length+1) vc2)) nv1 F1 by
  obtain ⟨nv1,F1,V1,k1,p1,p2⟩:=HT2.o
  exact ⟨nv1,F1,V1,k1,p1,p2,Sl.nil _ _ _,λk hk=>(b9 hk).elim,λk hk=>HV.o.hw.aZ hk⟩)
 clear HT2;generalize w2.setCell ⟨q,3,none⟩ (.slice vo2 (s.2.length+1) vc2)=w3 at *;have hkd:(W.gr (x:Int)).1=kd:=HKT.o;have HKP:=Hz (λj=>wh W.gr n (x:Int) s j HLL.o);have HUN:=Hz (λj=>CY (Wd.sJ HOK.o) (n:=n) (s:=s) HX.o j HU.o HC.o);have HI0:=Hz (show ∃ nv1 F1,dy w q h W b rv (.slice no s.2.length nc) F (NS W.gr n (x:Int) s 0).2 (.slice none 0 0) (NS W.gr n (x:Int) s 0).1 w3 nv1 F1 by rw [wg,hkd];exact HI.o);have HKD:=Hz hkd;clear HI hkd;have ih':=Hz ih;obtain ⟨f,hff⟩:∃ f,(W.th (x:Int)).fs.length=f:=⟨_,rfl⟩;have HFF:=Hz hff;rw [hff] at HFV HLEN HEF hfl;rw [HKT.o] at HLEN;have ROW:=Hz (λ(wx:World) (G:aR wx h W)=>(show gt<wx.heap.size/\wx.cell? ⟨gt,ot+x*4,none⟩=some (.int .i64 kd)/\wx.cell? ⟨gt,ot+x*4+1,none⟩=some (.slice fo f fc)/\Sl wx 77 2 (.slice fo f fc) f (aH (W.th (x:Int)).fs) from by
  obtain ⟨gt',ot',ntc',fo',fc',etl,hgt,t0,t1,efv,hfs⟩:=G.rowAt HLV.o;rw [HTV.o] at etl;cases etl;rw [Zt] at t0 t1 efv;rw [HEF.o,hff] at efv;cases efv;rw [hff] at t1 hfs;rw [HKT.o] at t0
  exact ⟨hgt,t0,t1,hfs⟩))
 clear hff HFS;obtain ⟨hgt,t0,t1,-⟩:=ROW.o w3 HI0.o.choose_spec.choose_spec.V.hw;go_wp2_with fail;clear hgt t0 t1;go_loopw [6,55] (λlv i wr=>∃ (j:Nat) (nv1:Value) (F1:Nat->Prop),j<=f/\i=.int .i64 j/\dy w q h W b rv (.slice no s.2.length nc) F (NS W.gr n (x:Int) s j).2 lv (NS W.gr n (x:Int) s j).1 wr nv1 F1) (λ_ i _=>f-(intOf i).toNat)
 case atStart=>
  obtain ⟨nv1,F1,hI⟩:=HI0.o;exact ⟨0,nv1,F1,Zc _,rfl,hI⟩
 case round=>
  clear HI0;obtain ⟨j,nv1,F1,hj,rfl,hI⟩:=hrel;have HI:=Hz hI;by_cases hlt:j<f
  ·have HST:=Hz (pz W.gr n (x:Int) s (HFV.o j hlt));have hjl:=qV W.gr n (x:Int) s (j:=j) (by rw [HLEN.o];omega);have HJL:=Hz hjl;obtain ⟨hgt,-,-,hfs⟩:=ROW.o wr hI.V.hw;obtain ⟨_,_,e',hrd,-,-⟩:=hfs.rd;cases e';obtain ⟨gf,of,rfl,hgf,u0,u1⟩:=hrd.fZ j (by rw [HFF.o];exact hlt);obtain ⟨lo,lc,rfl,-,-,-⟩:=hI.L.rd;rw [hjl] at HI ⊢;have hin:(W.th (x:Int)).fs.getD j (0,0) ∈ (W.th (x:Int)).fs:=by rw [Ld,Le (by rw [HFF.o];exact hlt)];exact Ze _
   have HVL:=Hz (λh3=>Wd.aY (HTVV.o _ hin) h3);clear hI hjl hfs hrd hin;generalize (W.th (x:Int)).fs.getD j (0,0)=v at *;have hji:(j:Int)<f:=by omega
   go_upto_region 8 with (refine ct rfl 77 (.tmp 57) rfl (by kernel_rfl) gf (of+j*2) rfl _ _ u0 u1 ?_);have ka:=(Kz wr).alloc (.cells #[.int .i64 v.1, .int .i64 v.2] 77);have BV:=Hz (show ak (wr.alloc (.cells #[.int .i64 v.1, .int .i64 v.2] 77)) wr.heap.size _ 77 from ak.newAt _ rfl rfl);have HI1:=Hz (HI.o.same ka);clear ka u0 u1 hgf hgt HI;generalize wr.alloc (.cells #[.int .i64 v.1, .int .i64 v.2] 77)=wv at *;generalize wr.heap.size=vb at *;have c0:=BV.o.cell 0;have c1:=BV.o.cell 1;have cl:=BV.o.lt;simp only [Lz,aB] at c0 c1;go_wp2_with (refine ct rfl 77 (.tmp 8) rfl (by kernel_rfl) vb 0 rfl _ _ c0 c1 ?_);refine (ih'.o v nv1 F1 _ _ HI1.o.V HVL.o (HUN.o j).1 (HUN.o j).2).mono ?_;rintro e w4 ⟨rfl,ht⟩;obtain ⟨nv2,F2,hI2⟩:=HI1.o.told ht;obtain ⟨⟨⟨r1,r2⟩,sr⟩,hr⟩:∃ t,valM W.gr n v (NS W.gr n (x:Int) s j).2=t:=⟨_,rfl⟩;rw [hr] at hI2 HST ⊢;dsimp only at hI2 HST ⊢;have HI2:=Hz hI2;have HL2:=Hz (show Sl w4 77 2 (.slice lo j lc) j (aH (NS W.gr n (x:Int) s j).1) by have:=hI2.L;rw [HJL.o] at this;exact this);clear hI2 ht c0 c1 cl hr HI1 BV;go_wp2_with (at_builtin;refine cE rfl (.tmp 59) (.tmp 63) 28 rfl 77 vi (.agg #[.int .i64 0, .int .i64 0]) 2 16 Tryz.underlying28 Vi.o Vz0.o Vz1.o Vz2.o rfl (by decide) _ j (aH (NS W.gr n (x:Int) s j).1) rfl (HL2.o.ab ((Kz w4).alloc _) (λ_ _ h=>h)) ⟨(w4).heap.size,0,none⟩ 1 1 [.int .i64 r1, .int .i64 r2] rfl rfl (bV w4 77 #[.int .i64 r1, .int .i64 r2]) (by intro u hu;simp at hu;rcases hu with rfl | rfl <;> rfl) (by unfold maxLen;omega) (by omega) ?_);intro v6 w6 hs6 hk6 ho6;have HI5:=Hz (HI2.o.app (v:=(r1,r2)) ((Kz w4).alloc _) (by rw [HJL.o];exact hs6) hk6 (by simpa using ho6));clear hs6 hk6 ho6;go_wp2_with fail;go_roundw
   case rel=>exact ⟨j+1,nv2,F2,by omega,by go_num,by rw [HST.o];exact HI5.o⟩
   case measure=>simp [intOf];omega
  ·obtain rfl:j=f:=by omega
   clear hlt hj;obtain ⟨hgt,t0,t1,-⟩:=ROW.o wr hI.V.hw;by_cases hk5:kd=5
   ·subst hk5;have hj0:j=0:=by
     have:=HFT.o;rw [HKT.o,HFF.o] at this;simp [bj] at this;omega
    subst hj0;rw [if_pos rfl] at HLEN;have HGW:=Hz (λ(j:Nat) (hj:j<(dY W.wait (x:Int)).length)=>HWT.o j HKT.o HFF.o hj);have hwl:(dY W.wait (x:Int)).length<=24:=by have h1:=qQ (x:Int) W.wait;have h2:=HOK.o.hq;unfold dY;unfold gM at h1;omega
    have hwl2:W.wait.length<=1000000:=by have h2:=HOK.o.hq;omega
    have c0:=hI.V.hq.cell 0;have cl:=hI.V.hq.lt;have pl:=hI.V.hw.hp.lt;simp only [Lz,aB] at c0;have HAT:=Hz (DU h.p h.gv h.wv W.ai W.wait (x:Int) wr hI.V.hw.side hwl2);clear hI;go_wp2_with fail;refine HAT.o.mono ?_;rintro e w4 ⟨ao,ac,rfl,hs4,hk4,ho4⟩;have hI4:=HI.o.same hk4;have HI4:=Hz hI4;have HS4:=Hz hs4;have HO4:Hd (∀ k,aq (.slice ao (gM (x:Int) W.wait).length ac) k->wr.heap.size<=k):=λk hk=>ho4 k hk;clear hs4 hk4 ho4 hI4 c0 cl pl HAT hgt t0 t1;have hLW:gM (x:Int) W.wait=dY W.wait (x:Int):=rfl;rw [hLW] at HS4 HO4 ⊢;have HRU:=Hz (show ∀ y ∈ dY W.wait (x:Int),W.live y from λy hy=>by
     unfold dY at hy;obtain ⟨e,he,rfl⟩:=Zi.1 hy
     exact (HOK.o.wv e (Zo.1 he).1).2.2)
    clear hLW;generalize dY W.wait (x:Int)=L at *;simp only [Nat.zero_add] at HLEN;go_wp2_with fail;go_loopw [6,80] (λlv i wx=>∃ (j:Nat) (nv1:Value) (F1:Nat->Prop),j<=L.length/\i=.int .i64 j/\dy w q h W b rv (.slice no s.2.length nc) F (NS W.gr n (x:Int) s j).2 lv (NS W.gr n (x:Int) s j).1 wx nv1 F1/\Sl wx 2 1 (.slice ao L.length ac) L.length (L.map (Value.int .i64))) (λ_ i _=>L.length-(intOf i).toNat)
    case atStart=>
     exact ⟨0,nv1,F1,Zc _,rfl,HI4.o,HS4.o⟩
    case round=>
     clear HI HI4 HS4 HO4;rename_i nv0 F0 _ _ _;obtain ⟨j,nv1,F1,hj,rfl,hI,hsr⟩:=hrel;have HI:=Hz hI;have HSR:=Hz hsr;obtain ⟨_,_,e',hrd,-,-⟩:=hsr.rd;cases e';clear hsr;by_cases hlt:j<L.length
     ·have HST:=Hz (pz W.gr n (x:Int) s (HGW.o j hlt));have hjl:=qV W.gr n (x:Int) s (j:=j) (by rw [HLEN.o];omega);have HJL:=Hz hjl;obtain ⟨lo,lc,rfl,-,-,-⟩:=hI.L.rd;rw [hjl] at HI ⊢;obtain ⟨gg,go,rfl,ggl,g0⟩:=hrd.int64 j hlt;have HLU:=Hz (HRU.o (L.getD j 0) (by rw [Ld,Le hlt];exact Ze hlt));clear hI hjl hrd;generalize L.getD j 0=y at *;go_wp2_with fail;refine (ih'.o (3,y) nv1 F1 _ _ HI.o.V (λ_=>HLU.o) (HUN.o j).1 (HUN.o j).2).mono ?_;rintro e w5 ⟨rfl,ht⟩;have HSR5:=Hz (HSR.o.ab ht.choose_spec.choose_spec.2.1 (λk hk=>by obtain ⟨_,c,hc⟩:=HSR.o.own hk;exact HI.o.V.kO hc (by decide) (by decide) (by decide)));obtain ⟨nv2,F2,hI2⟩:=HI.o.told ht;obtain ⟨⟨⟨r1,r2⟩,sr⟩,hr⟩:∃ t,valM W.gr n (3,y) (NS W.gr n (x:Int) s j).2=t:=⟨_,rfl⟩;rw [hr] at hI2 HST ⊢;dsimp only at hI2 HST ⊢;have HI2:=Hz hI2;have HL2:=Hz (show Sl w5 77 2 (.slice lo j lc) j (aH (NS W.gr n (x:Int) s j).1) by have:=hI2.L;rw [HJL.o] at this;exact this);clear hI2 ht g0 ggl hr;go_wp2_with (at_builtin;refine cE rfl (.tmp 84) (.tmp 89) 28 rfl 77 vi (.agg #[.int .i64 0, .int .i64 0]) 2 16 Tryz.underlying28 Vi.o Vz0.o Vz1.o Vz2.o rfl (by decide) _ j (aH (NS W.gr n (x:Int) s j).1) rfl (HL2.o.ab ((Kz w5).alloc _) (λ_ _ h=>h)) ⟨(w5).heap.size,0,none⟩ 1 1 [.int .i64 r1, .int .i64 r2] rfl rfl (bV w5 77 #[.int .i64 r1, .int .i64 r2]) (by intro u hu;simp at hu;rcases hu with rfl | rfl <;> rfl) (by unfold maxLen;omega) (by omega) ?_);intro v6 w6 hs6 hk6 ho6;have HI5:=Hz (HI2.o.app (v:=(r1,r2)) ((Kz w5).alloc _) (by rw [HJL.o];exact hs6) hk6 (by simpa using ho6));have hka6:=(Kz w5).alloc (.cells #[.int .i64 r1, .int .i64 r2] 77);have HSR6:=Hz ((HSR5.o.ab hka6 (λ_ _ h=>h)).ab hk6 (λk hk hk2=>by
       obtain ⟨_,c,hc⟩:=(HSR5.o.ab hka6 (λ_ _ h=>h)).own hk;obtain ⟨_,c',hc'⟩:=(HL2.o.ab hka6 (λ_ _ h=>h)).own hk2
       exact hc.ne hc' (by decide) rfl))
      clear hs6 hk6 ho6 hka6;go_wp2_with fail;go_roundw
      case rel=>exact ⟨j+1,nv2,F2,by omega,by go_num,by rw [HST.o];exact HI5.o,HSR6.o⟩
      case measure=>simp [intOf];omega
     ·obtain rfl:j=L.length:=by omega
      clear hlt hj;have HI9:=Hz hI;obtain ⟨cs9,hs9,hr9⟩:=hI.V.hn;have hlt9:s.1.length<(NS W.gr n (x:Int) s L.length).2.2.length:=(Zj.1 (HKP.o L.length)).1;obtain ⟨g,o,cap9,cur,rfl,hb9,h91,h92,h93,h94⟩:=hs9.laid (by omega);have c3:=hI.V.hq.cell 3;have cl:=hI.V.hq.lt;have g1:=hb9.cell (o+s.2.length*2+1);have gl:=hb9.lt;have gf:=hb9.free (o+s.2.length*2+1);have hs9l:s.2.length<(NS W.gr n (x:Int) s L.length).2.2.length:=by rw [HLL.o];exact hlt9
      have hs9i:(s.2.length:Int)<((NS W.gr n (x:Int) s L.length).2.2.length:Int):=by omega
      obtain ⟨u9,hu9⟩:∃ u,cur[o+s.2.length*2+1]? = some u:=⟨_,Le (by omega)⟩;simp only [Lz,aB] at c3;rw [hu9] at g1;obtain ⟨lo9,lc9,rfl,-,-,-⟩:=hI.L.rd;have hs9m:(NS W.gr n (x:Int) s L.length).2.2.length<=cap9:=h91;clear hI hr9 hs9 hb9 h92 h93 h94 hlt9 h91 hu9;go_wp2_with fail;go_end0;have hd:=dy.done (kd:=5) (n:=s.1.length) rfl HI9.o rfl (by have hkp:=HKP.o L.length;rw [HKD.o] at hkp;exact hkp);refine ⟨rfl,?_⟩;rw [HNEW.o];have hfull:NS W.gr n (x:Int) s L.length=fldM (valM W.gr n) (W.gr (x:Int)).2 (s.1 ++ [(x:Int)],s.2 ++ [((W.gr (x:Int)).1,[])]):=by
       unfold NS;rw [List.take_of_length_le (by rw [HLEN.o];simp)]
      rw [<-hfull,HKD.o];rw [<-HLL.o] at hd ⊢;exact hd
   ·have hkb:(kd == 5)=false:=by simpa using hk5
    rw [if_neg hk5] at HLEN;clear hk5;have HI9:=Hz hI;obtain ⟨cs9,hs9,hr9⟩:=hI.V.hn;have hlt9:s.1.length<(NS W.gr n (x:Int) s j).2.2.length:=(Zj.1 (HKP.o j)).1;obtain ⟨g,o,cap9,cur,rfl,hb9,h91,h92,h93,h94⟩:=hs9.laid (by omega);have c3:=hI.V.hq.cell 3;have cl:=hI.V.hq.lt;have g1:=hb9.cell (o+s.2.length*2+1);have gl:=hb9.lt;have gf:=hb9.free (o+s.2.length*2+1);have hs9l:s.2.length<(NS W.gr n (x:Int) s j).2.2.length:=by rw [HLL.o];exact hlt9
    have hs9i:(s.2.length:Int)<((NS W.gr n (x:Int) s j).2.2.length:Int):=by omega
    obtain ⟨u9,hu9⟩:∃ u,cur[o+s.2.length*2+1]? = some u:=⟨_,Le (by omega)⟩;simp only [Lz,aB] at c3;rw [hu9] at g1;obtain ⟨lo9,lc9,rfl,-,-,-⟩:=hI.L.rd;have hs9m:(NS W.gr n (x:Int) s j).2.2.length<=cap9:=h91;clear hI hr9 hs9 hb9 h92 h93 h94 hlt9 h91 hu9;go_wp2_with fail;go_end0;have hd:=dy.done (kd:=kd) (n:=s.1.length) rfl HI9.o rfl (by have hkp:=HKP.o j;rw [HKD.o] at hkp;exact hkp);refine ⟨rfl,?_⟩;rw [HNEW.o];have hfull:NS W.gr n (x:Int) s j=fldM (valM W.gr n) (W.gr (x:Int)).2 (s.1 ++ [(x:Int)],s.2 ++ [((W.gr (x:Int)).1,[])]):=by
     unfold NS;rw [List.take_of_length_le (by rw [HLEN.o];simp)]
    rw [<-hfull,HKD.o];rw [<-HLL.o] at hd ⊢;exact hd
end
end
section
open Go.RowKit
theorem Ah {G:Gr} {n:Nat} {x:Int} {s:VS} (hm:¬ x ∈ s.1):x ∈ (valM G (n+1) (3,x) s).2.1/\(valM G (n+1) (3,x) s).2.1.idxOf x=s.1.length:=by
 rw [eQ G n (v:=(3,x)) rfl hm];dsimp only;obtain ⟨m,hm2⟩:=lD (lE G n) (G x).2 (s.1 ++ [x],s.2 ++ [((G x).1,[])]);rw [hm2];dsimp only;refine ⟨by simp,?_⟩;rw [List.append_assoc,List.idxOf_append,if_neg hm];simp
section
variable {w w':World} {h:dj} {W:Wd} {q b:Nat} {rv nv:Value} {F:Nat->Prop} {s:VS}
theorem xP (n:Nat) (ih:vj h W q b rv n) (x:Nat) (V:dx w q h W b rv nv F s) (hlv:W.live (x:Int)) (hm:¬ (x:Int) ∈ s.1) (hT:W.T.length<=100000)
  (hu:dI W.all s.1<=n+1) (hc:s.1.length+dI W.all s.1<=5000) :
  Calls Tryz.prog 112 #[.pointer (some ⟨q,0,none⟩), .agg #[.int .i64 3, .int .i64 x]] w λe w'=>sf w q h W b rv nv F (valM W.gr (n+1) (3,(x:Int)) s) e w':=by
 have HV:=Hz V;have ka:=(Kz w).alloc (.cells #[.int .i64 3, .int .i64 x] 77);have ay:ak (w.alloc (.cells #[.int .i64 3, .int .i64 x] 77)) w.heap.size [.int .i64 3, .int .i64 x] 77:=ak.newAt _ rfl rfl;have ka2:=ka.alloc (.cells #[.int .i64 0, .int .i64 0] 77);have bG:ak ((w.alloc (.cells #[.int .i64 3, .int .i64 x] 77)).alloc (.cells #[.int .i64 0, .int .i64 0] 77)) (w.heap.size+1) [.int .i64 0, .int .i64 0] 77:=ak.newAt _ (by simp) rfl;have B1:=Hz (ay.alloc (.cells #[.int .i64 0, .int .i64 0] 77));have B2:=Hz bG;have V1:=Hz (V.same ka2);have KA:=Hz ka2;have hz1:((w.alloc (.cells #[.int .i64 3, .int .i64 x] 77)).alloc (.cells #[.int .i64 0, .int .i64 0] 77)).heap.size=w.heap.size+2:=by simp
 have HE:=Hz (show (valM W.gr (n+1) (3,(x:Int)) s).1=ij s.1.length by rw [eQ W.gr n (v:=(3,(x:Int))) rfl hm]);have HMN:=Hz (Ah (G:=W.gr) (n:=n) hm);have HND:=Hz (λw' (V':dx w' q h W b rv nv F s)=>Ci n ih x nv F s w' V' hlv hm hT hu hc);have hxl:x<W.T.length:=by have:=hlv.2.1;omega
 have hxi:(x:Int)<W.T.length:=hlv.2.1;have hl5:s.1.length<=5000:=by omega
 have HM:=Hz hm;clear ka ay bG ka2 V hm hu hc ih hlv;go_enter Tryz.func112,Tryz.ntmps112;go_upto_region 1 with fail
 generalize (w.alloc (.cells #[.int .i64 3, .int .i64 x] 77)).alloc (.cells #[.int .i64 0, .int .i64 0] 77)=w1 at *;obtain ⟨sb,hsb⟩:∃ k,w.heap.size=k:=⟨_,rfl⟩;rw [hsb] at B1 B2 hz1;rw [hsb];have HSB:=Hz hsb;have HZ1:=Hz hz1;clear hsb hz1;have s0:=B1.o.cell 0;have s1:=B1.o.cell 1;have sl:=B1.o.lt;simp only [Lz,aB] at s0 s1;have hx0:=V1.o.seen hxl;rw [if_neg HM.o] at hx0;obtain ⟨-,q1,-,-,ql⟩:=V1.o.cells;have hbl:=V1.o.hm.lt;go_wp2_with fail;refine a6 (ftq [0,1,2,4] (.pure 3 (.pure 5 (.free 6 (.pure 7 (.free 8 (.fin))))))) [] (Fz q1 (Fz s1 (Fa hx0))) ?_
 iterate 9 refine Wz ?_
 refine av ?_;go_wp2_with fail;refine (HND.o _ (V1.o.same (Kz w1).drew)).mono ?_;rintro e w2 ⟨rfl,ht⟩;obtain ⟨nv1,F1,V2,kk,p1,p2⟩:=ht;have V2:=Hz V2;have K2:=Hz kk;have P1:=Hz p1;have P2:=Hz p2;have fpn:∀ j,sb<=j->j<sb+2->¬ jC q b nv j:=λj h1 h2 hj=>by have:=HV.o.lt hj;rw [HSB.o] at this;omega
 have C1:=Hz (kk.au B1.o.drew (fpn sb (Zb _) (by omega)));have C2:=Hz (kk.au B2.o.drew (fpn (sb+1) (by omega) (by omega)));clear kk p1 p2 fpn s0 s1 sl q1 ql hbl hx0;have s1:=C1.o.cell 1;have sl:=C1.o.lt;have l0:=C2.o.cell 0;have l1:=C2.o.cell 1;have ll:=C2.o.lt;have f0:=C2.o.free 0;have f1:=C2.o.free 1;simp only [Lz,aB] at s1 l0 l1;have hx0:=V2.o.seen hxl;rw [if_pos HMN.o.1,HMN.o.2] at hx0;obtain ⟨-,q1,-,-,ql⟩:=V2.o.cells;have hbl:=V2.o.hm.lt;generalize hix:s.1.length=ix at *;have hwr:IntKind.i64.wrap (ix:Int)=(ix:Int):=IntWalk.i64_in _ (by omega);go_wp2_with fail;refine a6 (ftq [0,1,2,4] (.pure 3 (.pure 5 (.free 6 (.pure 7 (.free 8 (.free 9 (.run 10 (.swi [] (.fin)))))))))) [10] (Fz q1 (Fz s1 (Fa hx0))) ?_
 iterate 10 refine Wz ?_
 refine aD rfl rfl rfl (λK hK=>?_);unfold ax;go_simp;refine hK _ _ ?_;clear hK K;refine aC (λ_=>True) trivial (av ?_);go_wp2_with fail;have bG:=((C2.o.aE 0 (.int .i64 3)).aE 1 (.int .i64 ix)).drew;have x0:=bG.cell 0;have x1:=bG.cell 1;simp only [Zu,Zv,Lz,aB] at x0 x1;refine bodyPost_ret (v:=.agg #[.int .i64 3, .int .i64 ix]) (by simp [results,Tryz.results112,go_sem,x0,x1]) rfl ?_;refine ⟨by rw [HE.o];rfl,?_⟩;have V2:=V2.o;have k2:=K2.o;have p1:=P1.o;have p2:=P2.o;have ke:=(((aa.refl (·=sb+1) w2).setCell (p:=⟨sb+1,0,none⟩) (.inl rfl) (.int .i64 3)).setCell (p:=⟨sb+1,1,none⟩) (.inl rfl) (.int .i64 ix)).drew;have hz:=HZ1.o;have hd1:w1.drew.heap.size=w1.heap.size:=rfl;refine ⟨nv1,F1,V2.ab ke (λj hj e=>?_) (λj hj e=>?_) (λj hj e=>?_),((KA.o.drew.mono (λ_ _ h=>h.elim)).trans k2).then ke (λj hj=>.inr (by rw [HSB.o];omega)),λj hj=>?_,λj hj=>?_⟩
 ·subst e;exact V2.kO C2.o (by decide) (by decide) (by decide) hj
 ·have:=HV.o.hw.aZ hj;rw [HSB.o] at this;omega
 ·subst e;rcases p2 _ hj with h1 | h1
  ·have:=(HV.o.hF _ h1).1;rw [HSB.o] at this;omega
  ·omega
 ·rcases p1 j hj with h1 | h1
  ·exact .inl h1
  ·exact .inr (by rw [HSB.o];omega)
 ·rcases p2 j hj with h1 | h1
  ·exact .inl h1
  ·exact .inr (by rw [HSB.o];omega)
theorem Ai (hT:W.T.length<=100000):∀ n:Nat,n<=5000->vj h W q b rv n:=by
 intro n
 induction n with
 | zero=>
  intro _ v nv F s w V hv hu hc;exact rN v 0 V hv (λh3=>qc (Nat.le_zero.1 hu) (Wd.jO.2 (hv h3))) (by omega)
 | succ n ih=>
  intro hn v nv F s w V hv hu hc;by_cases hm:v.1=3->v.2 ∈ s.1
  ·exact rN v (n+1) V hv hm (by omega)
  ·obtain ⟨h1,h2⟩:=Classical.not_imp.1 hm;obtain ⟨kd,x⟩:=v;dsimp only at h1 h2 hv ⊢;subst h1;have hl:=hv rfl;obtain ⟨x,rfl⟩:=Zg hl.1;exact xP n (ih (by omega)) x V hl h2 hT hu hc
end
end
section
open Go.RowKit
section
variable {w w':World} {h:dj} {W:Wd} {q b:Nat}
structure gw (w:World) (q:Nat) (h:dj) (W:Wd) (b:Nat) (wr:World) (rv nv:Value) (F:Nat->Prop) (s:VS) (l:List Vl):Prop where
 V:dx wr q h W b rv nv F s
 K:aa (λ_=>False) w wr
 o1:∀ k,aq nv k->w.heap.size<=k
 o2:∀ k,F k->w.heap.size<k
 L:Sl wr 77 2 rv l.length (aH l)
 o3:∀ k,aq rv k->w.heap.size<=k/\¬ F k
 oq:w.heap.size<=q
 ob:w.heap.size<=b
 B:ak wr w.heap.size [.slice none 0 0, .slice none 0 0] 31
 ol:∀ k,h.Own k->k<w.heap.size
theorem gw.ng {w wr:World} {rv nv:Value} {F:Nat->Prop} {s:VS} {l:List Vl} (I:gw w q h W b wr rv nv F s l) {k:Nat} (hk:aq rv k):¬ jC q b nv k/\¬ h.Own k:=by
 obtain ⟨_,c,hc⟩:=I.L.own hk;exact ⟨I.V.kO hc (by decide) (by decide) (by decide),λh1=>by have:=I.ol k h1;have:=(I.o3 k hk).1;omega⟩
theorem gw.told {w wr w2:World} {rv nv:Value} {F:Nat->Prop} {s s2:VS} {l:List Vl} (I:gw w q h W b wr rv nv F s l) (t:nX wr q h W b rv nv F s2 w2):∃ nv2 F2,gw w q h W b w2 rv nv2 F2 s2 l:=by
 obtain ⟨nv2,F2,V2,k2,p1,p2⟩:=t;have hz:=I.K.size;refine ⟨nv2,F2,V2,I.K.then k2 (λj hj=>?_),λj hj=>?_,λj hj=>?_,I.L.ab k2 (λj hj=>(I.ng hj).1),λj hj=>⟨(I.o3 j hj).1,λhf=>?_⟩,I.oq,I.ob,k2.au I.B (I.V.kO I.B (by decide) (by decide) (by decide)),I.ol⟩
 ·rcases hj with rfl | rfl | hj
  ·exact .inr I.oq
  ·exact .inr I.ob
  ·exact .inr (I.o1 j hj)
 ·rcases p1 j hj with h | h
  ·exact I.o1 j h
  ·omega
 ·have hbl:=I.B.lt;rcases p2 j hj with h | h
  ·exact I.o2 j h
  ·omega
 ·rcases p2 j hf with h | h
  ·exact (I.o3 j hj).2 h
  ·have:=(I.L.own hj).1;omega
theorem gw.same {w wr w2:World} {rv nv:Value} {F:Nat->Prop} {s:VS} {l:List Vl} (I:gw w q h W b wr rv nv F s l) (k:aa (λ_=>False) wr w2):gw w q h W b w2 rv nv F s l:=
 ⟨I.V.same k,I.K.trans k,I.o1,I.o2,I.L.ab k (λ_ _ h=>h),I.o3,I.oq,I.ob,k.au I.B (λh=>h),I.ol⟩
theorem gw.app {w wr wa w2:World} {rv nv v2:Value} {F:Nat->Prop} {s:VS} {l:List Vl} {v:Vl} (I:gw w q h W b wr rv nv F s l) (ka:aa (λ_=>False) wr wa)
  (hs:Sl w2 77 2 v2 (l.length+1) (aH l ++ [.int .i64 v.1, .int .i64 v.2])) (hk:aa (aq rv) wa w2) (ho:∀ k,aq v2 k->aq rv k\/wa.heap.size<=k):gw w q h W b (w2.setCell ⟨q,2,none⟩ v2) v2 nv F s (l ++ [v]):=by
 have k2:=(ka.mono (T:=aq rv) (λ_ _ h=>h.elim)).trans hk;have hz:=ka.size;have hz2:=I.K.size;have nq:∀ {v:Value} {wx:World} {n:Nat} {xs:List Value},Sl wx 77 2 v n xs->ak wx q [.pointer (some ⟨h.p,0,none⟩), .slice (some ⟨b,0,none⟩) W.T.length W.T.length,rv,nv] 167->¬ aq v q:=λhs hq h=>by
  obtain ⟨_,c,hc⟩:=hs.own h;exact hc.ne hq (by decide) rfl
 have hq2:=k2.au I.V.hq (nq I.L I.V.hq);have set:=(aa.refl (·=q) w2).setCell (p:=⟨q,2,none⟩) (.inl rfl) v2;have V2:=I.V.ab k2 (λj hj hl=>(I.ng hl).1 hj) (λj hj hl=>(I.ng hl).2 hj) (λj hj hl=>(I.o3 j hl).2 hj);have sq:∀ j,aq v2 j->¬ j=q:=λj hj e=>nq hs hq2 (e ▸ hj);have B2:=k2.au I.B (λhl=>by obtain ⟨_,c,hc⟩:=I.L.own hl;exact hc.ne I.B (by decide) rfl);refine ⟨⟨by simpa using hq2.aE 2 v2,V2.hw.ab set (λj hj e=>by subst e;exact V2.e6 hj (.inl rfl)),V2.hm.ab set (λe=>V2.hm.ne V2.hq (by decide) e),V2.hn.ab set (λj hj _ e=>(V2.hF j hj).2 (.inl e)) (λj hj e=>?_),V2.hl,λj hj=>⟨?_,(V2.hF j hj).2⟩,V2.hO⟩,
  (I.K.then k2 (λj hj=>.inr (I.o3 j hj).1)).setCell (p:=⟨q,2,none⟩) (.inr I.oq) _,I.o1,I.o2,?_,λj hj=>?_,I.oq,I.ob,set.au B2 (B2.ne hq2 (by decide)),I.ol⟩
 ·obtain ⟨_,c,hc⟩:=V2.hn.own hj;exact hc.ne hq2 (by decide) e
 ·have:=(V2.hF j hj).1;have:=set.size;omega
 ·have e:aH (l ++ [v])=aH l ++ [.int .i64 v.1, .int .i64 v.2]:=by simp [aH]
  rw [e,Zq];exact hs.ab set sq
 ·rcases ho j hj with h1 | h1
  ·exact I.o3 j h1
  ·exact ⟨by omega,λhf=>by have:=(I.V.hF j hf).1;omega⟩
theorem Cj (w:World) (H:aR w h W) (hT:W.T.length<=100000) :
  Calls Tryz.prog 48 #[.pointer (some ⟨h.p,0,none⟩)] w λe w'=>rX w W.view e w':=by
 have HH:=Hz H;have HT:=Hz hT;obtain ⟨vi,hi,hz0,hz1,hz2⟩:=dJ jJ;have Vi:=Hz hi;have Vz0:=Hz hz0;have Vz1:=Hz hz1;have Vz2:=Hz hz2;clear hi hz0 hz1 hz2;obtain ⟨i0,hi,hz0,hz1,hz2⟩:=info_parts ic;have hmk:=λ(wx:World)=>dV (P:=Tryz.prog) wx 27 3 i0 (.int .i64 0) Tryz.underlying27 hi hz0 rfl hz1 W.T.length (by rw [hz2];omega) (by omega);clear hi hz0 hz1 hz2 i0;have HOK:=Hz H.ok;have h12:W.roots.length<=12:=by have:=H.ok.hr;omega
 obtain ⟨p0,-⟩:=H.cells;have pl:=H.hp.lt;obtain ⟨tno,tnc,etv⟩:=H.tv;rw [etv] at p0;clear H etv;go_enter Tryz.func48,Tryz.ntmps48;go_upto_region 2 with fail
 have k1:=(((Kz w).alloc (.cells #[.slice none 0 0, .slice none 0 0] 31)).alloc (.cells (Array.replicate W.T.length (.int .i64 0)) 3)).alloc (.cells #[.pointer (some ⟨h.p,0,none⟩), .slice (some ⟨w.heap.size+1,0,none⟩) W.T.length W.T.length, .slice none 0 0, .slice none 0 0] 167);have hb:ak (((w.alloc (.cells #[.slice none 0 0, .slice none 0 0] 31)).alloc (.cells (Array.replicate W.T.length (.int .i64 0)) 3)).alloc (.cells #[.pointer (some ⟨h.p,0,none⟩), .slice (some ⟨w.heap.size+1,0,none⟩) W.T.length W.T.length, .slice none 0 0, .slice none 0 0] 167)) w.heap.size [.slice none 0 0, .slice none 0 0] 31:=((ak.newAt _ rfl rfl).alloc _).alloc _;have hsn:jr (((w.alloc (.cells #[.slice none 0 0, .slice none 0 0] 31)).alloc (.cells (Array.replicate W.T.length (.int .i64 0)) 3)).alloc (.cells #[.pointer (some ⟨h.p,0,none⟩), .slice (some ⟨w.heap.size+1,0,none⟩) W.T.length W.T.length, .slice none 0 0, .slice none 0 0] 167)) (w.heap.size+1) W.T.length []:=by
  unfold jr;rw [y4];exact (ak.newAt _ (by simp) (by simp)).alloc _
 have hv:dx (((w.alloc (.cells #[.slice none 0 0, .slice none 0 0] 31)).alloc (.cells (Array.replicate W.T.length (.int .i64 0)) 3)).alloc (.cells #[.pointer (some ⟨h.p,0,none⟩), .slice (some ⟨w.heap.size+1,0,none⟩) W.T.length W.T.length, .slice none 0 0, .slice none 0 0] 167)) (w.heap.size+1+1) h W (w.heap.size+1) (.slice none 0 0) (.slice none 0 0) (λ_=>False) ([],[]):=
  ⟨ak.newAt _ (by simp) rfl,HH.o.ab k1 (λ_ _ h=>h),hsn,dP.nil _ _,rfl,λ_ h=>h.elim,λ_ h=>h.elim⟩
 have HK1:=Hz k1;have HB:=Hz hb;have HVW:=Hz hv;clear k1 hb hsn hv hmk p0 pl;generalize ((w.alloc (.cells #[.slice none 0 0, .slice none 0 0] 31)).alloc (.cells (Array.replicate W.T.length (.int .i64 0)) 3)).alloc (.cells #[.pointer (some ⟨h.p,0,none⟩), .slice (some ⟨w.heap.size+1,0,none⟩) W.T.length W.T.length, .slice none 0 0, .slice none 0 0] 167)=w1 at *;obtain ⟨-,p1,-⟩:=HVW.o.hw.cells;have pl:=HVW.o.hw.hp.lt;obtain ⟨ro,rc,erv,-,-,-⟩:=HH.o.hr.rd;rw [erv] at p1;have HRV:=Hz erv;clear erv;go_wp2_with fail;have HI0:=Hz (show gw w (w.heap.size+1+1) h W (w.heap.size+1) w1 (.slice none 0 0) (.slice none 0 0) (λ_=>False) (TR W 0).2 (TR W 0).1 from
  ⟨HVW.o,HK1.o,λ_ h=>(b9 h).elim,λ_ h=>h.elim,Sl.nil _ _ _,λ_ h=>(b9 h).elim,by omega,by omega,HB.o,λk hk=>HH.o.aZ hk⟩)
 clear HVW HB HK1 p1 pl;go_loopw [21] (λi wr=>∃ (k:Nat) (rv nv:Value) (F:Nat->Prop),k<=W.roots.length/\i=.int .i64 k/\gw w (w.heap.size+1+1) h W (w.heap.size+1) wr rv nv F (TR W k).2 (TR W k).1) (λi _=>W.roots.length-(intOf i).toNat)
 case atStart=>exact ⟨0,_,_,_,Zc _,rfl,HI0.o⟩
 case round=>
  clear HI0;obtain ⟨k,rv,nv,F,hk,rfl,hI⟩:=hrel;have HI:=Hz hI;have hkl:=CZ (W:=W) (k:=k) hk;have HKL:=Hz hkl;by_cases hlt:k<W.roots.length
  ·have HST:=Hz (Bz (W:=W) (k:=k) hlt);have hm:W.roots.getD k (0,0) ∈ W.roots:=by rw [Ld,Le hlt];exact Ze _
   have HLU:=Hz (λh3=>Wd.aY (HOK.o.rv _ hm) h3);have hrr:Rd wr ro (aH W.roots):=by
    have:=hI.V.hw.hr;rw [HRV.o] at this;obtain ⟨_,_,e',rd,-,-⟩:=this.rd;cases e';exact rd
   obtain ⟨gg,go,rfl,ggl,u0,u1⟩:=hrr.fZ k hlt;clear hI hkl hm hrr;generalize W.roots.getD k (0,0)=y at *;have hki:(k:Int)<W.roots.length:=by omega
   go_upto_region 5 with (refine ct rfl 77 (.tmp 23) rfl (by kernel_rfl) gg (go+k*2) rfl _ _ u0 u1 ?_);have ka:=(Kz wr).alloc (.cells #[.int .i64 y.1, .int .i64 y.2] 77);have BV:=Hz (show ak (wr.alloc (.cells #[.int .i64 y.1, .int .i64 y.2] 77)) wr.heap.size _ 77 from ak.newAt _ rfl rfl);have HIa:=Hz (HI.o.same ka);clear ka u0 u1 ggl HI;generalize wr.alloc (.cells #[.int .i64 y.1, .int .i64 y.2] 77)=wa at *;generalize wr.heap.size=ba at *;have c0:=BV.o.cell 0;have c1:=BV.o.cell 1;have cl:=BV.o.lt;simp only [Lz,aB] at c0 c1;have HVC:=Hz (Ai HT.o 5000 (Zb _) y nv F _ _ HIa.o.V HLU.o (AF HOK.o k).1 (AF HOK.o k).2);go_wp2_with (refine ct rfl 77 (.tmp 5) rfl (by kernel_rfl) ba 0 rfl _ _ c0 c1 ?_);refine HVC.o.mono ?_;rintro e w2 ⟨rfl,ht⟩;obtain ⟨nv2,F2,hI2⟩:=HIa.o.told ht;obtain ⟨⟨⟨r1,r2⟩,sr⟩,hr⟩:∃ t,valM W.gr 5000 y (TR W k).2=t:=⟨_,rfl⟩;rw [hr] at hI2 HST ⊢;dsimp only at hI2 HST ⊢;clear hr ht c0 c1 cl HVC BV;go_upto_region 6 with fail;have hka:=(Kz w2).alloc (.cells #[.int .i64 r1, .int .i64 r2] 77);have hI3:=hI2.same hka;have hvb:ak (w2.alloc (.cells #[.int .i64 r1, .int .i64 r2] 77)) w2.heap.size [.int .i64 r1, .int .i64 r2] 77:=ak.newAt _ rfl rfl;have HI3:=Hz hI3;obtain ⟨lo,lc,rfl,-,-,-⟩:=hI3.L.rd;rw [HKL.o] at HI3;have c2:=hI3.V.hq.cell 2;have cl:=hI3.V.hq.lt;have v0:=hvb.cell 0;have v1:=hvb.cell 1;have vl:=hvb.lt;simp only [Lz,aB] at c2 v0 v1;rw [HKL.o] at c2;have HL3:=Hz (show Sl (w2.alloc (.cells #[.int .i64 r1, .int .i64 r2] 77)) 77 2 (.slice lo k lc) k (aH (TR W k).1) by have:=HI3.o.L;rw [HKL.o] at this;exact this);clear hka hI3 hI2 hvb HIa;generalize w2.alloc (.cells #[.int .i64 r1, .int .i64 r2] 77)=wb at *;generalize w2.heap.size=bv at *;refine a6 (ftq [0,1,2,3,4] (.pure 5 (.pure 6 (.run 7 (.run 8 (.swi [12] (ftq [9,10,11] (.run 12 (.swi [] (.fin)))))))))) [8,9,10,11,12] (Fz c2 (Fz v0 (Fa v1))) ?_
   iterate 7 refine Wz ?_
   refine aN rfl rfl (λK hK=>?_);unfold ax;go_simp;have hkb:aa (λ_=>False) wb ((wb.drew).alloc (.cells #[.int .i64 r1, .int .i64 r2] 77)):=(Kz wb).drew.alloc (.cells #[.int .i64 r1, .int .i64 r2] 77);refine hK _ _ (λhg=>?_) ?_
   ·refine ⟨?_,?_,?_⟩
    ·exact (World.cell?_of_block (w:=wb) (a:=⟨w.heap.size+1+1,2,none⟩) (hkb.block _ cl (λh=>h))).trans c2
    ·exact (World.cell?_of_block (w:=wb) (a:=⟨bv,0,none⟩) (hkb.block _ vl (λh=>h))).trans v0
    ·exact (World.cell?_of_block (w:=wb) (a:=⟨bv,1,none⟩) (hkb.block _ vl (λh=>h))).trans v1
   clear hK K;refine aD rfl rfl rfl (λK hK=>?_);refine dN (.tmp 33) (.tmp 35) 28 rfl 77 vi (.agg #[.int .i64 0, .int .i64 0]) 2 16 Tryz.underlying28 Vi.o Vz0.o Vz1.o Vz2.o rfl (by decide) _ k (aH (TR W k).1) rfl (HL3.o.ab hkb (λ_ _ h=>h)) ⟨wb.heap.size,0,none⟩ 1 1 [.int .i64 r1, .int .i64 r2] rfl rfl (bV wb.drew 77 #[.int .i64 r1, .int .i64 r2]) (by intro u hu;simp at hu;rcases hu with rfl | rfl <;> rfl) (by unfold maxLen;omega) (by omega) ?_;intro v3 w3 hs3 hk3 ho3;have HI4:=Hz (HI3.o.app (v:=(r1,r2)) hkb (by rw [HKL.o];exact hs3) hk3 ho3);have hp3:=hk3.au (hkb.au HI3.o.V.hq (λh=>h)) (λhv=>by obtain ⟨_,c',hc⟩:=(HL3.o.ab hkb (λ_ _ h=>h)).own hv;exact (hkb.au HI3.o.V.hq (λh=>h)).ne hc (by decide) rfl);have x0:=hp3.cell 2;have xf:=hp3.free 2;have xl:=hp3.lt;simp only [Lz,aB] at x0;obtain ⟨lo3,lc3,rfl,-,-,-⟩:=hs3.rd;refine hK _ _ ?_;clear hK K hkb hs3 hk3 ho3 hp3 c2 cl v0 v1 vl;refine aC (λ_=>True) trivial ?_
   iterate 3 refine Wz ?_
   refine aD rfl rfl rfl (λK hK=>?_);unfold ax;go_simp;refine hK _ _ ?_;clear hK K;refine aC (λ_=>True) trivial (av ?_);clear x0 xf xl;go_wp2_with fail;go_roundw
   case rel=>exact ⟨k+1,_,nv2,F2,by omega,by go_num,by rw [HST.o];exact HI4.o⟩
   case measure=>simp [intOf];omega
  ·have hke:k=W.roots.length:=by omega
   subst hke;obtain ⟨lo,lc,rfl,hrr,-,-⟩:=hI.L.rd;obtain ⟨cs,hns,hnr⟩:=hI.V.hn;obtain ⟨no,nc,rfl,-,-,-⟩:=hns.rd;have c2:=hI.V.hq.cell 2;have c3:=hI.V.hq.cell 3;have cl:=hI.V.hq.lt;have b0:=hI.B.cell 0;have b1:=hI.B.cell 1;have bl:=hI.B.lt;have f0:=hI.B.free 0;have f1:=hI.B.free 1;simp only [Lz,aB] at c2 c3 b0 b1;have HVE:=Hz (show W.view=((TR W W.roots.length).1,(TR W W.roots.length).2.2) by
    unfold Wd.view gB TR deep
    rw [List.take_of_length_le (Nat.le_refl _)])
   clear hI hrr hns hnr hlt hk hkl;go_wp2_with (refine ct rfl 31 (.tmp 43) rfl (by kernel_rfl) (w.heap.size+1+1) 2 rfl _ _ c2 c3 ?_);have ew:=(HI.o.B.aE 0 (.slice lo (TR W W.roots.length).1.length lc)).aE 1 (.slice no (TR W W.roots.length).2.2.length nc);have x0:=ew.cell 0;have x1:=ew.cell 1;simp only [Zu,Zv,Lz,aB] at x0 x1;refine bodyPost_ret (v:=.agg #[.slice lo (TR W W.roots.length).1.length lc, .slice no (TR W W.roots.length).2.2.length nc]) (by simp [results,Tryz.results48,go_sem,x0,x1]) rfl ?_;refine ⟨_,rfl,?_,(HI.o.K.setCell (p:=⟨w.heap.size,0,none⟩) (.inr (Zb _)) _).setCell (p:=⟨w.heap.size,1,none⟩) (.inr (Zb _)) _⟩;rw [HVE.o];have ke:=((aa.refl (·=w.heap.size) wr).setCell (p:=⟨w.heap.size,0,none⟩) (.inl rfl) (.slice lo (TR W W.roots.length).1.length lc)).setCell (p:=⟨w.heap.size,1,none⟩) (.inl rfl) (.slice no (TR W W.roots.length).2.2.length nc);have nF:∀ j,F j->¬ j=w.heap.size:=λj hj e=>by
    have:=HI.o.o2 j hj;omega
   refine ⟨lo,lc,no,nc,F,rfl,HI.o.L.ab ke (λj hj e=>?_),HI.o.V.hn.ab ke (λj hj _=>nF j hj) (λj hj e=>?_),λj hj=>?_⟩
   ·subst e;obtain ⟨_,c,hc⟩:=HI.o.L.own hj;exact hc.ne HI.o.B (by decide) rfl
   ·subst e;obtain ⟨_,c,hc⟩:=HI.o.V.hn.own hj;exact hc.ne HI.o.B (by decide) rfl
   ·have hks:=ke.size;rcases hj with hj | hj | hj
    ·exact ⟨Nat.le_of_lt (HI.o.o2 j hj),by have:=(HI.o.V.hF j hj).1;omega⟩
    ·exact ⟨(HI.o.o3 j hj).1,by have:=(HI.o.L.own hj).1;omega⟩
    ·exact ⟨HI.o.o1 j hj,by have:=(HI.o.V.hn.own hj).1;omega⟩
end
end
end Go.Proofs.YtjifdalflepcoadGreat
