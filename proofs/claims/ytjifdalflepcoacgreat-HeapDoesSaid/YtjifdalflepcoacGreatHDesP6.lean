/-
  Parts of the proof, merged: what the functions do, and plain laws.
-/
import Derived.Test.YtjifdalflepcoacGreatHDesP5
import Derived.Test.YtjifdalflepcoacGreatHDesP0
import Derived.Test.YtjifdalflepcoacGreatHDesP1
import Derived.Test.YtjifdalflepcoacGreatHDesP2
import Derived.Laws.EntriesVeiled
set_option maxHeartbeats 16000000
set_option maxRecDepth 100000
set_option linter.unusedVariables false
set_option linter.unusedSimpArgs false
namespace Go.Proofs.YtjifdalflepcoacGreat
section
open Go.RowKit
theorem nK (A:Ar):∀ (l:List Int) (p x:Int),storesA A p (l ++ [x])=(storesA A p l).store (p+l.length) x
 | [],p,x=>by simp [storesA]
 | y :: l,p,x=>by
  show storesA (A.store p y) (p+1) (l ++ [x])=(storesA (A.store p y) (p+1) l).store _ x
  rw [nK _ l (p+1) x,List.length_cons];congr 1
  push_cast
  omega
def qi (w:World) (h:HH) (w':World) (O:Wo):Prop:=bj w' h O∧ab h.Own w w'
theorem qi.to {w w':World} {h:HH} {O:Wo} (t:qi w h w' O):a6 w h w' O:=⟨h,t.1,rfl,t.2,fun k hk=>.inl hk⟩
theorem Be {w:World} {ao:Option Addr} {l:List Nat} (h:Rd w ao (l.map fun (k:Nat)=>Value.int .i64 (k:Int))) (i:Nat) (hi:i<l.length) :
  ∃ g o,ao=some ⟨g,o,none⟩∧g<w.heap.size∧w.cell? ⟨g,o+i,none⟩=some (.int .i64 ((l.getD i 0:Nat):Int)):=by
 obtain ⟨g,o,rfl,hg,hc⟩:=h (by intro e;simp at e;subst e;simp at hi);refine ⟨g,o,rfl,hg,?_⟩;rw [hc i (by simpa using hi)];simp [List.getD,hi]
section
variable {w w':World} {h:HH} {O O':Wo}
theorem iw (r:Nat) (x c:Int) (B:bj w h O) (hr:r<12) (hx:br x) :
  Calls Tryz.prog 92 #[.pointer (some ⟨h.p,0,none⟩), .int .i64 r, .int .i64 x, .int .i64 c] w fun e w'=>e=.returned (.int .i64 (O.gU r (x,c)).1)∧qi w h w' (O.gU r (x,c)).2:=by
 have HB:=Hz B;obtain ⟨b0,bl⟩:=B.pc;obtain ⟨g,o,cap,hro,hown,q0,q3,ql,gl,fz,rc⟩:=B.roots;have hf:=fz (o+r);have hc:=rc r hr;have hri:(r:Int)<12:=by omega
 have hin:=B.zx (x:=x) hro hr hx;have HIN:=Hz hin;clear hro hown fz rc hin B;by_cases h0:c=0
 ·subst h0;have HE:=Hz (show O.gU r (x,0)=(0,O.jG r x) from rfl);go_enter Tryz.func92,Tryz.ntmps92;go_wp2_with fail;go_ret;rw [HE.out];exact ⟨rfl,HIN.out⟩
 ·have hd:(c == 0)=false:=by simpa using h0
  have HE:=Hz (show O.gU r (x,c)=(c,O) by unfold Wo.gU;rw [if_neg h0]);clear h0;go_enter Tryz.func92,Tryz.ntmps92;go_wp2_with fail;go_ret;rw [HE.out];exact ⟨rfl,HB.out,ab.refl _ _⟩
def fY (w:World) (h:HH) (O:Wo) (n:Int) (e:Ending) (w':World):Prop:=e=.returned (.int .i64 (O.room n).1)∧a6 w h w' (O.room n).2
theorem rD (n:Int) (B:bj w h O) (hn:n≤(O.ar.nur:Int)-O.ar.yng) :
  Calls Tryz.prog 144 #[.pointer (some ⟨h.p,0,none⟩), .int .i64 n] w (fY w h O n):=by
 have HB:=Hz B;have HE:=Hz (show O.room n=(0,O) by unfold Wo.room;rw [if_pos hn]);have o1:=B.H.ok.ha.h1;have hn2:n≤((O.ar.nur-O.ar.yng:Nat):Int):=by omega
 obtain ⟨b0,bl⟩:=B.pc;have q0:=B.H.dZ.1;have ql:=B.H.hp.lt;clear B hn o1;go_enter Tryz.func144,Tryz.ntmps144;go_wp2_with fail;refine (jK _ HB.out.H.ha).mono ?_;rintro e w1 ⟨rfl,hk⟩;have B1:=Hz (HB.out.same hk);have K1:=Hz hk;clear hk b0 bl q0 ql;obtain ⟨b0,bl⟩:=B1.out.pc;have q0:=B1.out.H.dZ.1;have ql:=B1.out.H.hp.lt;generalize ((O.ar.nur-O.ar.yng:Nat):Int)=fr at *;generalize ((O.ar.ws.length-O.ar.grn:Nat):Int)=fo at *;go_wp2_with fail;refine (lH _ B1.out.H.ha).mono ?_;rintro e w2 ⟨rfl,hk⟩;have K2:=Hz (K1.out.trans hk);clear hk b0 bl q0 ql;go_wp2_with fail;go_ret;unfold fY;rw [HE.out];exact ⟨rfl,a6.same HB.out K2.out⟩
theorem lO (r:Nat) (kd:Int) (l:List Nat) (ao:Option Addr) (cap:Nat) (B:bj w h O) (hr:r<12) (hl:∀ k ∈ l,k<12) (hf:bs kd l.length=true)
  (hrd:Rd w ao (l.map fun (k:Nat)=>Value.int .i64 (k:Int))) (ha:∀ a,ao=some a→a.block<w.heap.size→¬ h.Own a.block)
  (hroom:Calls Tryz.prog 144 #[.pointer (some ⟨h.p,0,none⟩), .int .i64 (1+(l.length:Int))] w (fY w h O (1+l.length)))
  (hfree:(O.room (1+l.length)).1=0→(1+(l.length:Int))≤((O.room (1+l.length)).2.ar.nur:Int)-(O.room (1+l.length)).2.ar.yng) :
  Calls Tryz.prog 93 #[.pointer (some ⟨h.p,0,none⟩), .int .i64 r, .int .i64 kd, .slice ao l.length cap] w fun e w'=>e=.returned (.int .i64 (O.bR r kd (l.map fun (k:Nat)=>(k:Int))).1)∧a6 w h w' (O.bR r kd (l.map fun (k:Nat)=>(k:Int))).2:=by
 have HB:=Hz B;have HL:=Hz hl;have HF:=Hz hf;have HRD:=Hz hrd;have HA:=Hz ha;have HR:=Hz hroom;have hl12:=(bP hf).2.2.2;have HNO:=Hz (show (O.room (1+(l.length:Int))).1≠0→O.bR r kd (l.map fun (k:Nat)=>(k:Int))=O.room (1+(l.length:Int)) from fun h0=>by
  unfold Wo.bR;rw [List.length_map,if_neg h0])
 have HYES:=Hz (show (O.room (1+(l.length:Int))).1=0→O.bR r kd (l.map fun (k:Nat)=>(k:Int))=(0,(O.room (1+(l.length:Int))).2.lay r kd (l.map fun (k:Nat)=>(k:Int))) from fun h0=>by
  unfold Wo.bR;rw [List.length_map,if_pos h0])
 obtain ⟨⟨c,P⟩,hP⟩:∃ t,O.room (1+(l.length:Int))=t:=⟨_,rfl⟩;unfold fY at HR;rw [hP] at HR HNO HYES hfree;dsimp only at HR HNO HYES hfree;have hw1:IntKind.i64.wrap (1+(l.length:Int))=1+l.length:=IntWalk.i64_in _ (by omega);clear B hl hf hrd ha hroom hP;go_enter Tryz.func93,Tryz.ntmps93;go_wp2_with fail;refine HR.out.mono ?_;rintro e w1 ⟨rfl,ht⟩;by_cases h0:c=0
 ·subst h0;have HE:=Hz (HYES.out rfl);obtain ⟨h1,B1',ep,k1,o1⟩:=ht;have RD1:=Hz (HRD.out.ae k1 (fun a e hb=>HA.out a e hb));have HA1:=Hz (show ∀ a,ao=some a→a.block<w.heap.size→¬ h1.Own a.block from fun a e hb hn=>by
   rcases o1 _ hn with h2 | h2
   ·exact HA.out a e hb h2
   ·omega)
  have RDL:=Hz (show ∀ a,ao=some a→l≠[]→a.block<w.heap.size from fun a e hne=>by
   obtain ⟨g,o,e2,hg,_⟩:=HRD.out (by simpa using hne)
   rw [e] at e2;cases e2;exact hg)
  have B1:=Hz B1';have EP:=Hz ep;have K1:=Hz k1;have O1:=Hz o1;have hfr:=hfree rfl;have hfit:bs kd (l.length:Int)=true∧1+(l.length:Int)≤(P.ar.nur:Int)-P.ar.yng:=⟨HF.out,hfr⟩;have HMK:=Hz (Ar.oS hfit);have hmk1:(P.ar.make kd l.length).1=(P.ar.yng:Int):=by rw [HMK.out]
  have HNU:=Hz (show (P.ar.make kd l.length).2.nur=P.ar.nur by rw [HMK.out]);have q1:=B1'.H.ok.ha.h1;have q2:=B1'.H.ok.ha.h2;have q3:=B1'.H.ok.ha.h3;have q4:=B1'.H.ok.ha.h4;have yl:(P.ar.yng:Int)≤1280:=by omega
  rw [←ep];obtain ⟨b0,bl⟩:=B1'.pc;have p0:=B1'.H.dZ.1;have pl:=B1'.H.hp.lt;clear B1' k1 o1 hfree HNO HYES hfr hfit q1 q2 q3 q4 ep hw1;go_wp2_with fail;have hmc:=AP kd l.length w1 B1.out.H.ha (by unfold br;omega);rw [hmk1] at hmc;refine hmc.mono ?_;rintro e w2 ⟨rfl,ht2⟩;have hin:=B1.out.Bd (jO.bZ B1.out.H ht2 HNU.out);have B2:=Hz hin.1;have K2:=Hz hin.2;clear ht2 hin b0 bl p0 pl hmc hmk1;generalize hA2:(P.ar.make kd l.length).2=A2 at *;have HA2:=Hz hA2;clear hA2;go_wp2_with fail;go_loopw [34] (fun u wr=>∃ k:Nat,k≤l.length∧u=.int .i64 k∧bj wr h1 { P with ar:=storesA A2 ((P.ar.yng:Int)+1) ((l.take k).map fun (j:Nat)=>P.ba j) }∧ab h1.Own w2 wr) (fun u _=>l.length-(intOf u).toNat)
  case atStart=>exact ⟨0,Nat.zero_le _,rfl,B2.out,ab.refl _ _⟩
  case round=>
   obtain ⟨k,hk,rfl,hB,hK⟩:=hrel;have BR:=Hz hB;have KR:=Hz hK;clear hB hK;by_cases hlt:k<l.length
   ·have RDR:=(RD1.out.ae K2.out (fun a e hb hn=>by
     by_cases hne:l=[]
     ·subst hne;simp at hlt
     ·exact HA1.out a e (RDL.out a e hne) hn)).ae KR.out (fun a e hb hn=>by
     by_cases hne:l=[]
     ·subst hne;simp at hlt
     ·exact HA1.out a e (RDL.out a e hne) hn)
    obtain ⟨gl,ol,rfl,hgl,l0⟩:=Be RDR k hlt;have hm:=HL.out (l.getD k 0) (by rw [Ld,Le hlt];exact List.getElem_mem _);have htk:((l.take (k+1)).map fun (j:Nat)=>P.ba (j:Int))=((l.take k).map fun (j:Nat)=>P.ba (j:Int)) ++ [P.ba ((l.getD k 0:Nat):Int)]:=by
     rw [List.take_add_one,Le hlt,List.map_append,Ld,Le hlt];rfl
    have HST:=Hz (show storesA A2 ((P.ar.yng:Int)+1) ((l.take (k+1)).map fun (j:Nat)=>P.ba j)=(storesA A2 ((P.ar.yng:Int)+1) ((l.take k).map fun (j:Nat)=>P.ba j)).store ((P.ar.yng:Int)+1+k) (P.ba ((l.getD k 0:Nat):Int)) by
     rw [htk,nK,List.length_map,List.length_take,Nat.min_eq_left hk])
    have HXR:=Hz (kj B1.out.H.ok ((l.getD k 0:Nat):Int));generalize l.getD k 0=m at *;obtain ⟨g,o,cap2,hro,hown,p0,p3,pl,gl2,fz,rc⟩:=BR.out.roots;have r0:=rc m hm;have r0:wr.cell? ⟨g,o+m,none⟩=some (.int .i64 (P.ba (m:Int))):=r0;generalize P.ba (m:Int)=x at *;obtain ⟨b0,bl⟩:=BR.out.pc;have hmi:(m:Int)<12:=by omega
    have hw1:IntKind.i64.wrap ((P.ar.yng:Int)+1)=P.ar.yng+1:=IntWalk.i64_in _ (by omega);have hw2:IntKind.i64.wrap ((P.ar.yng:Int)+1+(k:Int))=P.ar.yng+1+k:=IntWalk.i64_in _ (by omega);clear hro hown fz rc htk RDR;go_wp2_with fail;refine ay (.free 0 (.free 1 (.free 2 (.free 7 (.free 8 (.free 9 (.free 10 (.free 11 (.free 12 (.free 13 (.free 18 (.pure 3 (.free 4 (.free 5 (.pure 6 (.pure 14 (.free 15 (.free 16 (.pure 17 (.free 19 (.pure 20 (.run 21 (.swi [] (.fin)))))))))))))))))))))))) [21] (fun w'=>w'.cell? ⟨h1.p,0,none⟩=some (.pointer (some ⟨h1.a.p,0,none⟩))∧w'.cell? ⟨h1.a.p,0,none⟩=some (.pointer (some ⟨h1.a.pa,0,none⟩))∧w'.cell? ⟨h1.a.p,3,none⟩=some (.slice (some ⟨g,o,none⟩) 12 cap2)∧w'.cell? ⟨g,o+m,none⟩=some (.int .i64 x)) (by kernel_rfl) (by kernel_rfl) ⟨b0,p0,p3,r0⟩ ?_
    iterate 21 ((first | refine au rfl rfl fun K hK=>?_ | refine aq rfl rfl fun K hK=>?_ | refine aF rfl rfl fun K hK=>?_ | refine az rfl rfl fun K hK=>?_ | refine aE rfl rfl fun K hK=>?_);go_simp;refine hK _ ?_;clear hK K)
    refine aJ rfl rfl rfl (fun K hK=>?_);unfold aC;go_simp;refine (gy _ x _ (BR.out.same ((Kz wr).drew)).H.ha HXR.out).mono ?_;rintro e w3 ⟨rfl,ht3⟩;refine hK _ _ ?_;clear hK K;refine aH (fun _=>True) trivial (aB ?_);have hin:=(BR.out.same ((Kz wr).drew)).Bd (jO.bZ (BR.out.same ((Kz wr).drew)).H ht3 (Ar.cU _ _ _));have BN:=Hz hin.1;have KN:=Hz ((KR.out.drew).trans hin.2);clear ht3 hin b0 bl p0 p3 pl gl2 r0 l0 hgl hw1 hw2;go_wp2_with fail;go_roundw
    case rel=>exact ⟨k+1,hlt,by go_num,by rw [HST.out];exact BN.out,KN.out⟩
    case measure=>simp [intOf];omega
   ·obtain rfl:k=l.length:=by omega
    rw [List.take_length] at BR;obtain ⟨g,o,cap2,hro,hown,p0,p3,pl,gl2,fz,rc⟩:=BR.out.roots;obtain ⟨b0,bl⟩:=BR.out.pc;have hf:=fz (o+r);have hc:=rc r hr;have hri:(r:Int)<12:=by omega
    have HRO:=Hz hro;clear hro hown fz rc;go_wp2_with fail;refine ay (.free 0 (.free 1 (.free 2 (.free 7 (.free 8 (.pure 3 (.free 4 (.free 5 (.pure 6 (.run 9 (.free 10 (.run 11 (.swi [] (.fin)))))))))))))) [11] (fun w'=>w'.cell? ⟨h1.p,0,none⟩=some (.pointer (some ⟨h1.a.p,0,none⟩))∧w'.cell? ⟨h1.a.p,3,none⟩=some (.slice (some ⟨g,o,none⟩) 12 cap2)) (by kernel_rfl) (by kernel_rfl) ⟨b0,p3⟩ ?_
    iterate 9 ((first | refine au rfl rfl fun K hK=>?_ | refine aq rfl rfl fun K hK=>?_ | refine aF rfl rfl fun K hK=>?_ | refine az rfl rfl fun K hK=>?_ | refine aE rfl rfl fun K hK=>?_);go_simp;refine hK _ ?_;clear hK K)
    refine aM rfl rfl (fun K hK=>?_);unfold aC;go_simp;refine (zp (P.ar.yng:Int) _ (by omega) (by omega)).mono ?_;rintro e w5 ⟨rfl,rfl⟩;refine hK _ _ (fun hg=>hg) ?_;clear hK K
    iterate 1 ((first | refine au rfl rfl fun K hK=>?_ | refine aq rfl rfl fun K hK=>?_);go_simp;refine hK _ ?_;clear hK K)
    refine aJ rfl rfl rfl (fun K hK=>?_);unfold aC;go_simp;refine hK _ _ ?_;clear hK K;refine aH (fun _=>True) trivial (aB ?_);have hin:=BR.out.zx (k:=r) (x:=4*(P.ar.yng:Int)+1) HRO.out hr (by unfold br;omega);have hlay:P.lay r kd (l.map fun (k:Nat)=>(k:Int))=Wo.jG { P with ar:=storesA A2 ((P.ar.yng:Int)+1) (l.map fun (j:Nat)=>P.ba j) } r (4*(P.ar.yng:Int)+1):=by
     have h1:(P.ar.make kd l.length).1=(P.ar.yng:Int):=by rw [HMK.out]
     unfold Wo.lay Wo.jG;rw [List.length_map,HA2.out,h1,uM (by omega) (by omega),List.map_map]
     rfl
    have TO:=Hz (show a6 w h (wr.setCell ⟨g,o+r,none⟩ (.int .i64 (4*(P.ar.yng:Int)+1))).drew (P.lay r kd (l.map fun (k:Nat)=>(k:Int))) by
     rw [hlay]
     exact ⟨h1,hin.1.same ((Kz _).drew),EP.out,K1.out.then (((K2.out.trans KR.out).trans hin.2).drew) O1.out,O1.out⟩)
    clear hin b0 bl p0 p3 pl gl2 hf hc hlay;go_wp2_with fail;go_ret;refine ⟨by rw [HE.out];rfl,?_⟩;rw [HE.out];exact TO.out
 ·have HE:=Hz (HNO.out h0);have hd:(c != 0)=true:=by simpa using h0
  have TO:=Hz ht;clear h0 ht;go_wp2_with fail;go_ret;exact ⟨by rw [HE.out];rfl,by rw [HE.out];exact TO.out⟩
end
end
section
open Go.RowKit
def bO (w:World) (h:HH) (O:Wo) (x:St) (e:Ending) (w':World):Prop:=e=.returned (.int .i64 (O.do x).1)∧a6 w h w' (O.do x).2
section
variable {w w':World} {h:HH} {O O':Wo}
theorem xt {A:Ar} (h:A.ok) (x i:Int):br (A.get x i).1:=by
 unfold Ar.get;split
 ·unfold br;decide
 ·split
  ·unfold br;decide
  ·exact h.load _
theorem xu (n:Int) (h:-cA≤n∧n<cA):fB 1 n=(4*n,0):=by unfold fB;rw [if_neg (by decide),if_neg (by decide),if_pos rfl,if_pos h]
theorem sX (xr xa xb xi xn:Int) (B:bj w h O) :
  Calls Tryz.prog 32 #[.pointer (some ⟨h.p,0,none⟩), .agg #[.int .i64 1, .int .i64 xr, .int .i64 xa, .int .i64 xb, .int .i64 xi, .int .i64 xn]] w (bO w h O ⟨1,xr,xa,xb,xi,xn⟩):=by
 unfold bO;have HB0:=Hz B;have aw:ah (w.alloc (.cells #[.int .i64 1, .int .i64 xr, .int .i64 xa, .int .i64 xb, .int .i64 xi, .int .i64 xn] 69)) w.heap.size [.int .i64 1, .int .i64 xr, .int .i64 xa, .int .i64 xb, .int .i64 xi, .int .i64 xn] 69:=ah.newAt _ rfl rfl;have ka:=(Kz w).alloc (.cells #[.int .i64 1, .int .i64 xr, .int .i64 xa, .int .i64 xb, .int .i64 xi, .int .i64 xn] 69);have s0:=aw.cell 0;have s1:=aw.cell 1;have s2:=aw.cell 2;have s3:=aw.cell 3;have s4:=aw.cell 4;have s5:=aw.cell 5;have sl:=aw.lt;simp only [Lz,Ls] at s0 s1 s2 s3 s4 s5;have HSF:=Hz (fun w=>dD ⟨1,xr,xa,xb,xi,xn⟩ w);obtain ⟨c,hc⟩:∃ c,aX ⟨1,xr,xa,xb,xi,xn⟩=c:=⟨_,rfl⟩;rw [hc] at HSF;have HC:=Hz hc;have HB:=Hz aw;have KA:=Hz ka;clear aw hc ka B;go_enter Tryz.func32,Tryz.ntmps32;go_wp2_with (refine aV rfl 69 (.tmp 3) rfl [.int .i64 1, .int .i64 xr, .int .i64 xa, .int .i64 xb, .int .i64 xi, .int .i64 xn] (by kernel_rfl) w.heap.size 0 rfl (aa s0 (aa s1 (aa s2 (aa s3 (aa s4 (aa s5 aQ)))))) ?_);refine (HSF.out _).mono ?_;rintro e w1 ⟨rfl,hk⟩;have HB1:=Hz ((HB0.out.same KA.out).same hk);have K1:=Hz (KA.out.trans hk);have SB1:=Hz (hk.ak HB.out (fun h=>h));have SFR:=Hz (show ¬ h.Own w.heap.size from fun e=>by have:=HB0.out.bU e;omega);clear hk s0 s1 s2 s3 s4 s5 sl HSF KA HB;generalize w.heap.size=sb at *;have s0:=SB1.out.cell 0;have s1:=SB1.out.cell 1;have s2:=SB1.out.cell 2;have s3:=SB1.out.cell 3;have s4:=SB1.out.cell 4;have s5:=SB1.out.cell 5;have sl:=SB1.out.lt;simp only [Lz,Ls] at s0 s1 s2 s3 s4 s5;by_cases h0:¬ c=0
 ·have HE:=Hz (show O.do ⟨1,xr,xa,xb,xi,xn⟩=(c,O) by unfold Wo.do;rw [HC.out,if_neg h0]);have hd:(c != 0)=true:=by simpa using h0
  clear h0;go_wp2_with fail;go_ret;exact ⟨by rw [HE.out];rfl,by rw [HE.out];exact a6.same HB0.out K1.out⟩
 have h0:c=0:=Classical.not_not.1 h0;subst h0;have hr:0≤xr∧xr<12:=(aN _).1 ((aI HC.out).2.1 (show aR 1%2=1 by decide));obtain ⟨r,rfl⟩:∃ r:Nat,xr=r:=⟨xr.toNat,by omega⟩;have hr12:r<12:=by omega
 clear hr;have hn:-cA≤xn∧xn<cA:=(aI HC.out).2.2.2.2.1 rfl;have HE:=Hz (show O.do ⟨1,r,xa,xb,xi,xn⟩=O.gU r (4*xn,0) by unfold Wo.do;rw [if_pos HC.out];rfl);have HEN:=Hz (xu xn hn);have hx:br (4*xn):=by unfold br;have:=hn.1;have:=hn.2;unfold cA at *;omega
 have hn64:br xn:=by unfold br;have:=hn.1;have:=hn.2;unfold cA at *;omega
 have HX:=Hz hx;have HN64:=Hz hn64;clear hn hx hn64;go_wp2_with fail;refine (r5 1 xn _ HN64.out.1 HN64.out.2).mono ?_;rintro e w2 ⟨rfl,hk⟩;rw [HEN.out];have HB2:=Hz (HB1.out.same hk);have K2:=Hz (K1.out.trans hk);have SB2:=Hz (hk.ak SB1.out (fun h=>h));clear hk s0 s1 s2 s3 s4 s5 sl HB1 K1 SB1;have s1:=SB2.out.cell 1;have sl:=SB2.out.lt;simp only [Lz,Ls] at s1;go_wp2_with fail;refine (iw r (4*xn) 0 HB2.out hr12 HX.out).mono ?_;rintro e w3 ⟨rfl,ht⟩;have TO:=Hz (a6.aW K2.out ht.to);clear ht s1 sl;go_wp2_with fail;go_ret;exact ⟨by rw [HE.out];rfl,by rw [HE.out];exact TO.out⟩
theorem sY (xr xa xb xi xn:Int) (B:bj w h O) :
  Calls Tryz.prog 32 #[.pointer (some ⟨h.p,0,none⟩), .agg #[.int .i64 11, .int .i64 xr, .int .i64 xa, .int .i64 xb, .int .i64 xi, .int .i64 xn]] w (bO w h O ⟨11,xr,xa,xb,xi,xn⟩):=by
 unfold bO;have HB0:=Hz B;have aw:ah (w.alloc (.cells #[.int .i64 11, .int .i64 xr, .int .i64 xa, .int .i64 xb, .int .i64 xi, .int .i64 xn] 69)) w.heap.size [.int .i64 11, .int .i64 xr, .int .i64 xa, .int .i64 xb, .int .i64 xi, .int .i64 xn] 69:=ah.newAt _ rfl rfl;have ka:=(Kz w).alloc (.cells #[.int .i64 11, .int .i64 xr, .int .i64 xa, .int .i64 xb, .int .i64 xi, .int .i64 xn] 69);have s0:=aw.cell 0;have s1:=aw.cell 1;have s2:=aw.cell 2;have s3:=aw.cell 3;have s4:=aw.cell 4;have s5:=aw.cell 5;have sl:=aw.lt;simp only [Lz,Ls] at s0 s1 s2 s3 s4 s5;have HSF:=Hz (fun w=>dD ⟨11,xr,xa,xb,xi,xn⟩ w);obtain ⟨c,hc⟩:∃ c,aX ⟨11,xr,xa,xb,xi,xn⟩=c:=⟨_,rfl⟩;rw [hc] at HSF;have HC:=Hz hc;have HB:=Hz aw;have KA:=Hz ka;clear aw hc ka B;go_enter Tryz.func32,Tryz.ntmps32;go_wp2_with (refine aV rfl 69 (.tmp 3) rfl [.int .i64 11, .int .i64 xr, .int .i64 xa, .int .i64 xb, .int .i64 xi, .int .i64 xn] (by kernel_rfl) w.heap.size 0 rfl (aa s0 (aa s1 (aa s2 (aa s3 (aa s4 (aa s5 aQ)))))) ?_);refine (HSF.out _).mono ?_;rintro e w1 ⟨rfl,hk⟩;have HB1:=Hz ((HB0.out.same KA.out).same hk);have K1:=Hz (KA.out.trans hk);have SB1:=Hz (hk.ak HB.out (fun h=>h));have SFR:=Hz (show ¬ h.Own w.heap.size from fun e=>by have:=HB0.out.bU e;omega);clear hk s0 s1 s2 s3 s4 s5 sl HSF KA HB;generalize w.heap.size=sb at *;have s0:=SB1.out.cell 0;have s1:=SB1.out.cell 1;have s2:=SB1.out.cell 2;have s3:=SB1.out.cell 3;have s4:=SB1.out.cell 4;have s5:=SB1.out.cell 5;have sl:=SB1.out.lt;simp only [Lz,Ls] at s0 s1 s2 s3 s4 s5;by_cases h0:¬ c=0
 ·have HE:=Hz (show O.do ⟨11,xr,xa,xb,xi,xn⟩=(c,O) by unfold Wo.do;rw [HC.out,if_neg h0]);have hd:(c != 0)=true:=by simpa using h0
  clear h0;go_wp2_with fail;go_ret;exact ⟨by rw [HE.out];rfl,by rw [HE.out];exact a6.same HB0.out K1.out⟩
 have h0:c=0:=Classical.not_not.1 h0;subst h0;have hr:0≤xr∧xr<12:=(aN _).1 ((aI HC.out).2.1 (show aR 11%2=1 by decide));obtain ⟨r,rfl⟩:∃ r:Nat,xr=r:=⟨xr.toNat,by omega⟩;have hr12:r<12:=by omega
 clear hr;have ha:0≤xa∧xa<12:=(aN _).1 ((aI HC.out).2.2.1 (show aR 11/2%2=1 by decide));obtain ⟨a,rfl⟩:∃ a:Nat,xa=a:=⟨xa.toNat,by omega⟩;have ha12:a<12:=by omega
 clear ha;have HE:=Hz (show O.do ⟨11,r,a,xb,xi,xn⟩=O.gU r (O.ar.get (O.ba a) xi) by unfold Wo.do;rw [if_pos HC.out];rfl);obtain ⟨b0,bl⟩:=HB1.out.pc;obtain ⟨g,o,cap,hro,hown,q0,q3,ql,gl,fz,rc⟩:=HB1.out.roots;have ra:=rc a ha12;have ha12i:(a:Int)<12:=by omega
 clear hro hown fz rc;have hget:=pN (O.ba a) xi (HB1.out.same ((Kz w1).drew)).H;have HYR:=Hz (xt HB1.out.H.ok.ha (O.ba a) xi);generalize O.ba (a:Int)=va at *;obtain ⟨⟨y,e⟩,hS⟩:∃ t,O.ar.get va xi=t:=⟨_,rfl⟩;rw [hS] at hget HE HYR;have HGET:=Hz hget;clear hS hget;go_wp2_with fail;refine ay (.free 0 (.free 1 (.free 2 (.free 4 (.free 5 (.free 6 (.free 11 (.free 15 (.pure 3 (.pure 7 (.free 8 (.free 9 (.pure 10 (.pure 12 (.free 13 (.pure 14 (.pure 16 (.run 17 (.swi [] (.free 18 (.free 19 (.free 20 (.free 21 (.free 22 (.fin))))))))))))))))))))))))) [17,18,19,20,21,22] (fun w'=>w'.cell? ⟨h.p,0,none⟩=some (.pointer (some ⟨h.a.p,0,none⟩))∧w'.cell? ⟨h.a.p,3,none⟩=some (.slice (some ⟨g,o,none⟩) 12 cap)∧w'.cell? ⟨g,o+a,none⟩=some (.int .i64 va)∧w'.cell? ⟨sb,2,none⟩=some (.int .i64 a)∧w'.cell? ⟨sb,4,none⟩=some (.int .i64 xi)) (by kernel_rfl) (by kernel_rfl) ⟨b0,q3,ra,s2,s4⟩ ?_
 iterate 17 ((first | refine au rfl rfl fun K hK=>?_ | refine aq rfl rfl fun K hK=>?_ | refine aF rfl rfl fun K hK=>?_ | refine az rfl rfl fun K hK=>?_ | refine aE rfl rfl fun K hK=>?_);go_simp;refine hK _ ?_;clear hK K)
 refine aJ rfl rfl rfl (fun K hK=>?_);unfold aC;go_simp;refine HGET.out.mono ?_;rintro e3 w3 ⟨rfl,rfl⟩;refine hK _ _ ?_;clear hK K;refine aH (fun _=>True) trivial ?_
 iterate 5 ((first | refine au rfl rfl fun K hK=>?_ | refine aq rfl rfl fun K hK=>?_);go_simp;refine hK _ ?_;clear hK K)
 refine aB ?_;have kd:=(Kz w1).drew;have HB2:=Hz (HB1.out.same kd);have K2:=Hz (K1.out.trans kd);have SB2:=Hz (kd.ak SB1.out (fun h=>h));clear kd s0 s1 s2 s3 s4 s5 sl HB1 K1 SB1 b0 bl q0 q3 ql gl ra HGET;have s1:=SB2.out.cell 1;have sl:=SB2.out.lt;simp only [Lz,Ls] at s1;go_wp2_with fail;refine (iw r y e HB2.out hr12 HYR.out).mono ?_;rintro e' w3 ⟨rfl,ht⟩;have TO:=Hz (a6.aW K2.out ht.to);clear ht s1 sl;go_wp2_with fail;go_ret;exact ⟨by rw [HE.out];rfl,by rw [HE.out];exact TO.out⟩
def eN (h:HH) (O:Wo) (n:Int):Prop:=(∀ w',bj w' h O→Calls Tryz.prog 144 #[.pointer (some ⟨h.p,0,none⟩), .int .i64 n] w' (fY w' h O n))∧((O.room n).1=0→n≤((O.room n).2.ar.nur:Int)-(O.room n).2.ar.yng)
theorem eN.yes {n:Int} (hn:n≤(O.ar.nur:Int)-O.ar.yng):eN h O n:=⟨fun w' B=>rD n B hn,fun _=>by unfold Wo.room;rw [if_pos hn];exact hn⟩
theorem rE (xr xa xb xi xn:Int) (B:bj w h O) (hroom:eN h O 3) :
  Calls Tryz.prog 32 #[.pointer (some ⟨h.p,0,none⟩), .agg #[.int .i64 4, .int .i64 xr, .int .i64 xa, .int .i64 xb, .int .i64 xi, .int .i64 xn]] w (bO w h O ⟨4,xr,xa,xb,xi,xn⟩):=by
 unfold bO;have HRM:=Hz hroom;clear hroom;have HB0:=Hz B;have aw:ah (w.alloc (.cells #[.int .i64 4, .int .i64 xr, .int .i64 xa, .int .i64 xb, .int .i64 xi, .int .i64 xn] 69)) w.heap.size [.int .i64 4, .int .i64 xr, .int .i64 xa, .int .i64 xb, .int .i64 xi, .int .i64 xn] 69:=ah.newAt _ rfl rfl;have ka:=(Kz w).alloc (.cells #[.int .i64 4, .int .i64 xr, .int .i64 xa, .int .i64 xb, .int .i64 xi, .int .i64 xn] 69);have s0:=aw.cell 0;have s1:=aw.cell 1;have s2:=aw.cell 2;have s3:=aw.cell 3;have s4:=aw.cell 4;have s5:=aw.cell 5;have sl:=aw.lt;simp only [Lz,Ls] at s0 s1 s2 s3 s4 s5;have HSF:=Hz (fun w=>dD ⟨4,xr,xa,xb,xi,xn⟩ w);obtain ⟨c,hc⟩:∃ c,aX ⟨4,xr,xa,xb,xi,xn⟩=c:=⟨_,rfl⟩;rw [hc] at HSF;have HC:=Hz hc;have HB:=Hz aw;have KA:=Hz ka;clear aw hc ka B;go_enter Tryz.func32,Tryz.ntmps32;go_wp2_with (refine aV rfl 69 (.tmp 3) rfl [.int .i64 4, .int .i64 xr, .int .i64 xa, .int .i64 xb, .int .i64 xi, .int .i64 xn] (by kernel_rfl) w.heap.size 0 rfl (aa s0 (aa s1 (aa s2 (aa s3 (aa s4 (aa s5 aQ)))))) ?_);refine (HSF.out _).mono ?_;rintro e w1 ⟨rfl,hk⟩;have HB1:=Hz ((HB0.out.same KA.out).same hk);have K1:=Hz (KA.out.trans hk);have SB1:=Hz (hk.ak HB.out (fun h=>h));have SFR:=Hz (show ¬ h.Own w.heap.size from fun e=>by have:=HB0.out.bU e;omega);clear hk s0 s1 s2 s3 s4 s5 sl HSF KA HB;generalize w.heap.size=sb at *;have s0:=SB1.out.cell 0;have s1:=SB1.out.cell 1;have s2:=SB1.out.cell 2;have s3:=SB1.out.cell 3;have s4:=SB1.out.cell 4;have s5:=SB1.out.cell 5;have sl:=SB1.out.lt;simp only [Lz,Ls] at s0 s1 s2 s3 s4 s5;by_cases h0:¬ c=0
 ·have HE:=Hz (show O.do ⟨4,xr,xa,xb,xi,xn⟩=(c,O) by unfold Wo.do;rw [HC.out,if_neg h0]);have hd:(c != 0)=true:=by simpa using h0
  clear h0;go_wp2_with fail;go_ret;exact ⟨by rw [HE.out];rfl,by rw [HE.out];exact a6.same HB0.out K1.out⟩
 have h0:c=0:=Classical.not_not.1 h0;subst h0;have hr:0≤xr∧xr<12:=(aN _).1 ((aI HC.out).2.1 (show aR 4%2=1 by decide));obtain ⟨r,rfl⟩:∃ r:Nat,xr=r:=⟨xr.toNat,by omega⟩;have hr12:r<12:=by omega
 clear hr;have ha:0≤xa∧xa<12:=(aN _).1 ((aI HC.out).2.2.1 (show aR 4/2%2=1 by decide));obtain ⟨a,rfl⟩:∃ a:Nat,xa=a:=⟨xa.toNat,by omega⟩;have ha12:a<12:=by omega
 clear ha;have hb:0≤xb∧xb<12:=(aN _).1 ((aI HC.out).2.2.2.1 (show aR 4/4%2=1 by decide));obtain ⟨b,rfl⟩:∃ b:Nat,xb=b:=⟨xb.toNat,by omega⟩;have hb12:b<12:=by omega
 clear hb;have HE:=Hz (show O.do ⟨4,r,a,b,xi,xn⟩=O.bR r 1 ([a,b].map fun (k:Nat)=>(k:Int)) by unfold Wo.do;rw [if_pos HC.out];rfl);have ka:=(Kz w1).alloc (.cells #[.int .i64 a, .int .i64 b] 3);have hbl:ah (w1.alloc (.cells #[.int .i64 a, .int .i64 b] 3)) w1.heap.size [.int .i64 a, .int .i64 b] 3:=ah.newAt _ rfl rfl;have hmk:=lO r 1 [a,b] (some ⟨w1.heap.size,0,none⟩) 2 (HB1.out.same ka) hr12 (by intro k hk;simp at hk;omega) (show bs 1 2=true by decide) (Rd.ak hbl 0 _ rfl) (fun ad e hb hn=>by cases e;have:=HB1.out.bU hn;simp at this) (HRM.out.1 _ (HB1.out.same ka)) HRM.out.2;have HMK:=Hz hmk;have HKA:=Hz ka;clear ka hbl hmk;go_wp2_with fail;refine HMK.out.mono ?_;rintro e w3 ⟨rfl,ht⟩;have TO:=Hz (a6.aW (K1.out.trans HKA.out) ht);clear ht s0 s1 s2 s3 s4 s5 sl;go_wp2_with fail;go_ret;exact ⟨by rw [HE.out];rfl,by rw [HE.out];exact TO.out⟩
end
end
section
open Go.RowKit
def ia (F:Nat→Prop) (p:Nat) (rv wv:Value):Prop:=∀ k,¬ (F k∧a7 p rv wv k)
structure eu (P:Program) (p:Nat) (τ:Type) where
 J:World→τ→(Nat→Prop)→Prop
 D:τ→Int→Prop
 DK:τ→Int→Prop
 alive:τ→Int→Bool
 ae:τ→List (Int × Int)→Int→τ × List (Int × Int) × Int
 now:τ→Int→Int
 fa:FuncId
 fk:FuncId
 fn:FuncId
 a1:Array Value
 a2:Array Value
 k1:Array Value
 k2:Array Value
 n1:Array Value
 n2:Array Value
 ea:∀ (args:Array Value) (w:World),(callFunc fa args).run P w=.ok (.enter fa args) w
 ek:∀ (args:Array Value) (w:World),(callFunc fk args).run P w=.ok (.enter fk args) w
 en:∀ (args:Array Value) (w:World),(callFunc fn args).run P w=.ok (.enter fn args) w
 J_keep:∀ {w w' t F S},J w t F→ab S w w'→(∀ k,F k→¬ S k)→J w' t F
 J_lt:∀ {w t F k},J w t F→F k→k<w.heap.size
 dG:∀ (w t F x),J w t F→D t x→Calls P fa (a1.push (.int .i64 x) ++ a2) w fun e w'=>e=.returned (.bool (alive t x))∧ab (fun _=>False) w w'
 now_c:∀ (w t F x),J w t F→D t x→Calls P fn (n1.push (.int .i64 x) ++ n2) w fun e w'=>e=.returned (.int .i64 (now t x))∧ab (fun _=>False) w w'
 keep_c:∀ (w t F rv wv av wait x),J w t F→bu w p rv wv av wait→ia F p rv wv→DK t x→(∀ e ∈ wait,D t e.1∧D t e.2)→wait.length≤1000000 →
  Calls P fk (k1.push (.int .i64 x) ++ k2) w fun e w'=>e=.returned (.int .i64 (ae t wait x).2.2)∧∃ F',J w' (ae t wait x).1 F'∧bu w' p rv wv av (ae t wait x).2.1∧ia F' p rv wv ∧
   ab (fun k=>F k∨a7 p rv wv k) w w'∧∀ k,F' k→F k∨w.heap.size≤k
 DK_D:∀ {t x},DK t x→D t x
 DK_keep:∀ {t wait x y},DK t x→DK t y→DK (ae t wait x).1 y
 D_keep:∀ {t wait x y},DK t x→D t y→D (ae t wait x).1 y
 D_new:∀ {t wait x},DK t x→D (ae t wait x).1 (ae t wait x).2.2
 D_wait:∀ {t wait x},DK t x→(∀ e ∈ wait,D t e.1∧D t e.2)→∀ e ∈ (ae t wait x).2.1,D (ae t wait x).1 e.1∧D (ae t wait x).1 e.2
 keep_len:∀ {t wait x},(ae t wait x).2.1.length=wait.length
def eu.val {P:Program} {p:Nat} {τ:Type} (L:eu P p τ):Value:=
 .agg #[.func (.func L.fa) L.a1 L.a2, .func (.func L.fk) L.k1 L.k2, .func (.func L.fn) L.n1 L.n2]
variable {τ:Type}
theorem sZ (a b:List (Int × Int)):aA (a ++ b)=aA a ++ aA b:=by simp [aA]
theorem yK (pre rest:List (Int × Int)) (v:Int × Int) (x:Int):aA (pre ++ (v.1,x) :: rest)=(aA (pre ++ v :: rest)).set (pre.length*2+1) (.int .i64 x):=by
 rw [sZ,sZ,eY,eY,List.set_append_right _ _ (by rw [bH];omega),bH,show pre.length*2+1-pre.length*2=1 by omega]
 rfl
theorem bu.s6 {w:World} {p g o cap n:Nat} {rv:Value} {av pre rest:List (Int × Int)} {v:Int × Int} (x:Int) (h:bu w p rv (.slice (some ⟨g,o,none⟩) n cap) av (pre ++ v :: rest)) :
  bu (w.setCell ⟨g,o+pre.length*2+1,none⟩ (.int .i64 x)) p rv (.slice (some ⟨g,o,none⟩) n cap) av (pre ++ (v.1,x) :: rest):=by
 have hpg:p≠g:=fun e=>h.pw (by subst e;rfl);have hk:=(ab.refl (·=g) w).setCell (p:=⟨g,o+pre.length*2+1,none⟩) (.inl rfl) (.int .i64 x);refine ⟨h.hp.ew (a:=⟨g,_,none⟩) hpg _,h.hr.ae hk (by rintro b hb rfl;exact h.ap b ⟨hb,rfl⟩),?_,h.ap⟩;have hlen:(pre ++ (v.1,x) :: rest).length=(pre ++ v :: rest).length:=by simp
 obtain ⟨g',o',cap',cur,e,hb,h1,h2,h3,h4⟩:=h.hw.laid (by simp;omega);cases e;rw [hlen];refine ⟨by rw [bH,hlen], .inr ⟨g,o,cap,_,rfl,hb.aO _ _,h1,h2,by simpa using h3,?_⟩⟩;rw [yK,←h4];apply List.ext_getElem?;intro j;simp only [List.getElem?_take,List.getElem?_drop,List.getElem?_set,List.length_set,List.length_take,List.length_drop];by_cases hj:j<(pre ++ v :: rest).length*2
 ·rw [if_pos hj,if_pos hj];by_cases e:pre.length*2+1=j
  ·subst e;have hl:(pre ++ v :: rest).length=pre.length+1+rest.length:=by simp;omega
   rw [if_pos (by omega),if_pos rfl,if_pos (by omega),if_pos (by omega)]
  ·rw [if_neg (by omega),if_neg e]
 ·rw [if_neg hj];by_cases e:pre.length*2+1=j
  ·rw [if_pos e,if_neg (by omega)]
  ·rw [if_neg e,if_neg hj]
def fy {P:Program} {p:Nat} (L:eu P p τ) (kp:τ→Int→τ × Int) (t:τ) (F:Nat→Prop) (rv wv:Value) (av wait:List (Int × Int)) (w wr:World) (k:Nat) (woke:Bool):Prop:=
 ∃ tk Fk pre,pre.length=k∧L.J wr tk Fk∧bu wr p rv wv av (pre ++ wait.drop k)∧ia Fk p rv wv∧ab (fun b=>F b∨a7 p rv wv b) w wr∧(∀ b,Fk b→F b∨w.heap.size≤b) ∧
  (∀ e ∈ pre ++ wait.drop k,L.D tk e.1∧L.D tk e.2) ∧
  wakeM L.alive kp t wait=((wakeM L.alive kp tk (wait.drop k)).1,pre ++ (wakeM L.alive kp tk (wait.drop k)).2.1,woke || (wakeM L.alive kp tk (wait.drop k)).2.2)
def xv {P:Program} {p:Nat} (L:eu P p τ) (kp:τ→Int→τ × Int) (t:τ) (F:Nat→Prop) (rv wv:Value) (av wait:List (Int × Int)) (w:World) (e:Ending) (w':World):Prop:=
 e=.returned (.bool (wakeM L.alive kp t wait).2.2)∧∃ F',L.J w' (wakeM L.alive kp t wait).1 F'∧bu w' p rv wv av (wakeM L.alive kp t wait).2.1∧ia F' p rv wv∧ab (fun b=>F b∨a7 p rv wv b) w w'∧(∀ b,F' b→F b∨w.heap.size≤b) ∧
  (∀ e ∈ (wakeM L.alive kp t wait).2.1,L.D (wakeM L.alive kp t wait).1 e.1∧L.D (wakeM L.alive kp t wait).1 e.2)
theorem fy.skip {P:Program} {p:Nat} {L:eu P p τ} {kp:τ→Int→τ × Int} {t tk:τ} {F Fk:Nat→Prop} {rv wv:Value} {av wait pre:List (Int × Int)} {v:Int × Int} {w wr w2:World} {k:Nat} {woke:Bool}
  (hpk:pre.length=k) (hdr:wait.drop k=v :: wait.drop (k+1)) (hJ:L.J wr tk Fk) (hS:bu wr p rv wv av (pre ++ v :: wait.drop (k+1))) (hA:ia Fk p rv wv) (hK:ab (fun b=>F b∨a7 p rv wv b) w wr) (hF:∀ b,Fk b→F b∨w.heap.size≤b)
  (hD:∀ e ∈ pre ++ v :: wait.drop (k+1),L.D tk e.1∧L.D tk e.2)
  (hM:wakeM L.alive kp t wait=((wakeM L.alive kp tk (v :: wait.drop (k+1))).1,pre ++ (wakeM L.alive kp tk (v :: wait.drop (k+1))).2.1,woke || (wakeM L.alive kp tk (v :: wait.drop (k+1))).2.2))
  (hk2:ab (fun _=>False) wr w2) (hc:(L.alive tk v.1 && !L.alive tk v.2)=false):fy L kp t F rv wv av wait w w2 (k+1) woke:=by
 have e:pre ++ v :: wait.drop (k+1)=(pre ++ [v]) ++ wait.drop (k+1):=by simp
 refine ⟨tk,Fk,pre ++ [v],by simp [hpk],L.J_keep hJ hk2 (fun _ _ h=>h),?_,hA,hK.trans (hk2.mono fun _ _ h=>h.elim),hF,?_,?_⟩
 ·rw [←e];exact hS.ae hk2 (fun _ _ h=>h)
 ·rw [←e];exact hD
 ·rw [hM];simp only [wakeM,hc,if_neg (show ¬ (false=true) by decide),List.append_assoc,List.cons_append,List.nil_append]
theorem fy.kept {P:Program} {p:Nat} {L:eu P p τ} {kp:τ→Int→τ × Int} {t tk:τ} {F Fk F2:Nat→Prop} {rv wv:Value} {av wait pre:List (Int × Int)} {v:Int × Int} {w wr w2:World} {k:Nat} {woke:Bool}
  (hpk:pre.length=k) (hK:ab (fun b=>F b∨a7 p rv wv b) w wr) (hF:∀ b,Fk b→F b∨w.heap.size≤b)
  (hM:wakeM L.alive kp t wait=((wakeM L.alive kp tk (v :: wait.drop (k+1))).1,pre ++ (wakeM L.alive kp tk (v :: wait.drop (k+1))).2.1,woke || (wakeM L.alive kp tk (v :: wait.drop (k+1))).2.2))
  (hJ:L.J w2 (kp tk v.2).1 F2) (hS:bu w2 p rv wv av (pre ++ (v.1,(kp tk v.2).2) :: wait.drop (k+1))) (hA:ia F2 p rv wv) (hk2:ab (fun b=>Fk b∨a7 p rv wv b) wr w2) (hF2:∀ b,F2 b→Fk b∨wr.heap.size≤b)
  (hD:∀ e ∈ pre ++ (v.1,(kp tk v.2).2) :: wait.drop (k+1),L.D (kp tk v.2).1 e.1∧L.D (kp tk v.2).1 e.2)
  (hc:(L.alive tk v.1 && !L.alive tk v.2)=true):fy L kp t F rv wv av wait w w2 (k+1) true:=by
 have e:pre ++ (v.1,(kp tk v.2).2) :: wait.drop (k+1)=(pre ++ [(v.1,(kp tk v.2).2)]) ++ wait.drop (k+1):=by simp
 refine ⟨_,F2,pre ++ [(v.1,(kp tk v.2).2)],by simp [hpk],hJ,?_,hA,hK.then hk2 ?_,?_,?_,?_⟩
 ·rw [←e];exact hS
 ·rintro b (h | h)
  ·rcases hF b h with h | h
   ·exact .inl (.inl h)
   ·exact .inr h
  ·exact .inl (.inr h)
 ·intro b hb;rcases hF2 b hb with h | h
  ·exact hF b h
  ·exact .inr (Nat.le_trans hK.size h)
 ·rw [←e];exact hD
 ·rw [hM];simp only [wakeM,hc,if_true,List.append_assoc,List.cons_append,List.nil_append,Bool.or_true,Bool.true_or]
theorem Bf (p:Nat) (L:eu Tryz.prog p τ) (kp:τ→Int→τ × Int) (hsame:∀ t l x,L.ae t l x=((kp t x).1,l,(kp t x).2)) (t:τ) (F:Nat→Prop) (rv wv:Value) (av wait:List (Int × Int)) (w:World)
  (hdk:∀ t x,L.D t x→L.alive t x=false→L.DK t x) (hJ:L.J w t F) (h:bu w p rv wv av wait) (hap:ia F p rv wv) (hl:wait.length≤1000000) (hD:∀ e ∈ wait,L.D t e.1∧L.D t e.2) :
  Calls Tryz.prog 124 #[.pointer (some ⟨p,0,none⟩),L.val] w fun e w'=>xv L kp t F rv wv av wait w e w':=by
 obtain ⟨wo,wc,rfl,hrd,_,_⟩:=h.hw.rd;have c1:=h.hp.cell 1;simp only [Lz,Ls] at c1;have hpl:=h.hp.lt;have H:=Hz h;have HSM:=Hz hsame;have HDK:=Hz hdk;have HJ:=Hz hJ;have HA:=Hz hap;have HD:=Hz hD;clear h hrd hsame hdk hJ hap hD;have ea:=L.ea;have ek:=L.ek;have en:=L.en;generalize hbox:w.alloc (.cells #[.func (.func L.fa) L.a1 L.a2, .func (.func L.fk) L.k1 L.k2, .func (.func L.fn) L.n1 L.n2] 113)=wb;have hkb:ab (fun b=>F b∨a7 p rv (.slice wo wait.length wc) b) w wb:=by rw [←hbox];exact (ab.refl _ _).alloc _
 have hbb:ah wb w.heap.size [.func (.func L.fa) L.a1 L.a2, .func (.func L.fk) L.k1 L.k2, .func (.func L.fn) L.n1 L.n2] 113:=by rw [←hbox];exact ah.newAt _ rfl rfl
 have hszb:wb.heap.size=w.heap.size+1:=by rw [←hbox];simp
 have hkb0:ab (fun _=>False) w wb:=by rw [←hbox];exact (ab.refl _ _).alloc _
 have HI:fy L kp t F rv (.slice wo wait.length wc) av wait wb wb 0 false:=
  ⟨t,F,[],rfl,L.J_keep HJ.out hkb0 (fun _ _ h=>h),H.out.ae hkb0 (fun _ _ h=>h),HA.out,ab.refl _ _,fun b hb=>.inl hb,by simpa using HD.out,by simp⟩
 have HKB:=Hz hkb;have HBB:=Hz hbb;have HSZ:=Hz hszb;have HBX:=Hz hbox;clear hkb hbb hszb hkb0 hbox;unfold eu.val;go_enter Tryz.func124,Tryz.ntmps124;go_wp2_with fail;rw [HBX.out];go_loopw [5,14] (fun v i wr=>∃ (k:Nat) (woke:Bool),k≤wait.length∧i=.int .i64 k∧v=.bool woke∧fy L kp t F rv (.slice wo wait.length wc) av wait wb wr k woke) (fun _ i _=>wait.length-(intOf i).toNat)
 case atStart=>exact ⟨0,false,Nat.zero_le _,rfl,rfl,HI⟩
 case round=>
  clear HI c1;obtain ⟨k,woke,hk,rfl,rfl,tk,Fk,pre,hpk,hJ,hS,hA,hK,hFk,hDk,hM⟩:=hrel;have GJ:=Hz hJ;have GS:=Hz hS;have GA:=Hz hA;have GK:=Hz hK;have GF:=Hz hFk;have GD:=Hz hDk;have GM:=Hz hM;have GP:=Hz hpk;clear hJ hS hA hK hFk hDk hM hpk;by_cases hlt:k<wait.length
  ·have hdr:wait.drop k=wait.getD k (0,0) :: wait.drop (k+1):=by
    rw [List.drop_eq_getElem_cons hlt];simp [List.getD,hlt]
   have hm:=GM.out;have hs:=GS.out;have hd:=GD.out;have HDR:=Hz hdr;rw [hdr] at hm hs hd;have hvd:=hd (wait.getD k (0,0)) (by simp);have hgt:(pre ++ wait.getD k (0,0) :: wait.drop (k+1)).getD k (0,0)=wait.getD k (0,0):=by
    simp [List.getD,GP.out]
   have hln:(pre ++ wait.getD k (0,0) :: wait.drop (k+1)).length=wait.length:=by simp [GP.out];omega
   generalize wait.getD k (0,0)=v at *;obtain ⟨g,o,cap,cur,he,hb,_,_,_,_⟩:=hs.hw.laid (by omega);rw [hln] at he;cases he;obtain ⟨_,_,e',hrd,_,_⟩:=hs.hw.rd;rw [hln] at e';cases e';obtain ⟨g',o',e',hgl,d0,d1⟩:=hrd.il k (by omega);cases e';rw [hgt] at d0 d1;have hbw:w.heap.size<wb.heap.size:=by rw [HSZ.out];omega
   have hbn:∀ b,(F b∨a7 p rv (.slice (some ⟨g,o,none⟩) wait.length wc) b)→¬ b=w.heap.size:=by
    rintro b (h | h) rfl
    ·have:=L.J_lt HJ.out h;omega
    ·have:=H.out.nW h;omega
   have hbx:ah wr w.heap.size _ _:=GK.out.ak HBB.out (fun h=>hbn _ h rfl);have HX:=Hz hbx;have HM:=Hz hm;have HS:=Hz hs;have HD:=Hz hd;have HV:=Hz hvd;have HN:=Hz hbn;have b0:=hbx.cell 0;have b1:=hbx.cell 1;have bl:=hbx.lt;simp only [Lz,Ls] at b0 b1;clear hm hs hd hvd hbx hbn hb hrd hgt hdr;have ALL:Hid (∀ w2,ab (fun _=>False) wr w2→(L.alive tk v.1 && !L.alive tk v.2)=false→fy L kp t F rv (.slice (some ⟨g,o,none⟩) wait.length wc) av wait wb w2 (k+1) woke):=fun w2 h1 h2=>fy.skip GP.out HDR.out GJ.out HS.out GA.out GK.out GF.out HD.out HM.out h1 h2;go_wp2_with fail;have hk0:=(Kz wr).alloc (.cells #[Value.int IntKind.i64 v.fst,Value.int IntKind.i64 v.snd] 101);refine (L.dG _ tk Fk v.1 (L.J_keep GJ.out hk0 (fun _ _ h=>h)) HV.out.1).mono ?_;rintro e w1 ⟨rfl,hk1⟩;have HK1:=Hz (hk0.trans hk1);have HE1:=Hz (hk1.ak (ah.newAt (w:=wr) _ rfl rfl) (fun h=>h));have x0:=(HK1.out.ak HX.out (fun h=>h)).cell 0;have xl:=(HK1.out.ak HX.out (fun h=>h)).lt;have e1:=HE1.out.cell 1;have el:=HE1.out.lt;simp only [Lz,Ls] at x0 e1;clear hk0 hk1;cases ha:L.alive tk v.1
   ·go_wp2_with fail;go_roundw
    case rel=>exact ⟨k+1,woke,by omega,by go_num,rfl,ALL.out _ HK1.out (by rw [ha];rfl)⟩
    case measure=>simp [intOf];omega
   ·go_wp2_with fail;refine (L.dG _ tk Fk v.2 (L.J_keep GJ.out HK1.out (fun _ _ h=>h)) HV.out.2).mono ?_;rintro e w2 ⟨rfl,hk2⟩;have HK2:=Hz (HK1.out.trans hk2);have HE2:=Hz (hk2.ak HE1.out (fun h=>h));clear x0 xl e1 el;have x0:=(HK2.out.ak HX.out (fun h=>h)).cell 1;have xl:=(HK2.out.ak HX.out (fun h=>h)).lt;have e1:=HE2.out.cell 1;have el:=HE2.out.lt;simp only [Lz,Ls] at x0 e1;clear hk2;cases hb:L.alive tk v.2
    ·go_wp2_with fail;refine (L.keep_c _ tk Fk rv _ av _ v.2 (L.J_keep GJ.out HK2.out (fun _ _ h=>h)) (HS.out.ae HK2.out (fun _ _ h=>h)) GA.out (HDK.out _ _ HV.out.2 hb) HD.out (by omega)).mono ?_;rintro e w3 ⟨rfl,F3,hJ3,hS3,hA3,hk3,hF3⟩;have hdk:∀ e ∈ pre ++ v :: wait.drop (k+1),L.D (kp tk v.2).1 e.1∧L.D (kp tk v.2).1 e.2:=by
      intro e he;have:=HD.out e he;have a1:=L.D_keep (wait:=pre ++ v :: wait.drop (k+1)) (HDK.out _ _ HV.out.2 hb) this.1;have a2:=L.D_keep (wait:=pre ++ v :: wait.drop (k+1)) (HDK.out _ _ HV.out.2 hb) this.2;rw [HSM.out] at a1 a2;exact ⟨a1,a2⟩
     have hdn:=L.D_new (wait:=pre ++ v :: wait.drop (k+1)) (HDK.out _ _ HV.out.2 hb);have e3:(L.ae tk (pre ++ v :: wait.drop (k+1)) v.2).2.2=(kp tk v.2).2:=by rw [HSM.out]
     rw [e3];rw [HSM.out] at hJ3 hS3 hdn;replace hJ3:L.J w3 (kp tk v.2).1 F3:=hJ3;replace hS3:bu w3 p rv (.slice (some ⟨g,o,none⟩) wait.length wc) av (pre ++ v :: wait.drop (k+1)):=hS3;replace hdn:L.D (kp tk v.2).1 (kp tk v.2).2:=hdn;clear e3;have hpg:p≠g:=fun e=>hS3.pw (by subst e;rfl);obtain ⟨g3,o3,cap3,cur3,he3,c9,_,_,_,_⟩:=hS3.hw.laid (by omega);rw [hln] at he3;cases he3;have HS3:=Hz (hS3.s6 (kp tk v.2).2);have hk3':ab (fun b=>Fk b∨a7 p rv (.slice (some ⟨g,o,none⟩) wait.length wc) b) wr w3:=(HK2.out.mono fun _ _ h=>h.elim).trans hk3;have HF3:Hid (∀ b,F3 b→Fk b∨wr.heap.size≤b):=fun b hb=>by
      rcases hF3 b hb with h | h
      ·exact .inl h
      ·exact .inr (Nat.le_trans HK2.out.size h)
     have hng:¬ F3 g:=fun h=>hA3 g ⟨h, .inr (.inr rfl)⟩;have HJ3:=Hz (L.J_keep hJ3 ((ab.refl (·=g) w3).setCell (p:=⟨g,o+pre.length*2+1,none⟩) (.inl rfl) (.int .i64 (kp tk v.2).2)) (by rintro b hb rfl;exact hng hb));have HK3:=Hz (hk3'.setCell (p:=⟨g,o+pre.length*2+1,none⟩) (.inl (.inr (.inr (.inr rfl)))) (.int .i64 (kp tk v.2).2));have HA3:=Hz hA3;have p1:=hS3.hp.cell 1;have fz:=c9.free (o+k*2+1);obtain ⟨_,_,e3,hrd3,_,_⟩:=hS3.hw.rd;rw [hln] at e3;cases e3;obtain ⟨g3,o3,e3,_,q0,q1⟩:=hrd3.il k (by omega);cases e3;have gl:=c9.lt;have pl:=hS3.hp.lt;simp only [Lz,Ls] at p1;rw [GP.out] at HJ3 HK3 HS3;have HDN:Hid (∀ e ∈ pre ++ (v.1,(kp tk v.2).2) :: wait.drop (k+1),L.D (kp tk v.2).1 e.1∧L.D (kp tk v.2).1 e.2):=by
      intro e he;simp only [List.mem_append,List.mem_cons] at he;rcases he with he | rfl | he
      ·exact hdk e (by simp [he])
      ·exact ⟨(hdk v (by simp)).1,hdn⟩
      ·exact hdk e (by simp [he])
     have HX3:Hid (w.heap.size<w3.heap.size):=Nat.lt_of_lt_of_le xl hk3.size;have hx3:=HX3.out;clear hrd3 hJ3 hS3 hA3 hk3 hF3 hdk hdn hk3' hng c9 x0 xl e1 el;clear HX3;go_wp2_with fail;go_roundw
     case rel=>exact ⟨k+1,true,by omega,by go_num,rfl,fy.kept GP.out GK.out GF.out HM.out HJ3.out HS3.out HA3.out HK3.out HF3.out HDN.out (by rw [ha,hb];rfl)⟩
     case measure=>simp [intOf];omega
    ·go_wp2_with fail;go_roundw
     case rel=>exact ⟨k+1,woke,by omega,by go_num,rfl,ALL.out _ HK2.out (by rw [ha,hb];rfl)⟩
     case measure=>simp [intOf];omega
  ·obtain rfl:k=wait.length:=by omega
   go_wp2_with fail;go_ret;have hm:=GM.out;have hs:=GS.out;have hd:=GD.out;rw [List.drop_length] at hm hs hd;simp only [wakeM,List.append_nil,Bool.or_false] at hm hs hd;refine ⟨by rw [hm];rfl,Fk,by rw [hm];exact GJ.out,by rw [hm];exact hs,GA.out,HKB.out.trans GK.out,fun b hb=>?_,by rw [hm];exact hd⟩;rcases GF.out b hb with h | h
   ·exact .inl h
   ·exact .inr (by rw [HSZ.out] at h;omega)
end
section
open Go.RowKit
variable {τ:Type}
def cntF (w:World) (b:Nat):Nat:=match w.heap[b]? with
 | some (.cells c _ _)=>(c.toList.filter fun v=>match v with | .bool false=>true | _=>false).length
 | _=>0
theorem s7 {w:World} {b:Nat} {l:List It} {T:TypeId} (h:ah w b (l.map fun i=>.bool i.2.2) T):cntF w b=cV l:=by
 unfold ah at h;unfold cntF cV;rw [h];simp only [List.filter_map,List.length_map];congr 2
 funext i
 simp only [Function.comp];cases i.2.2 <;> rfl
def eu.cells {P:Program} {p:Nat} (L:eu P p τ):List Value:=[.func (.func L.fa) L.a1 L.a2, .func (.func L.fk) L.k1 L.k2, .func (.func L.fn) L.n1 L.n2]
structure dP {P:Program} {p:Nat} (L:eu P p τ) (w:World) (F:Nat→Prop) (rv wv:Value) (b0 b1 b2:Nat) (items:List It) (q:List (Int × Int)) (t':τ) (F':Nat→Prop) (wv':Value) (wr:World):Prop where
 hJ:L.J wr t' F'
 hS:bu wr p rv wv' (items.map (·.1)) q
 hA:ia F' p rv wv'
 hK:ab (fun b=>F b∨a7 p rv wv b) w wr
 hF:∀ b,F' b→F b∨w.heap.size≤b
 hO:∀ b,ai wv' b→ai wv b∨w.heap.size≤b
 h0:ah wr b0 L.cells 113
 h1:ah wr b1 (items.map fun i=>.bool i.2.1) 4
 h2:ah wr b2 (items.map fun i=>.bool i.2.2) 4
 n0:¬ F' b0
 n1:¬ F' b1
 n2:¬ F' b2
 g0:w.heap.size≤b0
 g1:w.heap.size≤b1
 g2:w.heap.size≤b2
 b12:b1≠b2
 hq:∀ e ∈ q,L.D t' e.1∧L.D t' e.2
 hr:∀ i ∈ items,L.D t' i.1.1∧L.DK t' i.1.2
theorem bu.Bg {w:World} {p b:Nat} {rv wv:Value} {av wait:List (Int × Int)} {c:List Value} {T:TypeId} (h:bu w p rv wv av wait) (hb:ah w b c T) (h1:T≠133) (h2:T≠101):¬ a7 p rv wv b:=by
 rintro (rfl | h' | h')
 ·exact hb.ne h.hp h1 rfl
 ·obtain ⟨_,cur,hc⟩:=h.hr.own h';exact hb.ne hc h2 rfl
 ·obtain ⟨_,cur,hc⟩:=h.hw.own h';exact hb.ne hc h2 rfl
section
variable {P:Program} {p:Nat} {L:eu P p τ} {w:World} {F:Nat→Prop} {rv wv:Value} {b0 b1 b2:Nat} {items:List It} {q:List (Int × Int)} {t':τ} {F':Nat→Prop} {wv':Value} {wr:World}
theorem dP.ae {w2:World} (h:dP L w F rv wv b0 b1 b2 items q t' F' wv' wr) (k:ab (fun _=>False) wr w2):dP L w F rv wv b0 b1 b2 items q t' F' wv' w2:=
 ⟨L.J_keep h.hJ k (fun _ _ h=>h),h.hS.ae k (fun _ _ h=>h),h.hA,h.hK.trans (k.mono fun _ _ h=>h.elim),h.hF,h.hO,k.ak h.h0 (fun h=>h),k.ak h.h1 (fun h=>h),k.ak h.h2 (fun h=>h),h.n0,h.n1,h.n2,h.g0,h.g1,h.g2,h.b12,h.hq,h.hr⟩
theorem dP.move {i:It} {a b:List It} (h:dP L w F rv wv b0 b1 b2 (a ++ i :: b) q t' F' wv' wr):dP L w F rv wv b0 b1 b2 (a ++ (i.1,i.2.1,true) :: b) q t' F' wv' (wr.setCell ⟨b2,a.length,none⟩ (.bool true)):=by
 have k:=(ab.refl (·=b2) wr).setCell (p:=⟨b2,a.length,none⟩) (.inl rfl) (.bool true);have hn:¬ a7 p rv wv' b2:=h.hS.Bg h.h2 (by decide) (by decide);refine ⟨L.J_keep h.hJ k (by rintro b hb rfl;exact h.n2 hb),?_,h.hA,h.hK.setCell (p:=⟨b2,a.length,none⟩) (.inr h.g2) _,h.hF,h.hO,k.ak h.h0 (fun e=>?_),?_,?_,h.n0,h.n1,h.n2,h.g0,h.g1,h.g2,h.b12,h.hq,?_⟩
 ·have:=h.hS.ae k (by rintro b hb rfl;exact hn hb);simpa using this
 ·subst e;exact h.h0.ne h.h2 (by decide) rfl
 ·have:=k.ak h.h1 h.b12;simpa using this
 ·have:=h.h2.aO a.length (.bool true);simpa using this
 ·intro j hj;simp only [List.mem_append,List.mem_cons] at hj;rcases hj with hj | rfl | hj
  ·exact h.hr j (by simp [hj])
  ·exact h.hr i (by simp)
  ·exact h.hr j (by simp [hj])
theorem dP.kept {x:Int} {w2:World} {F2:Nat→Prop} (h:dP L w F rv wv b0 b1 b2 items q t' F' wv' wr) (hx:L.DK t' x)
  (hJ:L.J w2 (L.ae t' q x).1 F2) (hS:bu w2 p rv wv' (items.map (·.1)) (L.ae t' q x).2.1) (hA:ia F2 p rv wv') (hk:ab (fun k=>F' k∨a7 p rv wv' k) wr w2) (hF2:∀ k,F2 k→F' k∨wr.heap.size≤k) :
  dP L w F rv wv b0 b1 b2 items (L.ae t' q x).2.1 (L.ae t' q x).1 F2 wv' w2:=by
 have out:∀ {b:Nat} {c:List Value} {T:TypeId},ah wr b c T→¬ F' b→T≠133→T≠101→ah w2 b c T∧¬ F2 b:=fun {b c T} hb hn h1 h2=>
  ⟨hk.ak hb (by rintro (h3 | h3);exact hn h3;exact h.hS.Bg hb h1 h2 h3),fun h3=>by
   rcases hF2 _ h3 with h4 | h4
   ·exact hn h4
   ·have:=hb.lt;omega⟩
 refine ⟨hJ,hS,hA,h.hK.then hk ?_,?_,h.hO,(out h.h0 h.n0 (by decide) (by decide)).1,(out h.h1 h.n1 (by decide) (by decide)).1,(out h.h2 h.n2 (by decide) (by decide)).1,
  (out h.h0 h.n0 (by decide) (by decide)).2,(out h.h1 h.n1 (by decide) (by decide)).2,(out h.h2 h.n2 (by decide) (by decide)).2,h.g0,h.g1,h.g2,h.b12,L.D_wait hx h.hq,fun i hi=>⟨L.D_keep hx (h.hr i hi).1,L.DK_keep hx (h.hr i hi).2⟩⟩
 ·rintro b (hb | hb | hb | hb)
  ·rcases h.hF b hb with h1 | h1
   ·exact .inl (.inl h1)
   ·exact .inr h1
  ·exact .inl (.inr (.inl hb))
  ·exact .inl (.inr (.inr (.inl hb)))
  ·rcases h.hO b hb with h1 | h1
   ·exact .inl (.inr (.inr (.inr h1)))
   ·exact .inr h1
 ·intro b hb;rcases hF2 b hb with h1 | h1
  ·exact h.hF b h1
  ·exact .inr (Nat.le_trans h.hK.size h1)
theorem dP.app {e:Int × Int} {w2:World} {v2:Value} (h:dP L w F rv wv b0 b1 b2 items q t' F' wv' wr) (he:L.D t' e.1∧L.D t' e.2)
  (hs:Sl w2 101 2 v2 (q ++ [e]).length (aA (q ++ [e]))) (hk:ab (ai wv') wr w2) (ho:∀ k,ai v2 k→ai wv' k∨wr.heap.size≤k) :
  dP L w F rv wv b0 b1 b2 items (q ++ [e]) t' F' v2 (w2.setCell ⟨p,1,none⟩ v2):=by
 have hkp:=(ab.refl (·=p) w2).setCell (p:=⟨p,1,none⟩) (.inl rfl) v2;have hpw:=h.hS.pw;have hp2:=hk.ak h.hS.hp hpw;have hFp:¬ F' p:=fun hb=>h.hA p ⟨hb, .inl rfl⟩;have out:∀ {b:Nat} {c:List Value} {T:TypeId},ah wr b c T→T≠133→T≠101→ah (w2.setCell ⟨p,1,none⟩ v2) b c T:=fun {b c T} hb h1 h2=>by
  have hn:=h.hS.Bg hb h1 h2;exact hkp.ak (hk.ak hb (fun h3=>hn (.inr (.inr h3)))) (fun h3=>hn (.inl h3))
 have hv2p:¬ ai v2 p:=fun hb=>by
  obtain ⟨_,cur,hc⟩:=hs.own hb;exact hp2.ne hc (by decide) rfl
 refine ⟨L.J_keep (L.J_keep h.hJ hk (fun b hb h1=>h.hA b ⟨hb, .inr (.inr h1)⟩)) hkp (by rintro b hb rfl;exact hFp hb),⟨by simpa using hp2.aO 1 v2,?_,?_,?_⟩,?_,?_,h.hF,?_,out h.h0 (by decide) (by decide),out h.h1 (by decide) (by decide),out h.h2 (by decide) (by decide),
  h.n0,h.n1,h.n2,h.g0,h.g1,h.g2,h.b12,?_,h.hr⟩
 ·exact (h.hS.hr.ae hk (fun b hb h1=>h.hS.ap b ⟨hb,h1⟩)).ae hkp (by rintro b hb rfl;exact h.hS.pr hb)
 ·exact hs.ae hkp (by rintro b hb rfl;exact hv2p hb)
 ·rintro b ⟨h1,h2⟩;rcases ho b h2 with h3 | h3
  ·exact h.hS.ap b ⟨h1,h3⟩
  ·have:=(h.hS.hr.own h1).1;omega
 ·rintro b ⟨h1,h2 | h2 | h2⟩
  ·exact h.hA b ⟨h1, .inl h2⟩
  ·exact h.hA b ⟨h1, .inr (.inl h2)⟩
  ·rcases ho b h2 with h3 | h3
   ·exact h.hA b ⟨h1, .inr (.inr h3)⟩
   ·have:=L.J_lt h.hJ h1;omega
 ·refine (h.hK.then hk (fun b hb=>?_)).setCell (p:=⟨p,1,none⟩) (.inl (.inr (.inl rfl))) _;rcases h.hO b hb with h1 | h1
  ·exact .inl (.inr (.inr (.inr h1)))
  ·exact .inr h1
 ·intro b hb;rcases ho b hb with h1 | h1
  ·exact h.hO b h1
  ·exact .inr (Nat.le_trans h.hK.size h1)
 ·intro e' he';simp only [List.mem_append,List.mem_singleton] at he';rcases he' with he' | rfl
  ·exact h.hq _ he'
  ·exact he
end
def ix {P:Program} {p:Nat} (L:eu P p τ) (w:World) (F:Nat→Prop) (rv wv:Value) (b0 b1 b2:Nat) (t1:τ) (q1:List (Int × Int)) (items:List It) (N:Nat) (wr:World) (k:Nat) (more:Bool):Prop:=
 ∃ t' q' F' wv' done,done.length=k∧dP L w F rv wv b0 b1 b2 (done ++ items.drop k) q' t' F' wv' wr∧q'.length+cV (done ++ items.drop k)≤N ∧
  scanM L.alive L.ae t1 q1 items=((scanM L.alive L.ae t' q' (items.drop k)).1,(scanM L.alive L.ae t' q' (items.drop k)).2.1,done ++ (scanM L.alive L.ae t' q' (items.drop k)).2.2.1,more || (scanM L.alive L.ae t' q' (items.drop k)).2.2.2)
theorem ix.skip {P:Program} {p:Nat} {L:eu P p τ} {w:World} {F:Nat→Prop} {rv wv:Value} {b0 b1 b2:Nat} {t1:τ} {q1:List (Int × Int)} {items:List It} {N:Nat} {wr w2:World} {k:Nat} {more:Bool}
  {t':τ} {q':List (Int × Int)} {F':Nat→Prop} {wv':Value} {done:List It} {i:It} (hd:done.length=k) (hdr:items.drop k=i :: items.drop (k+1)) (hm:dP L w F rv wv b0 b1 b2 (done ++ i :: items.drop (k+1)) q' t' F' wv' wr) (hN:q'.length+cV (done ++ i :: items.drop (k+1))≤N)
  (he:scanM L.alive L.ae t1 q1 items=((scanM L.alive L.ae t' q' (i :: items.drop (k+1))).1,(scanM L.alive L.ae t' q' (i :: items.drop (k+1))).2.1,done ++ (scanM L.alive L.ae t' q' (i :: items.drop (k+1))).2.2.1,more || (scanM L.alive L.ae t' q' (i :: items.drop (k+1))).2.2.2))
  (hk2:ab (fun _=>False) wr w2) (hc:((i.2.1 && !i.2.2) && L.alive t' i.1.1)=false):ix L w F rv wv b0 b1 b2 t1 q1 items N w2 (k+1) more:=by
 have e:done ++ i :: items.drop (k+1)=(done ++ [i]) ++ items.drop (k+1):=by simp
 refine ⟨t',q',F',wv',done ++ [i],by simp [hd],?_,?_,?_⟩
 ·rw [←e];exact hm.ae hk2
 ·rw [←e];exact hN
 ·rw [he];simp only [scanM,hc,if_neg (show ¬ (false=true) by decide),List.append_assoc,List.cons_append,List.nil_append]
theorem ix.sK {P:Program} {p:Nat} {L:eu P p τ} {w:World} {F:Nat→Prop} {rv wv:Value} {b0 b1 b2:Nat} {t1:τ} {q1:List (Int × Int)} {items:List It} {N:Nat} {w2:World} {k:Nat} {more:Bool}
  {t':τ} {q':List (Int × Int)} {F2:Nat→Prop} {v2:Value} {done:List It} {i:It} (hd:done.length=k) (hN:q'.length+cV (done ++ i :: items.drop (k+1))≤N)
  (he:scanM L.alive L.ae t1 q1 items=((scanM L.alive L.ae t' q' (i :: items.drop (k+1))).1,(scanM L.alive L.ae t' q' (i :: items.drop (k+1))).2.1,done ++ (scanM L.alive L.ae t' q' (i :: items.drop (k+1))).2.2.1,more || (scanM L.alive L.ae t' q' (i :: items.drop (k+1))).2.2.2))
  (hm:dP L w F rv wv b0 b1 b2 (done ++ (i.1,i.2.1,true) :: items.drop (k+1)) ((L.ae t' q' i.1.2).2.1 ++ [(i.1.1,(L.ae t' q' i.1.2).2.2)]) (L.ae t' q' i.1.2).1 F2 v2 w2)
  (hc:((i.2.1 && !i.2.2) && L.alive t' i.1.1)=true):ix L w F rv wv b0 b1 b2 t1 q1 items N w2 (k+1) true:=by
 have e:done ++ (i.1,i.2.1,true) :: items.drop (k+1)=(done ++ [(i.1,i.2.1,true)]) ++ items.drop (k+1):=by simp
 refine ⟨(L.ae t' q' i.1.2).1,(L.ae t' q' i.1.2).2.1 ++ [(i.1.1,(L.ae t' q' i.1.2).2.2)],F2,v2,done ++ [(i.1,i.2.1,true)],by simp [hd],?_,?_,?_⟩
 ·rw [←e];exact hm
 ·rw [←e];simp only [Bool.and_eq_true,Bool.not_eq_true'] at hc;simp only [List.length_append,L.keep_len,lI,jx,hc.1.2] at hN ⊢;simp at hN ⊢;omega
 ·rw [he];simp only [scanM,hc,if_true,List.append_assoc,List.cons_append,List.nil_append,Bool.or_true,Bool.true_or]
end
section
open Go.RowKit
variable {τ:Type}
def kO {P:Program} {p:Nat} (L:eu P p τ) (t:τ) (F:Nat→Prop) (rv wv:Value) (av wait:List (Int × Int)) (w:World) (e:Ending) (w':World):Prop:=
 e=.returned (.tuple #[])∧∃ F' rv' wv',L.J w' (fJ L.alive L.ae t av wait).1 F' ∧
  bu w' p rv' wv' (bz L.alive L.now (fJ L.alive L.ae t av wait).1 (fJ L.alive L.ae t av wait).2.2) (bC L.alive L.now (fJ L.alive L.ae t av wait).1 (fJ L.alive L.ae t av wait).2.1) ∧
  ia F' p rv' wv'∧ab (fun b=>F b∨a7 p rv wv b) w w'∧(∀ b,F' b→F b∨w.heap.size≤b)∧(∀ b,a7 p rv' wv' b→a7 p rv wv b∨w.heap.size≤b)
def kP {P:Program} {p:Nat} (L:eu P p τ) (w:World) (F:Nat→Prop) (rv wv:Value) (b0 b1 b2:Nat) (t:τ) (av wait:List (Int × Int)) (N:Nat) (wr:World) (more:Bool) (items:List It):Prop:=
 ∃ n t' q' F' wv',dP L w F rv wv b0 b1 b2 items q' t' F' wv' wr∧items.map (·.1)=av∧q'.length+cV items≤N∧(more=true→cV items<n) ∧
  fJ L.alive L.ae t av wait=if more then roundsM L.alive L.ae n t' q' items else (t',q',items)
def jn (alive:τ→Int→Bool) (t:τ) (av:List (Int × Int)) (k:Nat):List Value:=((av.take k).map fun e=>.bool (!alive t e.2)) ++ List.replicate (av.length-k) (.bool false)
theorem xw {alive:τ→Int→Bool} {t:τ} {av:List (Int × Int)} {k:Nat} (h:k<av.length):jn alive t av (k+1)=(jn alive t av k).set k (.bool (!alive t (av.getD k (0,0)).2)):=by
 unfold jn;rw [List.take_succ_eq_append_getElem h,List.map_append,List.set_append_right _ _ (by simp;omega)];have hr:List.replicate (av.length-k) (Value.bool false)=.bool false :: List.replicate (av.length-(k+1)) (.bool false):=by
  rw [show av.length-k=(av.length-(k+1))+1 by omega,List.replicate_succ]
 rw [hr];have hg:av.getD k (0,0)=av[k]:=by simp [List.getD,h]
 rw [hg];have h0:k-(List.map (fun e=>Value.bool (!alive t e.2)) (av.take k)).length=0:=by simp;omega
 rw [h0];simp
theorem ta {alive:τ→Int→Bool} {t:τ} {av:List (Int × Int)} {k:Nat} (h:k≤av.length):(jn alive t av k).length=av.length:=by
 unfold jn;simp;omega
theorem vM (alive:τ→Int→Bool) (t:τ) (av:List (Int × Int)):jn alive t av av.length=(bQ alive t av).map fun i=>.bool i.2.1:=by
 unfold jn bQ;simp
theorem qj (alive:τ→Int→Bool) (t:τ) (av:List (Int × Int)):(bQ alive t av).map (·.1)=av:=by
 simp [bQ,List.map_map,Function.comp_def]
theorem rF (alive:τ→Int→Bool) (t:τ) (av:List (Int × Int)):cV (bQ alive t av)=av.length:=by
 unfold bQ cV;rw [List.filter_map,List.length_map];congr 1;apply List.filter_eq_self.2;intro a _;rfl
theorem td (alive:τ→Int→Bool) (t:τ) (av:List (Int × Int)):List.replicate av.length (Value.bool false)=(bQ alive t av).map fun i=>.bool i.2.2:=by
 unfold bQ;rw [List.map_map];apply List.ext_getElem (by simp);intro i h1 h2;simp
theorem kP.start {P:Program} {p:Nat} {L:eu P p τ} {w:World} {F:Nat→Prop} {rv wv:Value} {t:τ} {av wait:List (Int × Int)} {wr wm:World}
  (hJ:L.J w t F) (h:bu w p rv wv av wait) (hap:ia F p rv wv) (hD1:∀ e ∈ av,L.D t e.1∧L.DK t e.2) (hD:∀ e ∈ wait,L.D t e.1∧L.D t e.2)
  (hk:ab (fun b=>w.heap.size≤b) w wr) (h0:ah wr w.heap.size L.cells 113) (h1:ah wr (w.heap.size+1) (jn L.alive t av av.length) 4)
  (hkm:ab (fun _=>False) wr wm) (h2:ah wm wr.heap.size (List.replicate av.length (.bool false)) 4):kP L w F rv wv w.heap.size (w.heap.size+1) wr.heap.size t av wait (wait.length+av.length) wm true (bQ L.alive t av):=by
 have k2:ab (fun b=>w.heap.size≤b) w wm:=hk.trans (hkm.mono fun _ _ h=>h.elim);have l1:=h1.lt;have hF:∀ b,w.heap.size≤b→¬ F b:=fun b hb hf=>by have:=L.J_lt hJ hf;omega
 refine ⟨av.length+1,t,wait,F,wv,⟨L.J_keep hJ k2 (fun b hb hw=>hF b hw hb),?_,hap,?_,fun b hb=>.inl hb,fun b hb=>.inl hb,hkm.ak h0 (fun h=>h),?_,?_,hF _ (Nat.le_refl _),hF _ (by omega),hF _ (by omega),Nat.le_refl _,by omega,by omega,by omega,hD,?_⟩,qj _ _ _,?_,?_,?_⟩
 ·rw [qj];exact h.ae k2 (fun b hb hw=>by have:=h.nW hb;omega)
 ·exact ⟨k2.os,k2.tape,k2.output,k2.size,fun b hb hn=>k2.block b hb (by omega)⟩
 ·rw [←vM];exact hkm.ak h1 (fun h=>h)
 ·rw [←td];exact h2
 ·intro i hi;unfold bQ at hi;simp only [List.mem_map] at hi;obtain ⟨e,he,rfl⟩:=hi;exact hD1 e he
 ·rw [rF];exact Nat.le_refl _
 ·intro _;rw [rF];omega
 ·rfl
theorem kP.next {P:Program} {p:Nat} {L:eu P p τ} {w:World} {F:Nat→Prop} {rv wv:Value} {b0 b1 b2:Nat} {t:τ} {av wait:List (Int × Int)} {N n:Nat} {t':τ} {q':List (Int × Int)} {items:List It} {w2:World} {more:Bool}
  (hf:items.map (·.1)=av) (hn:cV items<n) (he:fJ L.alive L.ae t av wait=roundsM L.alive L.ae n t' q' items) (hs:ix L w F rv wv b0 b1 b2 t' q' items N w2 av.length more) :
  ∃ done,kP L w F rv wv b0 b1 b2 t av wait N w2 more done∧cV done≤cV items∧(more=true→cV done<cV items)∧ah w2 b2 (done.map fun i=>.bool i.2.2) 4:=by
 obtain ⟨t2,q2,F2,v2,done,hd,hm,hN,hE⟩:=hs;have hl:items.length=av.length:=by rw [←hf];simp
 rw [←hl,List.drop_length,List.append_nil] at hm hN;rw [←hl,List.drop_length] at hE;simp only [scanM,List.append_nil,Bool.or_false] at hE;obtain ⟨m,rfl⟩:∃ m,n=m+1:=⟨n-1,by omega⟩;have hu:=pe L.alive L.ae items t' q';have hfs:=jL L.alive L.ae items t' q';rw [hE] at hu hfs;simp only at hu hfs;refine ⟨done,⟨m,t2,q2,F2,v2,hm,?_,hN,fun h=>by have:=hu.2 h;omega,?_⟩,hu.1,hu.2,hm.h2⟩
 ·have:=congrArg (List.map (fun x:(Int × Int) × Bool=>x.1)) hfs;simp only [List.map_map] at this;rw [←hf];exact this
 ·rw [he];simp only [roundsM,hE]
def bit (v:Value):Nat:=match v with | .bool true=>1 | _=>0
theorem te {alive:τ→Int→Bool} {now:τ→Int→Int} {t:τ} {l:List It} {k:Nat} (h:k<l.length):bz alive now t (l.take (k+1))=bz alive now t (l.take k) ++ if (!l[k].2.1 && alive t l[k].1.1)=true then [(now t l[k].1.1,now t l[k].1.2)] else []:=by
 unfold bz;rw [List.take_succ_eq_append_getElem h,List.filter_append,List.map_append];congr 1;cases hc:(!l[k].2.1 && alive t l[k].1.1) <;> simp [List.filter_cons,hc]
theorem vN {alive:τ→Int→Bool} {now:τ→Int→Int} {t:τ} {l:List It}:(bz alive now t l).length≤l.length:=by
 unfold bz;rw [List.length_map];exact List.length_filter_le _ _
theorem tg {alive:τ→Int→Bool} {now:τ→Int→Int} {t:τ} {l:List (Int × Int)} {k:Nat} (h:k<l.length):bC alive now t (l.take (k+1))=bC alive now t (l.take k) ++ if alive t (l.getD k (0,0)).1=true then [(now t (l.getD k (0,0)).1,now t (l.getD k (0,0)).2)] else []:=by
 have hg:l.getD k (0,0)=l[k]:=by simp [List.getD,h]
 rw [hg];unfold bC;rw [List.take_succ_eq_append_getElem h,List.filter_append,List.map_append];congr 1;cases hc:alive t l[k].1 <;> simp [List.filter_cons,hc]
theorem vO {alive:τ→Int→Bool} {now:τ→Int→Int} {t:τ} {l:List (Int × Int)}:(bC alive now t l).length≤l.length:=by
 unfold bC;rw [List.length_map];exact List.length_filter_le _ _
def ij (w wr:World) (v:Value) (l:List (Int × Int)):Prop:=Sl wr 101 2 v l.length (aA l)∧ab (fun _=>False) w wr∧∀ b,ai v b→w.heap.size≤b
theorem ij.nil (w:World):ij w w (.slice none 0 0) []:=⟨Sl.nil w 101 2,ab.refl _ _,by intro k hk;simp [ai,Value.ownBlock] at hk⟩
theorem ij.ae {w wr w2:World} {v:Value} {l:List (Int × Int)} (h:ij w wr v l) (k:ab (fun _=>False) wr w2):ij w w2 v l:=⟨h.1.ae k (fun _ _ h=>h),h.2.1.trans k,h.2.2⟩
theorem ij.app {w wr w1 w2:World} {v v2:Value} {l:List (Int × Int)} {e:Int × Int} (h:ij w wr v l) (k1:ab (fun _=>False) wr w1) (hs:Sl w2 101 2 v2 (l.length+1) (aA l ++ [.int .i64 e.1, .int .i64 e.2])) (hk:ab (ai v) w1 w2) (ho:∀ b,ai v2 b→ai v b∨w1.heap.size≤b):ij w w2 v2 (l ++ [e]):=by
 refine ⟨by simpa [aA] using hs,(h.2.1.trans k1).then hk (fun b hb=>.inr (h.2.2 b hb)),fun b hb=>?_⟩;rcases ho b hb with h1 | h1
 ·exact h.2.2 b h1
 ·exact Nat.le_trans (Nat.le_trans h.2.1.size k1.size) h1
theorem kO.done {P:Program} {p:Nat} {L:eu P p τ} {w:World} {F:Nat→Prop} {rv wv:Value} {b0 b1 b2:Nat} {t:τ} {av wait:List (Int × Int)} {t':τ} {q':List (Int × Int)} {items:List It} {F':Nat→Prop} {wv':Value} {wr w1 w2:World} {v1 v2:Value}
  (he:fJ L.alive L.ae t av wait=(t',q',items)) (h:dP L w F rv wv b0 b1 b2 items q' t' F' wv' wr) (n1:ij wr w1 v1 (bz L.alive L.now t' items)) (n2:ij w1 w2 v2 (bC L.alive L.now t' q')) :
  kO L t F rv wv av wait w (.returned (.tuple #[])) ((w2.setCell ⟨p,0,none⟩ v1).setCell ⟨p,1,none⟩ v2):=by
 have hm2:=(h.ae n1.2.1).ae n2.2.1;have kset:=((ab.refl (·=p) w2).setCell (p:=⟨p,0,none⟩) (.inl rfl) v1).setCell (p:=⟨p,1,none⟩) (.inl rfl) v2;have hpl:=h.hS.hp.lt;have s1:=n1.2.1.size;have s0:=h.hK.size;have o1:¬ ai v1 p:=fun hb=>by have:=n1.2.2 p hb;omega
 have o2:¬ ai v2 p:=fun hb=>by have:=n2.2.2 p hb;omega
 unfold kO;rw [he];refine ⟨rfl,F',v1,v2,L.J_keep hm2.hJ kset (by rintro b hb rfl;exact h.hA b ⟨hb, .inl rfl⟩),⟨by simpa using (hm2.hS.hp.aO 0 v1).aO 1 v2,(n1.1.ae n2.2.1 (fun _ _ h=>h)).ae kset (by rintro b hb rfl;exact o1 hb),n2.1.ae kset (by rintro b hb rfl;exact o2 hb),?_⟩,?_,
  (hm2.hK.setCell (p:=⟨p,0,none⟩) (.inl (.inr (.inl rfl))) v1).setCell (p:=⟨p,1,none⟩) (.inl (.inr (.inl rfl))) v2,h.hF,?_⟩
 ·rintro b ⟨h1,h2⟩;have:=(n1.1.own h1).1;have:=n2.2.2 b h2;omega
 ·rintro b ⟨h1,h2 | h2 | h2⟩
  ·exact h.hA b ⟨h1, .inl h2⟩
  ·have:=L.J_lt h.hJ h1;have:=n1.2.2 b h2;omega
  ·have:=L.J_lt h.hJ h1;have:=n2.2.2 b h2;omega
 ·rintro b (h1 | h1 | h1)
  ·exact .inl (.inl h1)
  ·have:=n1.2.2 b h1;exact .inr (by omega)
  ·have:=n2.2.2 b h1;exact .inr (by omega)
theorem tm (p:Nat) (L:eu Tryz.prog p τ) (t:τ) (F:Nat→Prop) (rv wv:Value) (av wait:List (Int × Int)) (w:World)
  (hJ:L.J w t F) (h:bu w p rv wv av wait) (hap:ia F p rv wv) (hl1:av.length≤100000) (hl2:wait.length≤100000) (hD1:∀ e ∈ av,L.D t e.1∧L.DK t e.2) (hD:∀ e ∈ wait,L.D t e.1∧L.D t e.2) :
  Calls Tryz.prog 60 #[.pointer (some ⟨p,0,none⟩),L.val] w fun e w'=>kO L t F rv wv av wait w e w':=by
 obtain ⟨ie,hie,hez0,hez1,hez2⟩:=info_parts jY;have Hi:=Hz hie;have Hz0:=Hz hez0;have Hz1:=Hz hez1;have Hz2:=Hz hez2;clear hie hez0 hez1 hez2;obtain ⟨ib,hi,hz0,hz1,hz2⟩:=info_parts iQ;have hmk:=fun (wx:World) (n:Nat) (h1:n≤9223372036854775807) (h2:n≤281474976710656)=>eH (P:=Tryz.prog) wx 122 4 ib (.bool false) Tryz.underlying122 hi hz0 rfl hz1 n (by rw [hz2];omega) h1;have HM:=Hz hmk;clear hmk hi hz0 hz1 hz2;have hk:=fun (wx:World)=>HM.out wx av.length (by omega) (by omega);obtain ⟨ro,rc,rfl,hrd,_,_⟩:=h.hr.rd;have c0:=h.hp.cell 0;simp only [Lz,Ls] at c0;have hpl:=h.hp.lt;have H:=Hz h;have HR:=Hz hrd;have HJ:=Hz hJ;have HA:=Hz hap;have HD:=Hz hD;have HD1:=Hz hD1;clear h hrd hJ hap hD hD1;have ea:=L.ea;have ek:=L.ek;have en:=L.en;generalize hbox:w.alloc (.cells #[.func (.func L.fa) L.a1 L.a2, .func (.func L.fk) L.k1 L.k2, .func (.func L.fn) L.n1 L.n2] 113)=wb;have hkb:ab (fun _=>False) w wb:=by rw [←hbox];exact (ab.refl _ _).alloc _
 have hbb:ah wb w.heap.size L.cells 113:=by rw [←hbox];exact ah.newAt _ rfl rfl
 have hszb:wb.heap.size=w.heap.size+1:=by rw [←hbox];simp
 have HKB:=Hz hkb;have HBB:=Hz hbb;have HSZ:=Hz hszb;have HBX:=Hz hbox;clear hkb hbb hszb hbox;generalize hwd:wb.alloc (.cells (Array.replicate av.length (.bool false)) 4)=wd;have hkd:ab (fun _=>False) wb wd:=by rw [←hwd];exact (ab.refl _ _).alloc _
 have hbd:ah wd (w.heap.size+1) (jn L.alive t av 0) 4:=by rw [←hwd];exact ah.newAt _ HSZ.out.symm (by simp [jn])
 have HKD:=Hz hkd;have HBD:=Hz hbd;have HWD:=Hz hwd;clear hkd hbd hwd;unfold eu.val;go_enter Tryz.func60,Tryz.ntmps60;go_wp2_with fail;rw [HBX.out,HWD.out];go_loopw [29] (fun i wr=>∃ k:Nat,k≤av.length∧i=.int .i64 k∧ah wr (w.heap.size+1) (jn L.alive t av k) 4∧ab (·=w.heap.size+1) wd wr) (fun i _=>av.length-(intOf i).toNat)
 case atStart=>exact ⟨0,Nat.zero_le _,rfl,HBD.out,ab.refl _ _⟩
 case round=>
  obtain ⟨k,hkl,rfl,hbl,hkr⟩:=hrel;have HBL:=Hz hbl;have HKR:=Hz hkr;have hkw:ab (fun b=>w.heap.size≤b) w wr:=((HKB.out.trans HKD.out).mono fun _ _ h=>h.elim).trans (hkr.mono (by rintro b _ rfl;omega));have hkn:∀ b,b<w.heap.size→¬ (w.heap.size≤b):=fun b h=>by omega
  have HKW:=Hz hkw;have HKN:=Hz hkn;clear hbl hkr hkw hkn;by_cases hlt:k<av.length
  ·have hrd:=HR.out.ae HKW.out (fun a _ h=>HKN.out _ h);obtain ⟨g,o,rfl,hgl,d0,d1⟩:=hrd.il k hlt;have hvd0:=HD1.out (av.getD k (0,0)) (by simp [List.getD,hlt]);have hvd:=And.intro hvd0.1 (L.DK_D hvd0.2);clear hvd0;have HDS:=Hz (xw (alive:=L.alive) (t:=t) hlt);generalize av.getD k (0,0)=v at *;have hbx:ah wr w.heap.size L.cells 113:=HKR.out.ak (HKD.out.ak HBB.out (fun h=>h)) (by omega);have HX:=Hz hbx;have HV:=Hz hvd;have b0:=hbx.cell 0;have bl:=hbx.lt;simp only [eu.cells,Lz] at b0;clear hrd hvd hbx;go_wp2_with fail;have hk0:=(Kz wr).alloc (.cells #[Value.int IntKind.i64 v.fst,Value.int IntKind.i64 v.snd] 101);refine (L.dG _ t F v.2 (L.J_keep HJ.out (HKW.out.trans (hk0.mono fun _ _ h=>h.elim)) (fun b h=>HKN.out b (L.J_lt HJ.out h))) HV.out.2).mono ?_;rintro e w1 ⟨rfl,hk1⟩;have HB1:=Hz (hk1.ak (hk0.ak HBL.out (fun h=>h)) (fun h=>h));have HK1:=Hz (HKR.out.trans ((hk0.trans hk1).mono fun _ _ h=>h.elim));clear hk0 hk1;obtain ⟨aP,q0⟩:∃ aP,w1.cell? ⟨w.heap.size+1,k,none⟩=some aP:=⟨_,by rw [HB1.out.cell,Le (by rw [ta (Nat.le_of_lt hlt)];exact hlt)]⟩;have qf:=HB1.out.free k;have ql:=HB1.out.lt;go_wp2_with fail;go_roundw
   case rel=>exact ⟨k+1,by omega,by go_num,by rw [HDS.out];exact HB1.out.aO k _,HK1.out.setCell (p:=⟨w.heap.size+1,k,none⟩) (.inl rfl) _⟩
   case measure=>simp [intOf];omega
  ·obtain rfl:k=av.length:=by omega
   have p0:=(HKW.out.ak H.out.hp (HKN.out _ hpl)).cell 0;have pl:=(HKW.out.ak H.out.hp (HKN.out _ hpl)).lt;simp only [Lz] at p0;have hbx:ah wr w.heap.size L.cells 113:=HKR.out.ak (HKD.out.ak HBB.out (fun h=>h)) (by omega);generalize hwm:wr.alloc (.cells (Array.replicate av.length (.bool false)) 4)=wm;have hst:=kP.start (wm:=wm) HJ.out H.out HA.out HD1.out HD.out HKW.out hbx HBL.out (by rw [←hwm];exact (ab.refl _ _).alloc _) (by rw [←hwm];exact ah.newAt _ rfl (by simp));have hr0:w.heap.size+2≤wr.heap.size:=HBL.out.lt;have HST:=Hz hst;have HWM:=Hz hwm;have HR0:=Hz hr0;clear hst hwm hbx hr0;go_wp2_with fail;rw [HWM.out];generalize wr.heap.size=b2 at *;go_loopw [8] (fun v wx=>∃ more items,v=.bool more∧kP L w F (.slice ro av.length rc) wv w.heap.size (w.heap.size+1) b2 t av wait (wait.length+av.length) wx more items) (fun v wx=>2*cntF wx b2+bit v)
   case atStart=>exact ⟨true,_,rfl,HST.out⟩
   case round=>
    obtain ⟨more,items,rfl,n,t',q',F',wv',hm,hf,hN,hun,he⟩:=hrel;have GM:=Hz hm;have GF:=Hz hf;have GN:=Hz hN;have GU:=Hz hun;have GE:=Hz he;have hsr:=hm.hS;rw [hf] at hsr;have GS:=Hz hsr;have x0:=hm.hS.hp.cell 0;have xl:=hm.hS.hp.lt;simp only [Lz] at x0;have hbl:=Nat.le_trans (Nat.le_refl _) hm.h2.lt;have hcn:=s7 hm.h2;have HCN:=Hz hcn;clear hm hf hN hun he hsr hcn p0 pl c0 HST;have p0:=x0;clear x0;cases more
    ·have he:=GE.out;simp only [Bool.false_eq_true,if_false] at he;have GE2:=Hz he;clear he GE;go_wp2_with fail;go_loopw [12,106] (fun v i wx=>∃ (k:Nat),k≤av.length∧i=.int .i64 k∧ij wr wx v (bz L.alive L.now t' (items.take k))) (fun _ i _=>av.length-(intOf i).toNat)
     case atStart=>exact ⟨0,Nat.zero_le _,rfl,ij.nil wr⟩
     case round=>
      obtain ⟨k,hk,rfl,hnl⟩:=hrel;have KNL:=Hz hnl;have hmk:=GM.out.ae hnl.2.1;have hil:items.length=av.length:=by rw [←GF.out];simp
      clear hnl;by_cases hlt:k<av.length
      ·have hki:k<items.length:=by omega
       have hst:=te (alive:=L.alive) (now:=L.now) (t:=t') hki;have hvd0:=hmk.hr items[k] (List.getElem_mem hki);have hvd:=And.intro hvd0.1 (L.DK_D hvd0.2);clear hvd0;have hgk:items[k]? = some items[k]:=Le hki;have hfs:av.getD k (0,0)=items[k].1:=by rw [←GF.out];simp [List.getD,hki]
       have hsr:=hmk.hS;rw [GF.out] at hsr;obtain ⟨_,_,e',hrd,_,_⟩:=hsr.hr.rd;cases e';obtain ⟨g,o,rfl,hgl,d0,d1⟩:=hrd.il k hlt;rw [hfs] at d0 d1;have f0:=hmk.h0.cell 0;have fl:=hmk.h0.lt;have r1:=hmk.h1.cell k;have r1l:=hmk.h1.lt;rw [List.getElem?_map,hgk] at r1;simp only [Option.map_some] at r1;simp only [eu.cells,Lz,Ls] at f0;have hle:(bz L.alive L.now t' (items.take k)).length≤100000:=Nat.le_trans vN (Nat.le_trans (List.length_take_le _ _) (by omega));generalize items[k]=i at *;obtain ⟨v,dd,mv⟩:=i;have KM:=Hz hmk;have KST:=Hz hst;have KV:=Hz hvd;have KLE:=Hz hle;clear hmk hst hvd hgk hfs hsr hrd hle;cases dd
       ·go_wp2_with fail;have hk0:=(Kz wr).alloc (.cells #[Value.int IntKind.i64 v.fst,Value.int IntKind.i64 v.snd] 101);refine (L.dG _ t' F' v.1 (L.J_keep KM.out.hJ hk0 (fun _ _ h=>h)) KV.out.1).mono ?_;rintro e w1 ⟨rfl,hk1⟩;have KK1:=Hz (hk0.trans hk1);have KE1:=Hz (hk1.ak (ah.newAt (w:=wr) _ rfl rfl) (fun h=>h));clear hk0 hk1;cases ha:L.alive t' v.1
        ·go_wp2_with fail;go_roundw
         case rel=>exact ⟨k+1,by omega,by go_num,by rw [KST.out,ha];simpa using KNL.out.ae KK1.out⟩
         case measure=>simp [intOf];omega
        ·have hm1:=KM.out.ae KK1.out;clear f0 fl r1 r1l d0 d1;have f2:=hm1.h0.cell 2;have e0:=KE1.out.cell 0;have e1:=KE1.out.cell 1;simp only [eu.cells,Lz,Ls] at f2 e0 e1;clear hm1;go_wp2_with fail;refine dM [(0,0),(1,0),(3,0),(6,0),(8,0),(2,0),(4,0),(7,0),(9,0),(5,1),(10,1),(11,0),(12,1),(13,1),(14,0)] (fun w'=>w'.cell? ⟨w.heap.size,2,none⟩=some (.func (.func L.fn) L.n1 L.n2)∧w'.cell? ⟨wr.heap.size,0,none⟩=some (.int .i64 v.1)∧w'.cell? ⟨wr.heap.size,1,none⟩=some (.int .i64 v.2)) (by kernel_rfl) (by kernel_rfl) ⟨f2,e0,e1⟩ ?_
         iterate 9 (refine cz rfl rfl _ (fun w' hG=>by obtain ⟨g0,g1,g2⟩:=hG;go_simp;exact ck.mk _ _) (fun K hK=>?_);go_simp;refine hK _ ?_;clear hK K)
         refine cT rfl rfl (fun K hK=>?_);unfold aC;go_simp;have kd1:ab (fun _=>False) wr w1.drew:=KK1.out.trans ((ab.refl _ w1).drew);refine (L.now_c _ t' F' v.1 (KM.out.ae kd1).hJ KV.out.1).mono ?_;rintro e w2 ⟨rfl,hk2⟩;have kd2:=kd1.trans hk2;have be2:=hk2.ak (KE1.out.drew) (fun h=>h);refine hK _ _ ⟨(KM.out.ae kd2).h0.cell 2,be2.cell 0,be2.cell 1⟩ ?_;clear hK K;refine cT rfl rfl (fun K hK=>?_);unfold aC;go_simp;refine (L.now_c _ t' F' v.2 (KM.out.ae kd2).hJ KV.out.2).mono ?_;rintro e w3 ⟨rfl,hk3⟩;have kd3:=kd2.trans hk3;have be3:=hk3.ak be2 (fun h=>h);refine hK _ _ ⟨(KM.out.ae kd3).h0.cell 2,be3.cell 0,be3.cell 1⟩ ?_;clear hK K;have KD3:=Hz kd3;have KB3:=Hz be3;clear kd1 kd2 kd3 be2 be3 hk2 hk3 f2 e0 e1
         iterate 1 (refine cz rfl rfl _ (fun w' hG=>by obtain ⟨g0,g1,g2⟩:=hG;go_simp;exact ck.mk _ _) (fun K hK=>?_);go_simp;refine hK _ ?_;clear hK K)
         refine cT rfl rfl (fun K hK=>?_);unfold aC;go_simp;refine hK _ _ ?_ ?_
         ·have k:=(Kz w3).alloc (.cells #[.int .i64 (L.now t' v.1), .int .i64 (L.now t' v.2)] 101);exact ⟨(KM.out.ae (KD3.out.trans k)).h0.cell 2,(k.ak KB3.out (fun h=>h)).cell 0,(k.ak KB3.out (fun h=>h)).cell 1⟩
         clear hK K;refine cT rfl rfl (fun K hK=>?_);have hle:=KLE.out;refine fU (.tmp 123) (.tmp 135) 131 rfl 101 ie (.agg #[.int .i64 0, .int .i64 0]) 2 16 Tryz.underlying131 Hi.out Hz0.out Hz1.out Hz2.out rfl (by decide) _ (bz L.alive L.now t' (items.take k)).length (aA (bz L.alive L.now t' (items.take k))) rfl ?ja ⟨w3.heap.size,0,none⟩ 1 1 [.int .i64 (L.now t' v.1), .int .i64 (L.now t' v.2)] rfl rfl ?jb ?jc ?jd ?je ?jf
         case ja=>exact (KNL.out.ae (KD3.out.trans ((Kz w3).alloc _))).1
         case jb=>exact bW w3 101 #[.int .i64 (L.now t' v.1), .int .i64 (L.now t' v.2)]
         case jc=>intro u hu;simp at hu;rcases hu with rfl | rfl <;> rfl
         case jd=>unfold maxLen;omega
         case je=>omega
         case jf=>
          intro v5 w5 hs5 hk5 ho5;have hka:ab (fun _=>False) w3 (w3.alloc (.cells #[.int .i64 (L.now t' v.1), .int .i64 (L.now t' v.2)] 101)):=(Kz w3).alloc _;have hnw:=ij.app (e:=(L.now t' v.1,L.now t' v.2)) KNL.out (KD3.out.trans hka) hs5 hk5 ho5;have kd5:=KD3.out.trans hka;have KNW:=Hz hnw;have hm5:=KM.out.ae (w2:=w3.alloc (.cells #[.int .i64 (L.now t' v.1), .int .i64 (L.now t' v.2)] 101)) kd5;have be5:=hka.ak KB3.out (fun h=>h);have nb0:¬ ai u12 w.heap.size:=fun h=>by
           obtain ⟨_,cur,hc⟩:=KNL.out.1.own h;exact KM.out.h0.ne hc (by decide) rfl
          have nb1:¬ ai u12 wr.heap.size:=fun h=>by
           have:=(KNL.out.1.own h).1;omega
          refine hK _ _ ⟨(hk5.ak hm5.h0 nb0).cell 2,(hk5.ak be5 nb1).cell 0,(hk5.ak be5 nb1).cell 1⟩ ?_;clear hK K hs5 hk5 ho5 hka hnw kd5 hm5 be5 nb0 nb1
          iterate 1 (refine cz rfl rfl _ (fun w' hG=>by obtain ⟨g0,g1,g2⟩:=hG;go_simp;exact ck.mk _ _) (fun K hK=>?_);go_simp;refine hK _ ?_;clear hK K)
          refine fR ?_;go_wp2_with fail;go_roundw
          case rel=>exact ⟨k+1,by omega,by go_num,by rw [KST.out,ha];exact KNW.out⟩
          case measure=>simp [intOf];omega
       ·go_wp2_with fail;go_roundw
        case rel=>exact ⟨k+1,by omega,by go_num,by rw [KST.out];simpa using KNL.out.ae ((ab.refl _ _).alloc _)⟩
        case measure=>simp [intOf];omega
      ·obtain rfl:k=av.length:=by omega
       have htk:items.take av.length=items:=by rw [←hil];exact List.take_length
       have hnl:=KNL.out;rw [htk] at hnl;obtain ⟨n1,c1,rfl,_,_,_⟩:=hnl.1.rd;obtain ⟨wo,wc,rfl,_,_,_⟩:=hmk.hS.hw.rd;have p1:=hmk.hS.hp.cell 1;have pl1:=hmk.hS.hp.lt;simp only [Lz,Ls] at p1;have hql:q'.length≤200000:=by have:=GN.out;omega
       have KN1:=Hz hnl;have KM0:=Hz hmk;clear hnl hmk htk KNL;go_wp2_with fail;go_loopw [13,143] (fun v i wx=>∃ (k:Nat),k≤q'.length∧i=.int .i64 k∧ij wr wx v (bC L.alive L.now t' (q'.take k))) (fun _ i _=>q'.length-(intOf i).toNat)
       case atStart=>exact ⟨0,Nat.zero_le _,rfl,ij.nil wr⟩
       case round=>
        obtain ⟨k,hk,rfl,hnl⟩:=hrel;have KNL:=Hz hnl;have hmk:=KM0.out.ae hnl.2.1;clear hnl;by_cases hlt:k<q'.length
        ·have hst:=tg (alive:=L.alive) (now:=L.now) (t:=t') hlt;have hvd:=hmk.hq (q'.getD k (0,0)) (by simp [List.getD,hlt]);obtain ⟨_,_,e',hrd,_,_⟩:=hmk.hS.hw.rd;cases e';obtain ⟨g,o,rfl,hgl,d0,d1⟩:=hrd.il k hlt;have f0:=hmk.h0.cell 0;have fl:=hmk.h0.lt;simp only [eu.cells,Lz,Ls] at f0;have hle:(bC L.alive L.now t' (q'.take k)).length≤200000:=Nat.le_trans vO (Nat.le_trans (List.length_take_le _ _) (by omega));generalize q'.getD k (0,0)=v at *;have KM:=Hz hmk;have KST:=Hz hst;have KV:=Hz hvd;have KLE:=Hz hle;clear hmk hst hvd hrd hle;go_wp2_with fail;have hk0:=(Kz wr).alloc (.cells #[Value.int IntKind.i64 v.fst,Value.int IntKind.i64 v.snd] 101);refine (L.dG _ t' F' v.1 (L.J_keep KM.out.hJ hk0 (fun _ _ h=>h)) KV.out.1).mono ?_;rintro e w1 ⟨rfl,hk1⟩;have KK1:=Hz (hk0.trans hk1);have KE1:=Hz (hk1.ak (ah.newAt (w:=wr) _ rfl rfl) (fun h=>h));clear hk0 hk1;cases ha:L.alive t' v.1
         ·go_wp2_with fail;go_roundw
          case rel=>exact ⟨k+1,by omega,by go_num,by rw [KST.out,ha];simpa using KNL.out.ae KK1.out⟩
          case measure=>simp [intOf];omega
         ·have hm1:=KM.out.ae KK1.out;clear f0 fl d0 d1;have f2:=hm1.h0.cell 2;have e0:=KE1.out.cell 0;have e1:=KE1.out.cell 1;simp only [eu.cells,Lz,Ls] at f2 e0 e1;clear hm1;go_wp2_with fail;refine dM [(0,0),(1,0),(3,0),(6,0),(8,0),(2,0),(4,0),(7,0),(9,0),(5,1),(10,1),(11,0),(12,1),(13,1),(14,0)] (fun w'=>w'.cell? ⟨w.heap.size,2,none⟩=some (.func (.func L.fn) L.n1 L.n2)∧w'.cell? ⟨wr.heap.size,0,none⟩=some (.int .i64 v.1)∧w'.cell? ⟨wr.heap.size,1,none⟩=some (.int .i64 v.2)) (by kernel_rfl) (by kernel_rfl) ⟨f2,e0,e1⟩ ?_
          iterate 9 (refine cz rfl rfl _ (fun w' hG=>by obtain ⟨g0,g1,g2⟩:=hG;go_simp;exact ck.mk _ _) (fun K hK=>?_);go_simp;refine hK _ ?_;clear hK K)
          refine cT rfl rfl (fun K hK=>?_);unfold aC;go_simp;have kd1:ab (fun _=>False) wr w1.drew:=KK1.out.trans ((ab.refl _ w1).drew);refine (L.now_c _ t' F' v.1 (KM.out.ae kd1).hJ KV.out.1).mono ?_;rintro e w2 ⟨rfl,hk2⟩;have kd2:=kd1.trans hk2;have be2:=hk2.ak (KE1.out.drew) (fun h=>h);refine hK _ _ ⟨(KM.out.ae kd2).h0.cell 2,be2.cell 0,be2.cell 1⟩ ?_;clear hK K;refine cT rfl rfl (fun K hK=>?_);unfold aC;go_simp;refine (L.now_c _ t' F' v.2 (KM.out.ae kd2).hJ KV.out.2).mono ?_;rintro e w3 ⟨rfl,hk3⟩;have kd3:=kd2.trans hk3;have be3:=hk3.ak be2 (fun h=>h);refine hK _ _ ⟨(KM.out.ae kd3).h0.cell 2,be3.cell 0,be3.cell 1⟩ ?_;clear hK K;have KD3:=Hz kd3;have KB3:=Hz be3;clear kd1 kd2 kd3 be2 be3 hk2 hk3 f2 e0 e1
          iterate 1 (refine cz rfl rfl _ (fun w' hG=>by obtain ⟨g0,g1,g2⟩:=hG;go_simp;exact ck.mk _ _) (fun K hK=>?_);go_simp;refine hK _ ?_;clear hK K)
          refine cT rfl rfl (fun K hK=>?_);unfold aC;go_simp;refine hK _ _ ?_ ?_
          ·have k:=(Kz w3).alloc (.cells #[.int .i64 (L.now t' v.1), .int .i64 (L.now t' v.2)] 101);exact ⟨(KM.out.ae (KD3.out.trans k)).h0.cell 2,(k.ak KB3.out (fun h=>h)).cell 0,(k.ak KB3.out (fun h=>h)).cell 1⟩
          clear hK K;refine cT rfl rfl (fun K hK=>?_);have hle:=KLE.out;refine fU (.tmp 152) (.tmp 164) 131 rfl 101 ie (.agg #[.int .i64 0, .int .i64 0]) 2 16 Tryz.underlying131 Hi.out Hz0.out Hz1.out Hz2.out rfl (by decide) _ (bC L.alive L.now t' (q'.take k)).length (aA (bC L.alive L.now t' (q'.take k))) rfl ?la ⟨w3.heap.size,0,none⟩ 1 1 [.int .i64 (L.now t' v.1), .int .i64 (L.now t' v.2)] rfl rfl ?lb ?lc ?ld ?le ?lf
          case la=>exact (KNL.out.ae (KD3.out.trans ((Kz w3).alloc _))).1
          case lb=>exact bW w3 101 #[.int .i64 (L.now t' v.1), .int .i64 (L.now t' v.2)]
          case lc=>intro u hu;simp at hu;rcases hu with rfl | rfl <;> rfl
          case ld=>unfold maxLen;omega
          case le=>omega
          case lf=>
           intro v5 w5 hs5 hk5 ho5;have hka:ab (fun _=>False) w3 (w3.alloc (.cells #[.int .i64 (L.now t' v.1), .int .i64 (L.now t' v.2)] 101)):=(Kz w3).alloc _;have hnw:=ij.app (e:=(L.now t' v.1,L.now t' v.2)) KNL.out (KD3.out.trans hka) hs5 hk5 ho5;have kd5:=KD3.out.trans hka;have KNW:=Hz hnw;have hm5:=KM.out.ae (w2:=w3.alloc (.cells #[.int .i64 (L.now t' v.1), .int .i64 (L.now t' v.2)] 101)) kd5;have be5:=hka.ak KB3.out (fun h=>h);have nb0:¬ ai u13 w.heap.size:=fun h=>by
            obtain ⟨_,cur,hc⟩:=KNL.out.1.own h;exact KM.out.h0.ne hc (by decide) rfl
           have nb1:¬ ai u13 wr.heap.size:=fun h=>by
            have:=(KNL.out.1.own h).1;omega
           refine hK _ _ ⟨(hk5.ak hm5.h0 nb0).cell 2,(hk5.ak be5 nb1).cell 0,(hk5.ak be5 nb1).cell 1⟩ ?_;clear hK K hs5 hk5 ho5 hka hnw kd5 hm5 be5 nb0 nb1
           iterate 1 (refine cz rfl rfl _ (fun w' hG=>by obtain ⟨g0,g1,g2⟩:=hG;go_simp;exact ck.mk _ _) (fun K hK=>?_);go_simp;refine hK _ ?_;clear hK K)
           refine fR ?_;go_wp2_with fail;go_roundw
           case rel=>exact ⟨k+1,by omega,by go_num,by rw [KST.out,ha];exact KNW.out⟩
           case measure=>simp [intOf];omega
        ·obtain rfl:k=q'.length:=by omega
         have hnl:=KNL.out;rw [List.take_length] at hnl;obtain ⟨n2,c2,rfl,_,_,_⟩:=hnl.1.rd;have hmk:=KM0.out.ae KNL.out.2.1;have p0:=hmk.hS.hp.cell 0;have p1:=hmk.hS.hp.cell 1;have fz0:=hmk.hS.hp.free 0;have fz1:=hmk.hS.hp.free 1;have pl:=hmk.hS.hp.lt;simp only [Lz,Ls] at p0 p1;have KN2:=Hz hnl;clear hnl hmk KNL;go_wp2_with fail;go_end0;exact kO.done GE2.out GM.out KN1.out KN2.out
    ·have he:=GE.out;simp only [if_true] at he;have GE2:=Hz he;have hun:=GU.out rfl;clear he GE;have hl0:items.length=av.length:=by rw [←GF.out];simp
     have HI:ix L w F (.slice ro av.length rc) wv w.heap.size (w.heap.size+1) b2 t' q' items (wait.length+av.length) wr 0 false:=
      ⟨t',q',F',wv',[],rfl,by simpa using GM.out,by simpa using GN.out,by simp⟩
     have HL0:=Hz hl0;clear hl0;go_wp2_with fail;go_loopw [8,56] (fun v i wx=>∃ (k:Nat) (more:Bool),k≤av.length∧i=.int .i64 k∧v=.bool more∧ix L w F (.slice ro av.length rc) wv w.heap.size (w.heap.size+1) b2 t' q' items (wait.length+av.length) wx k more) (fun _ i _=>av.length-(intOf i).toNat)
     case atStart=>exact ⟨0,false,Nat.zero_le _,rfl,rfl,HI⟩
     case round=>
      clear HI;obtain ⟨k,more,hk,rfl,rfl,hsc⟩:=hrel;by_cases hlt:k<av.length
      ·obtain ⟨t2,q2,F2,v2,done,hd,hm,hN,hE⟩:=hsc;have hki:k<items.length:=by rw [HL0.out];exact hlt
       have hdr:items.drop k=items[k] :: items.drop (k+1):=List.drop_eq_getElem_cons hki;rw [hdr] at hm hN hE;generalize items[k]=i at *;obtain ⟨v,dd,mv⟩:=i;have hln:((done ++ (v,dd,mv) :: items.drop (k+1)).map (·.1)).length=av.length:=by
        have:=HL0.out;simp [hd];omega
       have hgt:((done ++ (v,dd,mv) :: items.drop (k+1)).map (·.1)).getD k (0,0)=v:=by simp [List.getD,hd]
       obtain ⟨_,_,e',hrd,_,_⟩:=hm.hS.hr.rd;rw [hln] at e';cases e';obtain ⟨g,o,rfl,hgl,d0,d1⟩:=hrd.il k (by omega);rw [hgt] at d0 d1;have f0:=hm.h0.cell 0;have f1:=hm.h0.cell 1;have fl:=hm.h0.lt;have r1:=hm.h1.cell k;have r1l:=hm.h1.lt;have r2:=hm.h2.cell k;have r2l:=hm.h2.lt;simp only [eu.cells,Lz,Ls] at f0 f1;have hgk:(done ++ (v,dd,mv) :: items.drop (k+1))[k]? = some (v,dd,mv):=by simp [hd]
       rw [List.getElem?_map,hgk] at r1 r2;simp only [Option.map_some] at r1 r2;have fz:=hm.h2.free k;have hvd:=hm.hr (v,dd,mv) (by simp);have KM:=Hz hm;have KD:=Hz hd;have KDR:=Hz hdr;have KN:=Hz hN;have KE:=Hz hE;have KV:=Hz hvd;have KL:=Hz hln;clear hm hd hdr hN hE hgt hrd hgk hvd hln;have SKIP:Hid (∀ w2,ab (fun _=>False) wr w2→((dd && !mv) && L.alive t2 v.1)=false→ix L w F (.slice (some ⟨g,o,none⟩) av.length rc) wv w.heap.size (w.heap.size+1) b2 t' q' items (wait.length+av.length) w2 (k+1) more):=fun w2 h1 h2=>ix.skip KD.out KDR.out KM.out KN.out KE.out h1 h2;cases dd
       ·go_wp2_with fail;go_roundw
        case rel=>exact ⟨k+1,more,by omega,by go_num,rfl,SKIP.out _ ((ab.refl _ _).alloc _) rfl⟩
        case measure=>simp [intOf];omega
       ·cases mv
        ·go_wp2_with fail;have hk0:=(Kz wr).alloc (.cells #[Value.int IntKind.i64 v.fst,Value.int IntKind.i64 v.snd] 101);refine (L.dG _ t2 F2 v.1 (L.J_keep KM.out.hJ hk0 (fun _ _ h=>h)) KV.out.1).mono ?_;rintro e w1 ⟨rfl,hk1⟩;have KK1:=Hz (hk0.trans hk1);have KE1:=Hz (hk1.ak (ah.newAt (w:=wr) _ rfl rfl) (fun h=>h));cases ha:L.alive t2 v.1
         ·clear hk0 hk1;go_wp2_with fail;go_roundw
          case rel=>exact ⟨k+1,more,by omega,by go_num,rfl,SKIP.out _ KK1.out (by rw [ha];rfl)⟩
          case measure=>simp [intOf];omega
         ·have hm1:=KM.out.ae KK1.out;have hm2:=hm1.move;rw [KD.out] at hm2;clear f0 f1 fl r1 r1l r2 r2l fz d0 d1 hk0 hk1;have r2:=hm1.h2.cell k;have r2l:=hm1.h2.lt;have hgk:(done ++ (v,true,false) :: items.drop (k+1))[k]? = some (v,true,false):=by simp [KD.out]
          rw [List.getElem?_map,hgk] at r2;simp only [Option.map_some] at r2;have fz:=hm1.h2.free k;have f1:=hm1.h0.cell 1;have fl:=hm1.h0.lt;simp only [eu.cells,Lz,Ls] at f1;have e1:=KE1.out.cell 1;have el:=KE1.out.lt;simp only [Lz,Ls] at e1;have hbe:b2<wr.heap.size:=KM.out.h2.lt;have hbl0:w.heap.size<wr.heap.size:=KM.out.h0.lt;have hr0:=HR0.out;have hr1:w.heap.size≠b2:=by omega
          have KM2:=Hz hm2;clear hm1 hm2 hgk;go_wp2_with fail;refine (L.keep_c _ t2 F2 _ v2 _ q2 v.2 KM2.out.hJ KM2.out.hS KM2.out.hA KV.out.2 KM2.out.hq (by have:=KN.out;omega)).mono ?_;rintro e w4 ⟨rfl,F4,hJ4,hS4,hA4,hk4,hF4⟩;have hm4:=KM2.out.kept KV.out.2 hJ4 hS4 hA4 hk4 hF4;have hlen:(L.ae t2 q2 v.2).2.1.length=q2.length:=L.keep_len;have hql:(L.ae t2 q2 v.2).2.1.length≤200000:=by have:=KN.out;omega
          have hdn:=L.D_new (wait:=q2) KV.out.2;have hdg:=L.D_keep (wait:=q2) KV.out.2 KV.out.1;have hb4:=hk4.ak ((KE1.out).ew (a:=⟨b2,k,none⟩) (by show wr.heap.size≠b2;omega) (.bool true)) (by
           rintro (h | h)
           ·have:=L.J_lt KM.out.hJ h;omega
           ·have:=KM.out.hS.nW h;omega)
          obtain ⟨wo,wc,rfl,_,_,_⟩:=hm4.hS.hw.rd;clear hJ4 hS4 hA4 hk4 hF4 hlen f1 fl r2 r2l fz e1 el;generalize hr:L.ae t2 q2 v.2=r at *;have KR:=Hz hr;have KM4:=Hz hm4;have KDN:Hid (L.D r.1 v.1∧L.D r.1 r.2.2):=⟨hdg,hdn⟩;have KB4:=Hz hb4;have p1:=hm4.hS.hp.cell 1;have pl1:=hm4.hS.hp.lt;have e0:=hb4.cell 0;have el:=hb4.lt;have fz:=hm4.hS.hp.free 1;simp only [Lz,Ls] at p1 e0;clear hr hm4 hdn hdg hb4;go_wp2_with fail;refine dM [(0,0),(1,0),(2,0),(3,0),(5,0),(7,0),(4,0),(6,0),(8,0),(9,1),(10,1),(11,0),(12,0),(13,2)] (fun w'=>w'.cell? ⟨p,1,none⟩=some (.slice wo r.2.1.length wc)∧w'.cell? ⟨wr.heap.size,0,none⟩=some (.int .i64 v.1)) (by kernel_rfl) (by kernel_rfl) ⟨p1,e0⟩ ?_
          iterate 9 (refine cz rfl rfl _ (fun w' hG=>by obtain ⟨g0,g1⟩:=hG;go_simp;exact ck.mk _ _) (fun K hK=>?_);go_simp;refine hK _ ?_;clear hK K)
          refine cT rfl rfl (fun K hK=>?_);unfold aC;go_simp;refine hK _ _ ?_ ?_
          ·have k:=(Kz w4).alloc (.cells #[.int .i64 v.1, .int .i64 r.2.2] 101);exact ⟨(k.ak KM4.out.hS.hp (fun h=>h)).cell 1,(k.ak KB4.out (fun h=>h)).cell 0⟩
          clear hK K;refine cT rfl rfl (fun K hK=>?_);refine fU (.tmp 91) (.tmp 96) 131 rfl 101 ie (.agg #[.int .i64 0, .int .i64 0]) 2 16 Tryz.underlying131 Hi.out Hz0.out Hz1.out Hz2.out rfl (by decide) _ r.2.1.length (aA r.2.1) rfl ?ha ⟨w4.heap.size,0,none⟩ 1 1 [.int .i64 v.1, .int .i64 r.2.2] rfl rfl ?hb ?hc ?hd ?he ?hf
          case ha=>exact KM4.out.hS.hw.ae (((Kz w4).alloc _).drew) (fun _ _ h=>h)
          case hb=>exact bW w4 101 #[.int .i64 v.1, .int .i64 r.2.2]
          case hc=>intro u hu;simp at hu;rcases hu with rfl | rfl <;> rfl
          case hd=>unfold maxLen;omega
          case he=>omega
          case hf=>
           intro v5 w5 hs5 hk5 ho5;have hka:ab (fun _=>False) w4 ((w4.alloc (.cells #[.int .i64 v.1, .int .i64 r.2.2] 101)).drew):=((Kz w4).alloc _).drew;have hm5:=KM4.out.ae hka;have hp5:=hk5.ak hm5.hS.hp hm5.hS.pw;have hb5:=hk5.ak (hka.ak KB4.out (fun h=>h)) (fun h=>by
            have:=(KM.out.hS.hw.own h).1
            omega)
           refine hK _ _ ⟨hp5.cell 1,hb5.cell 0⟩ ?_;clear hK K;have hs6:Sl w5 101 2 v5 (r.2.1 ++ [(v.1,r.2.2)]).length (aA (r.2.1 ++ [(v.1,r.2.2)])):=by simpa [aA] using hs5
           obtain ⟨vo,vc,rfl,_,_,_⟩:=hs6.rd;have KM6:=Hz (hm5.app (e:=(v.1,r.2.2)) KDN.out hs6 hk5 ho5);have d0:=hp5.cell 1;have dl:=hp5.lt;have f0:=hp5.free 1;simp only [Lz,Ls] at d0;rw [List.length_append] at KM6;clear hs5 hk5 ho5 hka hm5 hp5 hb5 hs6 p1 pl1 e0 el fz
           iterate 2 (refine cz rfl rfl _ (fun w' hG=>by obtain ⟨g0,g1⟩:=hG;go_simp;exact ck.mk _ _) (fun K hK=>?_);go_simp;refine hK _ ?_;clear hK K)
           refine pF rfl rfl (fun K hK=>?_);unfold aC;go_simp;refine hK _ _ ?_;clear hK K;refine fR ?_;go_wp2_with fail;go_roundw
           case rel=>exact ⟨k+1,true,by omega,by go_num,rfl,ix.sK KD.out KN.out KE.out (by rw [KR.out];exact KM6.out) (by rw [ha];rfl)⟩
           case measure=>simp [intOf];omega
        ·go_wp2_with fail;go_roundw
         case rel=>exact ⟨k+1,more,by omega,by go_num,rfl,SKIP.out _ ((ab.refl _ _).alloc _) rfl⟩
         case measure=>simp [intOf];omega
      ·obtain rfl:k=av.length:=by omega
       obtain ⟨done,hmi,h1,h2,h3⟩:=kP.next GF.out hun GE2.out hsc
       have HMI:=Hz hmi;have hc2:=s7 h3;have HC2:=Hz hc2;clear hmi h3 hsc hc2;go_wp2_with fail;go_roundw
       case rel=>exact ⟨more,done,rfl,HMI.out⟩
       case measure=>
        rw [HCN.out,HC2.out];cases more
        ·show 2*cV done+0<2*cV items+1
         omega
        ·have:=h2 rfl
         show 2*cV done+1<2*cV items+1
         omega
end
section
open Go.RowKit
theorem yL (x:Int):bits .or .i64 (IntKind.i64.wrap (x*4)) 1=IntKind.i64.wrap (4*x+1):=by
 have h1:(BitVec.ofInt 64 1).toNat=1:=by decide
 have key:(BitVec.ofInt 64 (IntKind.i64.wrap (x*4)) ||| BitVec.ofInt 64 1).toNat=((4*x)%18446744073709551616).toNat+1:=by
  rw [BitVec.toNat_or,BitVec.toNat_ofInt,h1];have e:(IntKind.i64.wrap (x*4)%((2 ^ 64:Nat):Int)).toNat=(((4*x)%18446744073709551616).toNat/4) <<< 2:=by
   rw [IntKind.wrap_i64,Nat.shiftLeft_eq];omega
  rw [e,←Nat.shiftLeft_add_eq_or_of_lt (by decide:1<2 ^ 2),Nat.shiftLeft_eq];omega
 show IntKind.i64.wrap ((BitVec.ofInt 64 (IntKind.i64.wrap (x*4)) ||| BitVec.ofInt 64 1).toNat:Nat)=_
 rw [key,IntKind.wrap_i64,IntKind.wrap_i64];omega
theorem uN (x:Int) (w:World) :
  Calls Tryz.prog 24 #[.int .i64 x] w fun e w'=>e=.returned (.int .i64 (gP x))∧w=w':=by
 have hor:bits .or .i64 (wrap64 (x*4)) 1=gP x:=by rw [←IntWalk.i64_left];exact yL x
 go_enter Tryz.func24,Tryz.ntmps24
 go_wp2
 go_ret;exact ⟨rfl,rfl⟩
theorem tX (x:Int):gP (wrap64 x)=gP x:=by
 unfold gP wrap64;rw [IntKind.wrap_i64,IntKind.wrap_i64];omega
structure CH where
 p:Nat
 pa:Nat
 g:Nat
 cp:Nat
 ps:Nat
 ro:Value
 pc:Nat
 base:Int
def CH.Own (H:CH) (wv ev:Value) (k:Nat):Prop:=k=H.p∨k=H.pa∨k=H.g∨k=H.pc∨ai wv k∨ai ev k
structure cE (w:World) (H:CH) (wv ev:Value) (s:Ms) (c:Int):Prop where
 hp:ah w H.p [.pointer (some ⟨H.pa,0,none⟩), .pointer (some ⟨H.cp,0,none⟩), .pointer (some ⟨H.ps,0,none⟩),H.ro] 52
 ha:bE w H.pa H.g s.A
 hc:ah w H.pc [.pointer (some ⟨H.p,0,none⟩), .int .i64 H.base, .int .i64 c,wv,ev] 104
 hw:Sl w 3 1 wv s.wk.length (s.wk.map (Value.int .i64))
 he:Sl w 3 1 ev s.ep.length (s.ep.map (Value.int .i64))
 ap:∀ k,¬ (ai wv k∧ai ev k)
def gK (w:World) (H:CH) (wv ev:Value) (s:Ms) (c:Int) (w':World):Prop:=
 ∃ wv' ev',cE w' H wv' ev' s c∧ab (H.Own wv ev) w w'∧∀ k,H.Own wv' ev' k→H.Own wv ev k∨w.heap.size≤k
section
variable {w w':World} {H:CH} {wv ev:Value} {s:Ms} {c:Int}
theorem cE.bB (J:cE w H wv ev s c) {k:Nat} (hk:H.Own wv ev k):∃ l T,ah w k l T∧(T=52∨T=141∨T=2∨T=104∨T=3):=by
 rcases hk with rfl | rfl | rfl | rfl | hk | hk
 ·exact ⟨_,_,J.hp, .inl rfl⟩
 ·exact ⟨_,_,J.ha.hp, .inr (.inl rfl)⟩
 ·exact ⟨_,_,J.ha.hg, .inr (.inr (.inl rfl))⟩
 ·exact ⟨_,_,J.hc, .inr (.inr (.inr (.inl rfl)))⟩
 ·obtain ⟨_,l,h⟩:=J.hw.own hk;exact ⟨_,_,h, .inr (.inr (.inr (.inr rfl)))⟩
 ·obtain ⟨_,l,h⟩:=J.he.own hk;exact ⟨_,_,h, .inr (.inr (.inr (.inr rfl)))⟩
theorem cE.bU (J:cE w H wv ev s c) {k:Nat} (hk:H.Own wv ev k):k<w.heap.size:=by
 obtain ⟨_,_,h,_⟩:=J.bB hk;exact h.lt
theorem cE.ae {S:Nat→Prop} (J:cE w H wv ev s c) (k:ab S w w') (hn:∀ b,H.Own wv ev b→¬ S b):cE w' H wv ev s c:=
 ⟨k.ak J.hp (hn _ (.inl rfl)),J.ha.ae k (hn _ (.inr (.inl rfl))) (hn _ (.inr (.inr (.inl rfl)))),k.ak J.hc (hn _ (.inr (.inr (.inr (.inl rfl))))),J.hw.ae k (fun b hb=>hn b (.inr (.inr (.inr (.inr (.inl hb)))))),
  J.he.ae k (fun b hb=>hn b (.inr (.inr (.inr (.inr (.inr hb)))))),J.ap⟩
theorem cE.same (J:cE w H wv ev s c) (k:ab (fun _=>False) w w'):cE w' H wv ev s c:=J.ae k (fun _ _ h=>h)
theorem gK.refl (J:cE w H wv ev s c):gK w H wv ev s c w:=⟨wv,ev,J,ab.refl _ _,fun _ h=>.inl h⟩
theorem cE.bZ (J:cE w H wv ev s c) {A:Ar} (t:a5 w H.pa H.g w' A):cE w' H wv ev { s with A:=A } c:=by
 have n1:∀ {b:Nat} {c:List Value} {T:TypeId},ah w b c T→T≠141→T≠2→¬ (b=H.pa∨b=H.g):=fun hb h1 h2 e=>by
  rcases e with e | e
  ·exact hb.ne J.ha.hp h1 e
  ·exact hb.ne J.ha.hg h2 e
 refine ⟨t.k.ak J.hp (n1 J.hp (by decide) (by decide)),t.at_,t.k.ak J.hc (n1 J.hc (by decide) (by decide)),J.hw.ae t.k (fun b hb=>?_),J.he.ae t.k (fun b hb=>?_),J.ap⟩
 ·obtain ⟨_,l,h⟩:=J.hw.own hb;exact n1 h (by decide) (by decide)
 ·obtain ⟨_,l,h⟩:=J.he.own hb;exact n1 h (by decide) (by decide)
theorem cE.iR (J:cE w H wv ev s c) {A:Ar} (t:a5 w H.pa H.g w' A):gK w H wv ev { s with A:=A } c w':=
 ⟨wv,ev,J.bZ t,t.k.mono (fun k _ hk=>hk.elim (fun h=>.inr (.inl h)) (fun h=>.inr (.inr (.inl h)))),fun k hk=>.inl hk⟩
theorem cE.cells (J:cE w H wv ev s c):w.cell? ⟨H.pc,0,none⟩=some (.pointer (some ⟨H.p,0,none⟩))∧w.cell? ⟨H.pc,1,none⟩=some (.int .i64 H.base)∧w.cell? ⟨H.pc,2,none⟩=some (.int .i64 c)∧w.cell? ⟨H.pc,3,none⟩=some wv∧w.cell? ⟨H.pc,4,none⟩=some ev ∧
  w.cell? ⟨H.p,0,none⟩=some (.pointer (some ⟨H.pa,0,none⟩))∧w.cell? ⟨H.p,1,none⟩=some (.pointer (some ⟨H.cp,0,none⟩))∧w.cell? ⟨H.p,2,none⟩=some (.pointer (some ⟨H.ps,0,none⟩))∧w.cell? ⟨H.p,3,none⟩=some H.ro:=
 ⟨J.hc.cell 0,J.hc.cell 1,J.hc.cell 2,J.hc.cell 3,J.hc.cell 4,J.hp.cell 0,J.hp.cell 1,J.hp.cell 2,J.hp.cell 3⟩
theorem iM (x:Int) (J:cE w H wv ev s c) :
  Calls Tryz.prog 119 #[.pointer (some ⟨H.pc,0,none⟩), .int .i64 x] w fun e w'=>e=.returned (.bool (a9 s.A x))∧w=w':=by
 obtain ⟨c0,-,-,-,-,p0,-,-,-⟩:=J.cells;have pl:=J.hp.lt;have cl:=J.hc.lt;have HA:=Hz J.ha;clear J;by_cases hx:x%4=1
 ·have HX:=Hz hx;cases hy:s.A.aG (x/4)
  ·have HE:=Hz (show a9 s.A x=true by simp [a9,hy]);have HY:=Hz hy;clear hx hy;go_enter Tryz.func119,Tryz.ntmps119;go_wp2_with fail;refine (dt x _ HX.out).mono ?_;rintro e w1 ⟨rfl,rfl⟩;go_wp2_with fail;refine (cN (x/4) _ HA.out).mono ?_;rintro e w1 ⟨rfl,rfl⟩;rw [HY.out];go_wp2_with fail;go_ret;exact ⟨dg HE.out.symm,rfl⟩
  ·have HE:=Hz (show a9 s.A x=decide (s.A.load (x/4)<0) by simp [a9,hy,hx]);have HY:=Hz hy;clear hx hy;go_enter Tryz.func119,Tryz.ntmps119;go_wp2_with fail;refine (dt x _ HX.out).mono ?_;rintro e w1 ⟨rfl,rfl⟩;go_wp2_with fail;refine (cN (x/4) _ HA.out).mono ?_;rintro e w1 ⟨rfl,rfl⟩;rw [HY.out];go_wp2_with fail;refine (eD (x/4) _ HA.out).mono ?_;rintro e w1 ⟨rfl,rfl⟩;go_wp2_with fail;go_ret;exact ⟨dg HE.out.symm,rfl⟩
 ·have HE:=Hz (show a9 s.A x=true by simp [a9,hx]);have HX:=Hz hx;clear hx;go_enter Tryz.func119,Tryz.ntmps119;go_wp2_with fail;refine (kR x _ HX.out).mono ?_;rintro e w1 ⟨rfl,rfl⟩;go_wp2_with fail;go_ret;exact ⟨dg HE.out.symm,rfl⟩
theorem nL (x:Int) (J:cE w H wv ev s c) :
  Calls Tryz.prog 121 #[.pointer (some ⟨H.pc,0,none⟩), .int .i64 x] w fun e w'=>e=.returned (.int .i64 (cR s.A x))∧w=w':=by
 obtain ⟨c0,-,-,-,-,p0,-,-,-⟩:=J.cells;have pl:=J.hp.lt;have cl:=J.hc.lt;have HA:=Hz J.ha;have HR:=Hz (J.ha.ok.load (x/4));clear J;by_cases hx:x%4=1
 ·have HX:=Hz hx;cases hy:s.A.aG (x/4)
  ·have HE:=Hz (show cR s.A x=x by simp [cR,hy]);have HY:=Hz hy;clear hx hy;go_enter Tryz.func121,Tryz.ntmps121;go_wp2_with fail;refine (dt x _ HX.out).mono ?_;rintro e w1 ⟨rfl,rfl⟩;go_wp2_with fail;refine (cN (x/4) _ HA.out).mono ?_;rintro e w1 ⟨rfl,rfl⟩;rw [HY.out];go_wp2_with fail;go_ret;exact ⟨cM HE.out.symm,rfl⟩
  ·have HY:=Hz hy;have HE:=Hz (show cR s.A x=if s.A.load (x/4)<0 then gP (-1-s.A.load (x/4)) else x by simp [cR,hy,hx]);have HLd:=Hz (eD (x/4) w HA.out);generalize s.A.load (x/4)=u at HE HLd HR;clear hx hy;by_cases hu:u<0
   ·have hd:decide (u<0)=true:=by simpa using hu
    have hw:IntKind.i64.wrap (-1-u)=-1-u:=IntWalk.i64_in _ (by have:=HR.out;unfold br at this;omega);have HW:=Hz hw;have HU:=Hz hu;clear hu hw;go_enter Tryz.func121,Tryz.ntmps121;go_wp2_with fail;refine (dt x _ HX.out).mono ?_;rintro e w1 ⟨rfl,rfl⟩;go_wp2_with fail;refine (cN (x/4) _ HA.out).mono ?_;rintro e w1 ⟨rfl,rfl⟩;rw [HY.out];go_wp2_with fail;refine HLd.out.mono ?_;rintro e w1 ⟨rfl,rfl⟩;go_wp2_with fail;refine HLd.out.mono ?_;rintro e w1 ⟨rfl,rfl⟩;go_wp2_with fail;refine (uN _ _).mono ?_;rintro e w1 ⟨rfl,rfl⟩;go_wp2_with fail;go_ret;refine ⟨cM ?_,rfl⟩;rw [HE.out,if_pos HU.out]
    try rw [HW.out]
    try rw [tX]
   ·have hd:decide (u<0)=false:=by simpa using hu
    have HU:=Hz hu;clear hu;go_enter Tryz.func121,Tryz.ntmps121;go_wp2_with fail;refine (dt x _ HX.out).mono ?_;rintro e w1 ⟨rfl,rfl⟩;go_wp2_with fail;refine (cN (x/4) _ HA.out).mono ?_;rintro e w1 ⟨rfl,rfl⟩;rw [HY.out];go_wp2_with fail;refine HLd.out.mono ?_;rintro e w1 ⟨rfl,rfl⟩;go_wp2_with fail;go_ret;exact ⟨cM (by rw [HE.out,if_neg (by have:=HU.out;omega)]),rfl⟩
 ·have HE:=Hz (show cR s.A x=x by simp [cR,hx]);have HX:=Hz hx;clear hx;go_enter Tryz.func121,Tryz.ntmps121;go_wp2_with fail;refine (kR x _ HX.out).mono ?_;rintro e w1 ⟨rfl,rfl⟩;go_wp2_with fail;go_ret;exact ⟨cM HE.out.symm,rfl⟩
theorem Cd {A:Ar} {x:Int} (h:a9 A x=false):x%4=1∧A.aG (x/4)=true∧¬ A.load (x/4)<0:=by
 simp [a9] at h;exact ⟨h.1.1,h.1.2,by omega⟩
def yM (w:World) (H:CH) (wv ev:Value) (s:Ms) (c x:Int) (e:Ending) (w':World):Prop:=
 e=.returned (.int .i64 (cR (bF s.A x) x))∧a5 w H.pa H.g w' (bF s.A x)
theorem a5.aW {w w1 w2:World} {p g:Nat} {A:Ar} (k:ab (fun _=>False) w w1) (t:a5 w1 p g w2 A):a5 w p g w2 A:=⟨t.at_,(k.mono fun _ _ h=>h.elim).trans t.k⟩
theorem mC (x:Int) (J:cE w H wv ev s c) :
  Calls Tryz.prog 56 #[.pointer (some ⟨H.pc,0,none⟩), .int .i64 x] w (yM w H wv ev s c x):=by
 have HJ:=Hz J;clear J;cases hal:a9 s.A x
 ·obtain ⟨hx,-,-⟩:=Cd hal;have HE:=Hz (show bF s.A x=(s.A.copy (x/4)).2.store (x/4) (-1-(s.A.copy (x/4)).1) by unfold bF;rw [hal];rfl);have HAL:=Hz hal;have HX:=Hz hx;have hcr:=Ar.pZ HJ.out.ha.ok (x/4);have HCP:=Hz (fun w' h=>zI (p:=H.pa) (g:=H.g) (A:=s.A) (x/4) w' h);obtain ⟨⟨d,B⟩,hT⟩:∃ t,s.A.copy (x/4)=t:=⟨_,rfl⟩;rw [hT] at HE hcr HCP;dsimp only at HE hcr HCP;have hwr:IntKind.i64.wrap (-1-d)=-1-d:=IntWalk.i64_in _ (by omega);have HR:=Hz (show br (-1-d) by unfold br;omega);have HW:=Hz hwr;clear hal hx hcr hT hwr;go_enter Tryz.func56,Tryz.ntmps56;go_wp2_with fail;refine (iM x HJ.out).mono ?_;rintro e w1 ⟨rfl,rfl⟩;rw [HAL.out];go_wp2_with fail;refine (dt x _ HX.out).mono ?_;rintro e w1 ⟨rfl,rfl⟩;obtain ⟨c0,-,-,-,-,p0,-,-,-⟩:=HJ.out.cells;have pl:=HJ.out.hp.lt;have cl:=HJ.out.hc.lt;go_wp2_with fail;refine ay (.free 0 (.free 1 (.free 2 (.free 7 (.free 8 (.free 9 (.free 10 (.free 15 (.pure 3 (.free 4 (.free 5 (.pure 6 (.pure 11 (.free 12 (.free 13 (.pure 14 (.run 16 (.free 17 (.run 18 (.swi [] (.fin))))))))))))))))))))) [18] (fun w'=>w'.cell? ⟨H.pc,0,none⟩=some (.pointer (some ⟨H.p,0,none⟩))∧w'.cell? ⟨H.p,0,none⟩=some (.pointer (some ⟨H.pa,0,none⟩))) (by kernel_rfl) (by kernel_rfl) ⟨c0,p0⟩ ?_
  iterate 16 ((first | refine au rfl rfl fun K hK=>?_ | refine aq rfl rfl fun K hK=>?_ | refine aF rfl rfl fun K hK=>?_ | refine az rfl rfl fun K hK=>?_ | refine aE rfl rfl fun K hK=>?_);go_simp;refine hK _ ?_;clear hK K)
  refine aM rfl rfl (fun K hK=>?_);unfold aC;go_simp;have HD:=Hz (HJ.out.same ((Kz w).drew));refine (HCP.out _ HD.out.ha).mono ?_;rintro e w1 ⟨rfl,t⟩;have T1:=Hz t;clear t;refine hK _ _ (fun _=>⟨((HD.out.bZ T1.out).cells).1,(HD.out.bZ T1.out).cells.2.2.2.2.2.1⟩) ?_;clear hK K
  iterate 1 ((first | refine au rfl rfl fun K hK=>?_ | refine aq rfl rfl fun K hK=>?_);go_simp;refine hK _ ?_;clear hK K)
  refine aJ rfl rfl rfl (fun K hK=>?_);unfold aC;go_simp;rw [HW.out];refine (gy (x/4) (-1-d) _ T1.out.at_ HR.out).mono ?_;rintro e w2 ⟨rfl,t⟩;have T2:=Hz (a5.aW (w:=w) ((Kz w).drew) (T1.out.trans t));clear t;refine hK _ _ ?_;clear hK K c0 p0 pl cl;refine aH (fun _=>True) trivial (aB ?_);have HJ2:=Hz (HJ.out.bZ T2.out);go_wp2_with fail;refine (nL x HJ2.out).mono ?_;rintro e w3 ⟨rfl,rfl⟩;go_wp2_with fail;go_ret;refine ⟨cM (by rw [HE.out]),?_⟩;rw [HE.out];exact T2.out
 ·have HE:=Hz (show bF s.A x=s.A by unfold bF;rw [hal];rfl);have HAL:=Hz hal;clear hal;go_enter Tryz.func56,Tryz.ntmps56;go_wp2_with fail;refine (iM x HJ.out).mono ?_;rintro e w1 ⟨rfl,rfl⟩;rw [HAL.out];go_wp2_with fail;refine (nL x HJ.out).mono ?_;rintro e w1 ⟨rfl,rfl⟩;go_wp2_with fail;go_ret;refine ⟨cM (by rw [HE.out]),?_⟩;rw [HE.out];exact a5.refl HJ.out.ha (ab.refl _ _)
theorem mD (i:Int) (J:cE w H wv ev s c) :
  Calls Tryz.prog 123 #[.pointer (some ⟨H.pc,0,none⟩), .int .i64 i] w fun e w'=>e=.returned (.tuple #[])∧a5 w H.pa H.g w' (fm s.A i):=by
 have HJ:=Hz J;clear J;obtain ⟨c0,-,-,-,-,p0,-,-,-⟩:=HJ.out.cells;have pl:=HJ.out.hp.lt;have cl:=HJ.out.hc.lt;go_enter Tryz.func123,Tryz.ntmps123;go_wp2_with fail;refine ay (.free 0 (.free 1 (.free 2 (.free 7 (.free 8 (.free 9 (.free 10 (.free 11 (.free 16 (.pure 3 (.free 4 (.free 5 (.pure 6 (.pure 12 (.free 13 (.free 14 (.pure 15 (.run 17 (.run 18 (.run 19 (.swi [] (.fin)))))))))))))))))))))) [19] (fun w'=>w'.cell? ⟨H.pc,0,none⟩=some (.pointer (some ⟨H.p,0,none⟩))∧w'.cell? ⟨H.p,0,none⟩=some (.pointer (some ⟨H.pa,0,none⟩))) (by kernel_rfl) (by kernel_rfl) ⟨c0,p0⟩ ?_
 iterate 17 ((first | refine au rfl rfl fun K hK=>?_ | refine aq rfl rfl fun K hK=>?_ | refine aF rfl rfl fun K hK=>?_ | refine az rfl rfl fun K hK=>?_ | refine aE rfl rfl fun K hK=>?_);go_simp;refine hK _ ?_;clear hK K)
 refine aM rfl rfl (fun K hK=>?_);unfold aC;go_simp;have HD:=Hz (HJ.out.same ((Kz w).drew));refine (eD i _ HD.out.ha).mono ?_;rintro e w1 ⟨rfl,rfl⟩;refine hK _ _ (fun h=>h) ?_;clear hK K;refine aM rfl rfl (fun K hK=>?_);unfold aC;go_simp;refine (mC (s.A.load i) HD.out).mono ?_;rintro e w2 ⟨rfl,t⟩;have T1:=Hz t;clear t;refine hK _ _ (fun _=>⟨((HD.out.bZ T1.out).cells).1,(HD.out.bZ T1.out).cells.2.2.2.2.2.1⟩) ?_;clear hK K
 skip
 refine aJ rfl rfl rfl (fun K hK=>?_);unfold aC;go_simp;have HR:=Hz (gR (A:=bF s.A (s.A.load i)) (HD.out.ha.ok.load i));refine (gy i _ _ T1.out.at_ HR.out).mono ?_;rintro e w3 ⟨rfl,t⟩;have T2:=Hz (a5.aW (w:=w) ((Kz w).drew) (T1.out.trans t));clear t;refine hK _ _ ?_;clear hK K c0 p0 pl cl;refine aH (fun _=>True) trivial (aB ?_);go_wp2_with fail;go_end0;exact ⟨rfl,T2.out⟩
end
end
section
structure jT (s:Ms) (L:Int):Prop where
 len:(s.wk.length:Int)+s.ep.length≤L
 wb:∀ i ∈ s.wk,0≤i∧i≤1300
 eb:∀ i ∈ s.ep,0≤i∧i≤1300
theorem jT.bZ {s:Ms} {L:Int} (h:jT s L) (A:Ar):jT { s with A:=A } L:=⟨h.len,h.wb,h.eb⟩
theorem jT.more {s:Ms} {L M:Int} (h:jT s L) (hl:L≤M):jT s M:=⟨by have:=h.len;omega,h.wb,h.eb⟩
theorem jT.look {s:Ms} {L:Int} (h:jT s L) {i:Int} (h0:0≤i) (h1:i≤1300):jT (dV s i) (L+1):=by
 have hl:=h.len;have mem:∀ {l:List Int},(∀ j ∈ l,0≤j∧j≤1300)→∀ j ∈ l ++ [i],0≤j∧j≤1300:=fun hl j hj=>by
  rcases List.mem_append.1 hj with h | h
  ·exact hl j h
  ·rw [List.mem_singleton] at h;omega
 unfold dV;split
 ·exact ⟨by dsimp only;omega,h.wb,h.eb⟩
 ·split
  ·exact ⟨by simp;omega,mem h.wb,h.eb⟩
  ·split
   ·exact ⟨by simp;omega,h.wb,mem h.eb⟩
   ·exact ⟨by omega,h.wb,h.eb⟩
structure fZ (s:Ms) (c:Int):Prop where
 ok:s.A.ok
 ms:jT s (1300+c)
 c0:0≤c
 c1:c≤1300
theorem fZ.bZ {s:Ms} {c:Int} {A:Ar} (h:fZ s c) (hA:A.ok):fZ { s with A:=A } c:=⟨hA,h.ms.bZ A,h.c0,h.c1⟩
theorem qk {s:Ms} {c:Int} (n:Nat) (h:¬ c<s.A.grn):mScan n s c=(s,c):=by
 cases n with
 | zero=>rfl
 | succ n=>unfold mScan;rw [if_neg h]
theorem qm {s:Ms} {c:Int} (n:Nat) (h:c<s.A.grn):mScan (n+1) s c=mScan n (dV s c) (c+(1+(s.A.aj c).2.1)):=by
 rw [mScan,if_pos h]
theorem fZ.look {s:Ms} {c:Int} (h:fZ s c) (hc:c<s.A.grn):fZ (dV s c) (c+(1+(s.A.aj c).2.1)):=by
 have hf:=s.A.aU c;have h3:=h.ok.h3;have h4:=h.ok.h4;have:=h.c0;exact ⟨(Sm.look h.ok c).ok,(h.ms.look h.c0 h.c1).more (by omega),by omega,by omega⟩
theorem fZ.scan:∀ (n:Nat) {s:Ms} {c:Int},fZ s c→fZ (mScan n s c).1 (mScan n s c).2∧c≤(mScan n s c).2∧(0<n→c<s.A.grn→c+1≤(mScan n s c).2)
 | 0,s,c,h=>⟨h,Int.le_refl _,fun h=>by omega⟩
 | n+1,s,c,h=>by
  have hf:=s.A.aU c;by_cases hc:c<s.A.grn
  ·rw [qm n hc];have ih:=fZ.scan n (h.look hc);exact ⟨ih.1,by omega,fun _ _=>by omega⟩
  ·rw [qk _ hc];exact ⟨h,Int.le_refl _,fun _ h=>(hc h).elim⟩
def jQ (q:List (Int × Int)):Prop:=∀ e ∈ q,qK e
theorem jQ.eL:∀ (l:List (Int × Int)) {A:Ar},jQ l→jQ (wakeM a9 iW A l).2.1
 | [],A,h=>h
 | e :: l,A,h=>by
  have h1:jQ l:=fun x hx=>h x (by simp [hx]);have h2:=h e (by simp);unfold wakeM;split
  ·intro x hx;rcases List.mem_cons.1 hx with rfl | hx
   ·exact ⟨h2.1,gR h2.2⟩
   ·exact jQ.eL l h1 x hx
  ·intro x hx;rcases List.mem_cons.1 hx with rfl | hx
   ·exact h2
   ·exact jQ.eL l h1 x hx
theorem fZ.round {d:Md} (h:fZ d.s d.c):fZ (bG d).s (bG d).c∧d.c≤(bG d).c∧(d.c<d.s.A.grn→d.c+1≤(bG d).c):=by
 have h1:=fZ.scan 2000 h;have h2:=Sm.p8 (mScan 2000 d.s d.c).1.ep h1.1.ok;have h3:=Sm.eL d.q h2.ok;exact ⟨h1.1.bZ h3.ok,h1.2.1,h1.2.2 (by decide)⟩
theorem jQ.round {d:Md} (h:jQ d.q):jQ (bG d).q:=jQ.eL d.q h
theorem jQ.drain:∀ (n:Nat) {d:Md},jQ d.q→jQ (mDrain n d).q
 | 0,d,h=>h
 | n+1,d,h=>by
  unfold mDrain;split
  ·exact jQ.drain n h.round
  ·exact h.round
theorem tY {d:Md} (n:Nat) (h:(bG d).c<(bG d).s.A.grn):mDrain (n+1) d=mDrain n (bG d):=by rw [mDrain,if_pos h]
theorem tZ {d:Md} (n:Nat) (h:¬ (bG d).c<(bG d).s.A.grn):mDrain (n+1) d=bG d:=by rw [mDrain,if_neg h]
theorem xx {d:Md} {s1:Ms} {c1:Int} {A2 A3:Ar} {q3:List (Int × Int)} {b:Bool} (h1:mScan 2000 d.s d.c=(s1,c1)) (h2:fX s1.A s1.ep=A2) (h3:wakeM a9 iW A2 d.q=(A3,q3,b)):bG d=⟨{ s1 with A:=A3 },c1,q3⟩:=by
 unfold bG;rw [h1];dsimp only;rw [h2,h3]
end
section
open Go.RowKit
theorem nM:∀ (n:Nat) (A:Ar) (i:Int),mFields (n+1) A i=fm (mFields n A i) (i+n)
 | 0,A,i=>by simp [mFields]
 | n+1,A,i=>by
  have:=nM n (fm A i) (i+1);rw [mFields,this,mFields];congr 1;omega
theorem xy:(Tryz.prog.info? 3).map (fun i=>(i.zero,i.size,i.bytes))=some (some (.int .i64 0),1,8):=by kernel_rfl
section
variable {w w':World} {H:CH} {wv ev:Value} {s:Ms} {c:Int}
theorem gK.join {w1:World} {wv1 ev1:Value} (k1:ab (H.Own wv ev) w w1) (o1:∀ k,H.Own wv1 ev1 k→H.Own wv ev k∨w.heap.size≤k) (t:gK w1 H wv1 ev1 s c w'):gK w H wv ev s c w':=by
 obtain ⟨a2,b2,J2,k2,o2⟩:=t;refine ⟨a2,b2,J2,k1.then k2 o1,fun k hk=>?_⟩;rcases o2 k hk with h | h
 ·exact o1 k h
 ·exact .inr (Nat.le_trans k1.size h)
theorem cE.CC {w1 w2:World} {v2:Value} {i:Int} (J:cE w H wv ev s c) (k1:ab (fun _=>False) w w1) (hs:Sl w2 3 1 v2 (s.wk.length+1) (s.wk.map (Value.int .i64) ++ [.int .i64 i])) (k2:ab (ai wv) w1 w2)
  (ho:∀ k,ai v2 k→ai wv k∨w1.heap.size≤k):gK w H wv ev { s with wk:=s.wk ++ [i] } c (w2.setCell ⟨H.pc,3,none⟩ v2):=by
 have J1:=J.same k1;have nw:∀ {b:Nat} {l:List Value} {T:TypeId},ah w1 b l T→T≠3→¬ ai wv b:=fun hb hT hv=>by
  obtain ⟨_,l',h⟩:=J1.hw.own hv;exact hb.ne h hT rfl
 have hp2:=k2.ak J1.hp (nw J1.hp (by decide));have hc2:=k2.ak J1.hc (nw J1.hc (by decide));have ha2:=J1.ha.ae k2 (nw J1.ha.hp (by decide)) (nw J1.ha.hg (by decide));have he2:=J1.he.ae k2 (fun b hb hv=>J.ap b ⟨hv,hb⟩);have set:=(ab.refl (·=H.pc) w2).setCell (p:=⟨H.pc,3,none⟩) (.inl rfl) v2;have ne:∀ {b:Nat} {l:List Value} {T:TypeId},ah w2 b l T→T≠104→¬ b=H.pc:=fun hb hT=>hb.ne hc2 hT;refine ⟨v2,ev,⟨set.ak hp2 (ne hp2 (by decide)),ha2.ae set (ne ha2.hp (by decide)) (ne ha2.hg (by decide)),by simpa using hc2.aO 3 v2,?_,he2.ae set (fun b hb=>by obtain ⟨_,l,h⟩:=he2.own hb;exact ne h (by decide)),?_⟩,?_,?_⟩
 ·have:({ s with wk:=s.wk ++ [i] }:Ms).wk.length=s.wk.length+1:=by simp
  rw [this];simpa using hs.ae set (fun b hb=>by obtain ⟨_,l,h⟩:=hs.own hb;exact ne h (by decide))
 ·rintro k ⟨h1,h2⟩;rcases ho k h1 with h | h
  ·exact J.ap k ⟨h,h2⟩
  ·have:=(J1.he.own h2).1;omega
 ·refine ab.setCell ?_ (p:=⟨H.pc,3,none⟩) (.inl (.inr (.inr (.inr (.inl rfl))))) v2;exact (k1.mono fun _ _ h=>h.elim).trans (k2.mono fun k _ hk=>.inr (.inr (.inr (.inr (.inl hk)))))
 ·rintro k (h | h | h | h | h | h)
  ·exact .inl (.inl h)
  ·exact .inl (.inr (.inl h))
  ·exact .inl (.inr (.inr (.inl h)))
  ·exact .inl (.inr (.inr (.inr (.inl h))))
  ·rcases ho k h with h | h
   ·exact .inl (.inr (.inr (.inr (.inr (.inl h)))))
   ·exact .inr (Nat.le_trans k1.size h)
  ·exact .inl (.inr (.inr (.inr (.inr (.inr h)))))
theorem cE.yN {w1 w2:World} {v2:Value} {i:Int} (J:cE w H wv ev s c) (k1:ab (fun _=>False) w w1) (hs:Sl w2 3 1 v2 (s.ep.length+1) (s.ep.map (Value.int .i64) ++ [.int .i64 i])) (k2:ab (ai ev) w1 w2)
  (ho:∀ k,ai v2 k→ai ev k∨w1.heap.size≤k):gK w H wv ev { s with ep:=s.ep ++ [i] } c (w2.setCell ⟨H.pc,4,none⟩ v2):=by
 have J1:=J.same k1;have nw:∀ {b:Nat} {l:List Value} {T:TypeId},ah w1 b l T→T≠3→¬ ai ev b:=fun hb hT hv=>by
  obtain ⟨_,l',h⟩:=J1.he.own hv;exact hb.ne h hT rfl
 have hp2:=k2.ak J1.hp (nw J1.hp (by decide));have hc2:=k2.ak J1.hc (nw J1.hc (by decide));have ha2:=J1.ha.ae k2 (nw J1.ha.hp (by decide)) (nw J1.ha.hg (by decide));have hw2:=J1.hw.ae k2 (fun b hb hv=>J.ap b ⟨hb,hv⟩);have set:=(ab.refl (·=H.pc) w2).setCell (p:=⟨H.pc,4,none⟩) (.inl rfl) v2;have ne:∀ {b:Nat} {l:List Value} {T:TypeId},ah w2 b l T→T≠104→¬ b=H.pc:=fun hb hT=>hb.ne hc2 hT;refine ⟨wv,v2,⟨set.ak hp2 (ne hp2 (by decide)),ha2.ae set (ne ha2.hp (by decide)) (ne ha2.hg (by decide)),by simpa using hc2.aO 4 v2,hw2.ae set (fun b hb=>by obtain ⟨_,l,h⟩:=hw2.own hb;exact ne h (by decide)),?_,?_⟩,?_,?_⟩
 ·have:({ s with ep:=s.ep ++ [i] }:Ms).ep.length=s.ep.length+1:=by simp
  rw [this];simpa using hs.ae set (fun b hb=>by obtain ⟨_,l,h⟩:=hs.own hb;exact ne h (by decide))
 ·rintro k ⟨h1,h2⟩;rcases ho k h2 with h | h
  ·exact J.ap k ⟨h1,h⟩
  ·have:=(J1.hw.own h1).1;omega
 ·refine ab.setCell ?_ (p:=⟨H.pc,4,none⟩) (.inl (.inr (.inr (.inr (.inl rfl))))) v2;exact (k1.mono fun _ _ h=>h.elim).trans (k2.mono fun k _ hk=>.inr (.inr (.inr (.inr (.inr hk)))))
 ·rintro k (h | h | h | h | h | h)
  ·exact .inl (.inl h)
  ·exact .inl (.inr (.inl h))
  ·exact .inl (.inr (.inr (.inl h)))
  ·exact .inl (.inr (.inr (.inr (.inl h))))
  ·exact .inl (.inr (.inr (.inr (.inr (.inl h)))))
  ·rcases ho k h with h | h
   ·exact .inl (.inr (.inr (.inr (.inr (.inr h)))))
   ·exact .inr (Nat.le_trans k1.size h)
def Ag (w:World) (H:CH) (wv ev:Value) (s:Ms) (c i:Int) (e:Ending) (w':World):Prop:=
 e=.returned (.int .i64 (1+(s.A.aj i).2.1))∧gK w H wv ev (dV s i) c w'
theorem uO (i:Int) (J:cE w H wv ev s c) (h0:0≤i) (h1:i≤1300) (hl:(s.wk.length:Int)+s.ep.length≤1000000) :
  Calls Tryz.prog 58 #[.pointer (some ⟨H.pc,0,none⟩), .int .i64 i] w (Ag w H wv ev s c i):=by
 have HJ:=Hz J;clear J;obtain ⟨c0,-,-,c3,c4,p0,-,-,-⟩:=HJ.out.cells;have pl:=HJ.out.hp.lt;have cl:=HJ.out.hc.lt;have HTH:=Hz (gz i w HJ.out.ha);have hb:=s.A.aU i;obtain ⟨L,hLe⟩:∃ L,dV s i=L:=⟨_,rfl⟩;have HL:=Hz hLe;unfold dV at hLe;obtain ⟨⟨k,n,cd⟩,hT⟩:∃ t,s.A.aj i=t:=⟨_,rfl⟩;have HT:=Hz hT;rw [hT] at HTH hb hLe;dsimp only at HTH hb hLe;clear hT;have hwn:IntKind.i64.wrap (1+n)=1+n:=IntWalk.i64_in _ (by omega);by_cases k12:k=1∨k=2
 ·rw [if_pos k12] at hLe;have HE:=Hz hLe;clear hLe;obtain ⟨m,rfl⟩:∃ m:Nat,n=m:=⟨n.toNat,by omega⟩;have hi1:IntKind.i64.wrap (i+1)=i+1:=IntWalk.i64_in _ (by omega);rcases k12 with rfl | rfl
  all_goals
   go_enter Tryz.func58,Tryz.ntmps58;go_wp2_with fail;refine HTH.out.mono ?_;rintro e w1 ⟨rfl,rfl⟩;go_wp2_with fail;go_loopw [27] (fun u wr=>∃ q:Nat,q≤m∧u=.int .i64 q∧a5 w H.pa H.g wr (mFields q s.A (i+1))) (fun u _=>m-(intOf u).toNat)
   case atStart=>exact ⟨0,Nat.zero_le _,rfl,a5.refl HJ.out.ha (ab.refl _ _)⟩
   case round=>
    obtain ⟨q,hq,rfl,t⟩:=hrel;have T:=Hz t;clear t;by_cases hlt:q<m
    ·have JR:=Hz (HJ.out.bZ T.out);have hiq:IntKind.i64.wrap (i+1+q)=i+1+q:=IntWalk.i64_in _ (by omega);go_wp2_with fail;refine (mD (i+1+q) JR.out).mono ?_;rintro e w2 ⟨rfl,t⟩;have T2:=Hz (T.out.trans t);clear t;go_wp2_with fail;go_roundw
     case rel=>exact ⟨q+1,hlt,by go_num,by rw [nM];exact T2.out⟩
     case measure=>simp [intOf];omega
    ·obtain rfl:q=m:=by omega
     go_wp2_with fail;go_ret;refine ⟨cM (by rw [HT.out]),?_⟩;rw [HL.out,←HE.out];exact HJ.out.iR (by simpa using T.out)
 ·have k1:(k == 1)=false:=by simp;omega
  have k2:(k == 2)=false:=by simp;omega
  rw [if_neg k12] at hLe;clear k12;obtain ⟨i0,hi,hz0,hz1,hz2⟩:=info_parts xy;have Hi:=Hz hi;have Hz0:=Hz hz0;have Hz1:=Hz hz1;have Hz2:=Hz hz2;clear hi hz0 hz1 hz2;by_cases k3:k=3
  ·subst k3;rw [if_pos rfl] at hLe;have HE:=Hz hLe;clear hLe;have hi2:IntKind.i64.wrap (i+2)=i+2:=IntWalk.i64_in _ (by omega);obtain ⟨wo,wc,rfl,-,-,-⟩:=HJ.out.hw.rd;go_enter Tryz.func58,Tryz.ntmps58;go_wp2_with fail;refine HTH.out.mono ?_;rintro e w1 ⟨rfl,rfl⟩;go_wp2_with (at_builtin;refine bN rfl (.tmp 43) (.tmp 45) 83 rfl 3 i0 (.int .i64 0) 1 8 Tryz.underlying83 Hi.out Hz0.out Hz1.out Hz2.out rfl (by decide) _ s.wk.length (s.wk.map (Value.int .i64)) rfl ?ha ⟨w.heap.size,0,none⟩ 1 1 [.int .i64 i] rfl rfl ?hb ?hc ?hd ?he ?hf)
   case ha=>exact HJ.out.hw.ae ((Kz w).alloc _) (fun _ _ h=>h)
   case hb=>exact bW w 3 _
   case hc=>intro u hu;simp at hu;subst hu;rfl
   case hd=>unfold maxLen;omega
   case he=>omega
   case hf=>
    intro v2 w2 hs2 hk2 ho2;obtain ⟨ao2,cap2,rfl,-,-,-⟩:=hs2.rd;have T2:=Hz (HJ.out.CC ((Kz w).alloc (.cells #[.int .i64 i] 3)) hs2 hk2 (by simpa using ho2));have K2:=Hz (((Kz w).alloc (.cells #[.int .i64 i] 3)).ak HJ.out.hc (fun h=>h));have K3:=Hz (hk2.ak K2.out (fun hv=>by
     obtain ⟨_,l,h⟩:=(HJ.out.hw.ae ((Kz w).alloc (.cells #[.int .i64 i] 3)) (fun _ _ h=>h)).own hv
     exact K2.out.ne h (by decide) rfl))
    clear hs2 hk2 ho2 K2;have x0:=K3.out.cell 3;have xl:=K3.out.lt;have xf:=K3.out.free 3;simp only [Lz,Ls] at x0;clear c0 c3 c4 p0 pl cl;go_wp2_with fail;obtain ⟨wv3,ev3,J3,k3,o3⟩:=T2.out;have J3':=Hz J3;have K4:=Hz k3;have O3:=Hz o3;clear J3 k3 o3;refine (mD (i+2) J3'.out).mono ?_;rintro e w4 ⟨rfl,t⟩;have T4:=Hz t;clear t x0 xl xf;go_wp2_with fail;go_ret;refine ⟨cM (by rw [HT.out]),?_⟩;rw [HL.out,←HE.out];exact gK.join K4.out O3.out (J3'.out.iR T4.out)
  ·have k3':(k == 3)=false:=by simpa using k3
   rw [if_neg k3] at hLe;clear k3;by_cases k4:k=4
   ·subst k4;rw [if_pos rfl] at hLe;have HE:=Hz hLe;clear hLe;obtain ⟨eo,ec,rfl,-,-,-⟩:=HJ.out.he.rd;go_enter Tryz.func58,Tryz.ntmps58;go_wp2_with fail;refine HTH.out.mono ?_;rintro e w1 ⟨rfl,rfl⟩;go_wp2_with (at_builtin;refine bN rfl (.tmp 59) (.tmp 61) 83 rfl 3 i0 (.int .i64 0) 1 8 Tryz.underlying83 Hi.out Hz0.out Hz1.out Hz2.out rfl (by decide) _ s.ep.length (s.ep.map (Value.int .i64)) rfl ?ha ⟨w.heap.size,0,none⟩ 1 1 [.int .i64 i] rfl rfl ?hb ?hc ?hd ?he ?hf)
    case ha=>exact HJ.out.he.ae ((Kz w).alloc _) (fun _ _ h=>h)
    case hb=>exact bW w 3 _
    case hc=>intro u hu;simp at hu;subst hu;rfl
    case hd=>unfold maxLen;omega
    case he=>omega
    case hf=>
     intro v2 w2 hs2 hk2 ho2;obtain ⟨ao2,cap2,rfl,-,-,-⟩:=hs2.rd;have T2:=Hz (HJ.out.yN ((Kz w).alloc (.cells #[.int .i64 i] 3)) hs2 hk2 (by simpa using ho2));have K2:=Hz (((Kz w).alloc (.cells #[.int .i64 i] 3)).ak HJ.out.hc (fun h=>h));have K3:=Hz (hk2.ak K2.out (fun hv=>by
      obtain ⟨_,l,h⟩:=(HJ.out.he.ae ((Kz w).alloc (.cells #[.int .i64 i] 3)) (fun _ _ h=>h)).own hv
      exact K2.out.ne h (by decide) rfl))
     clear hs2 hk2 ho2 K2;have x0:=K3.out.cell 4;have xl:=K3.out.lt;have xf:=K3.out.free 4;simp only [Lz,Ls] at x0;clear c0 c3 c4 p0 pl cl;go_wp2_with fail;go_ret;refine ⟨cM (by rw [HT.out]),?_⟩;rw [HL.out,←HE.out];exact T2.out
   ·have k4':(k == 4)=false:=by simpa using k4
    rw [if_neg k4] at hLe;have HE:=Hz hLe;clear hLe k4;go_enter Tryz.func58,Tryz.ntmps58;go_wp2_with fail;refine HTH.out.mono ?_;rintro e w1 ⟨rfl,rfl⟩;go_wp2_with fail;go_ret;refine ⟨cM (by rw [HT.out]),?_⟩;rw [HL.out,←HE.out];exact gK.refl HJ.out
theorem qn (J:cE w H wv ev s c) (hb:H.base=s.A.nur) :
  Calls Tryz.prog 55 #[.pointer (some ⟨H.pc,0,none⟩)] w fun e w'=>e=.returned (.int .i64 s.A.grn)∧ab (fun _=>False) w w':=by
 have HJ:=Hz J;clear J;obtain ⟨c0,c1,-,-,-,p0,-,-,-⟩:=HJ.out.cells;have pl:=HJ.out.hp.lt;have cl:=HJ.out.hc.lt;rw [hb] at c1;have o2:=HJ.out.ha.ok.h2;have o3:=HJ.out.ha.ok.h3;have o4:=HJ.out.ha.ok.h4;have HB:=Hz hb;clear hb;go_enter Tryz.func55,Tryz.ntmps55;go_wp2_with fail;refine (lH w HJ.out.ha).mono ?_;rintro e w1 ⟨rfl,hk⟩;have J1:=Hz (HJ.out.same hk);have K1:=Hz hk;clear c0 c1 p0 pl cl hk;obtain ⟨c0,c1,-,-,-,p0,-,-,-⟩:=J1.out.cells;rw [HB.out] at c1;have cl:=J1.out.hc.lt;have hs:IntKind.i64.wrap ((s.A.nur:Int)+((s.A.grn-s.A.nur:Nat):Int))=s.A.grn:=by
  rw [IntWalk.i64_in _ (by omega)];omega
 go_wp2_with fail;go_ret;exact ⟨by first | rfl | exact cM (by omega),K1.out⟩
end
end
section
open Go.RowKit
structure CS (w:World) (H:CH) (wv ev rv qv:Value) (rg:List (Int × Int)) (d:Md):Prop where
 J:cE w H wv ev d.s d.c
 S:bu w H.ps rv qv rg d.q
 ok:fZ d.s d.c
 q:jQ d.q
 nb:H.base=d.s.A.nur
 ql:d.q.length≤1000000
def gb (w:World) (H:CH) (wv ev rv qv:Value) (rg:List (Int × Int)) (d:Md) (w':World):Prop:=
 ∃ wv' ev',CS w' H wv' ev' rv qv rg d∧ab (fun k=>H.Own wv ev k∨a7 H.ps rv qv k) w w'∧∀ k,H.Own wv' ev' k→H.Own wv ev k∨w.heap.size≤k
def qp (w:World) (b i:Nat):Int:=match w.cell? ⟨b,i,none⟩ with | some (.int _ n)=>n | _=>0
theorem mE {w:World} {b i:Nat} {k:IntKind} {n:Int} (h:w.cell? ⟨b,i,none⟩=some (.int k n)):qp w b i=n:=by unfold qp;rw [h]
section
variable {w w':World} {H:CH} {wv ev rv qv:Value} {rg:List (Int × Int)} {d:Md} {s:Ms} {c:Int}
theorem cE.cK {wt:List (Int × Int)} (J:cE w H wv ev s c) (S:bu w H.ps rv qv rg wt) {k:Nat} (hk:H.Own wv ev k):¬ a7 H.ps rv qv k:=fun hs=>by
 obtain ⟨_,T,h,hT⟩:=J.bB hk;obtain ⟨_,U,h',hU⟩:=S.cG hs;refine h.ne h' ?_ rfl;rcases hT with rfl | rfl | rfl | rfl | rfl <;> rcases hU with rfl | rfl <;> decide
theorem CS.ae {S:Nat→Prop} (C:CS w H wv ev rv qv rg d) (k:ab S w w') (h1:∀ b,H.Own wv ev b→¬ S b) (h2:∀ b,a7 H.ps rv qv b→¬ S b):CS w' H wv ev rv qv rg d:=
 ⟨C.J.ae k h1,C.S.ae k h2,C.ok,C.q,C.nb,C.ql⟩
theorem CS.same (C:CS w H wv ev rv qv rg d) (k:ab (fun _=>False) w w'):CS w' H wv ev rv qv rg d:=C.ae k (fun _ _ h=>h) (fun _ _ h=>h)
theorem gb.refl (C:CS w H wv ev rv qv rg d) (k:ab (fun _=>False) w w'):gb w H wv ev rv qv rg d w':=⟨wv,ev,C.same k,k.mono (fun _ _ h=>h.elim),fun _ h=>.inl h⟩
theorem gb.join {w1:World} {wv1 ev1:Value} (k1:ab (fun k=>H.Own wv ev k∨a7 H.ps rv qv k) w w1) (o1:∀ k,H.Own wv1 ev1 k→H.Own wv ev k∨w.heap.size≤k) (t:gb w1 H wv1 ev1 rv qv rg d w'):gb w H wv ev rv qv rg d w':=by
 obtain ⟨a2,b2,J2,k2,o2⟩:=t;refine ⟨a2,b2,J2,k1.then k2 (fun k hk=>?_),fun k hk=>?_⟩
 ·rcases hk with hk | hk
  ·exact (o1 k hk).imp .inl id
  ·exact .inl (.inr hk)
 ·rcases o2 k hk with h | h
  ·exact o1 k h
  ·exact .inr (Nat.le_trans k1.size h)
theorem CS.cut (C:CS w H wv ev rv qv rg d) (t:gK w H wv ev s c w') (h:fZ s c) (hn:s.A.nur=d.s.A.nur):gb w H wv ev rv qv rg ⟨s,c,d.q⟩ w':=by
 obtain ⟨a,b,J,k,o⟩:=t;exact ⟨a,b,⟨J,C.S.ae k (fun b hb hk=>C.J.cK C.S hk hb),h,C.q,by rw [hn];exact C.nb,C.ql⟩,k.mono (fun _ _ h=>.inl h),o⟩
theorem cE.Bh (J:cE w H wv ev s c) (c2:Int):gK w H wv ev s c2 (w.setCell ⟨H.pc,2,none⟩ (.int .i64 c2)):=by
 have set:=(ab.refl (·=H.pc) w).setCell (p:=⟨H.pc,2,none⟩) (.inl rfl) (.int .i64 c2);have ne:∀ {b:Nat} {l:List Value} {T:TypeId},ah w b l T→T≠104→¬ b=H.pc:=fun hb hT=>hb.ne J.hc hT;exact ⟨wv,ev,⟨set.ak J.hp (ne J.hp (by decide)),J.ha.ae set (ne J.ha.hp (by decide)) (ne J.ha.hg (by decide)),by simpa using J.hc.aO 2 (.int .i64 c2),J.hw.ae set (fun b hb=>by obtain ⟨_,l,h⟩:=J.hw.own hb;exact ne h (by decide)),
  J.he.ae set (fun b hb=>by obtain ⟨_,l,h⟩:=J.he.own hb;exact ne h (by decide)),J.ap⟩,set.mono (fun k _ hk=>.inr (.inr (.inr (.inl hk)))),fun k hk=>.inl hk⟩
def rS (pc:Nat):Value:=.agg #[.func (.func 119) #[.pointer (some ⟨pc,0,none⟩)] #[], .func (.func 56) #[.pointer (some ⟨pc,0,none⟩)] #[], .func (.func 121) #[.pointer (some ⟨pc,0,none⟩)] #[]]
theorem rG (J:cE w H wv ev s c) :
  Calls Tryz.prog 125 #[.pointer (some ⟨H.pc,0,none⟩)] w fun e w'=>e=.returned (rS H.pc)∧ab (fun _=>False) w w':=by
 have cl:=J.hc.lt;clear J;go_enter Tryz.func125,Tryz.ntmps125;go_wp2_with fail;go_wp2_with fail;refine bodyPost_ret (v:=rS H.pc) (by simp [rS,results,Tryz.results125,go_sem]) rfl ⟨rfl,?_⟩;exact (ab.refl _ _).alloc _
def Bi (H:CH) (wv ev:Value) (wk ep:List Int) (c:Int):eu Tryz.prog H.ps Ar where
 J:=fun w A F=>cE w H wv ev ⟨A,wk,ep⟩ c∧F=H.Own wv ev
 D:=fun _ x=>br x
 DK:=fun _ x=>br x
 alive:=a9
 ae:=fun A q x=>((iW A x).1,q,(iW A x).2)
 now:=cR
 fa:=119
 fk:=56
 fn:=121
 a1:=#[.pointer (some ⟨H.pc,0,none⟩)]
 a2:=#[]
 k1:=#[.pointer (some ⟨H.pc,0,none⟩)]
 k2:=#[]
 n1:=#[.pointer (some ⟨H.pc,0,none⟩)]
 n2:=#[]
 ea:=fun args w=>by kernel_rfl
 ek:=fun args w=>by kernel_rfl
 en:=fun args w=>by kernel_rfl
 J_keep:=fun h k hn=>⟨h.1.ae k (by rw [←h.2];exact hn),h.2⟩
 J_lt:=fun h hk=>h.1.bU (by rw [←h.2];exact hk)
 dG:=fun w t F x hJ _=>(iM x hJ.1).mono (by rintro e w' ⟨rfl,rfl⟩;exact ⟨rfl,ab.refl _ _⟩)
 now_c:=fun w t F x hJ _=>(nL x hJ.1).mono (by rintro e w' ⟨rfl,rfl⟩;exact ⟨rfl,ab.refl _ _⟩)
 keep_c:=fun w t F rv qv av wait x hJ hS hA hx _ _=>by
  obtain ⟨hJ,rfl⟩:=hJ;refine (mC x hJ).mono ?_;rintro e w' ⟨rfl,t⟩;obtain ⟨a,b,J2,k2,o2⟩:=hJ.iR t;exact ⟨rfl,H.Own wv ev,⟨hJ.bZ t,rfl⟩,hS.ae k2 (fun b hb hk=>hA b ⟨hk,hb⟩),hA,k2.mono (fun _ _ h=>.inl h),fun k hk=>.inl hk⟩
 DK_D:=fun h=>h
 DK_keep:=fun _ h=>h
 D_keep:=fun _ h=>h
 D_new:=fun h=>gR h
 D_wait:=fun _ h=>h
 keep_len:=rfl
def Ah (w:World) (H:CH) (wv ev rv qv:Value) (rg:List (Int × Int)) (d:Md) (m:Value) (wr:World):Prop:=
 (∃ (n:Nat) (d1:Md),m=.bool true∧gb w H wv ev rv qv rg d1 wr∧mDrain 2000 d=mDrain (n+1) d1∧1998≤n+d1.c∧(n=1999∨d1.c<d1.s.A.grn)) ∨
  (m=.bool false∧gb w H wv ev rv qv rg (mDrain 2000 d) wr)
def qW (H:CH) (m:Value) (wr:World):Nat:=(4000-qp wr H.pc 2-qp wr H.pa 3).toNat+match m with | .bool true=>1 | _=>0
theorem mF (C:CS w H wv ev rv qv rg d) (b:Bool):qW H (.bool b) w=(4000-d.c-d.s.A.grn).toNat+if b then 1 else 0:=by
 unfold qW;rw [mE C.J.cells.2.2.1,mE C.J.ha.cells.2.2.2];cases b <;> simp
def Ce (w:World) (H:CH) (wv ev rv qv:Value) (rg:List (Int × Int)) (d:Md) (wr:World):Prop:=
 ∃ (n:Nat) (s:Ms) (c:Int),gb w H wv ev rv qv rg ⟨s,c,d.q⟩ wr∧mScan 2000 d.s d.c=mScan n s c∧1300≤n+c
theorem tq (C:CS w H wv ev rv qv rg d) :
  Calls Tryz.prog 59 #[.pointer (some ⟨H.pc,0,none⟩)] w fun e w'=>e=.returned (.tuple #[])∧gb w H wv ev rv qv rg (mDrain 2000 d) w':=by
 have HC:=Hz C;clear C;go_enter Tryz.func59,Tryz.ntmps59;go_wp2_with fail;go_loopw [2] (fun m wr=>Ah w H wv ev rv qv rg d m wr) (fun m wr=>qW H m wr)
 case atStart=>exact .inl ⟨1999,d,rfl,gb.refl HC.out (ab.refl _ _),rfl,by have:=HC.out.ok.c0;omega, .inl rfl⟩
 case round=>
  rcases hrel with ⟨n,d1,rfl,ht,he,hn,hg⟩ | ⟨rfl,ht⟩
  ·obtain ⟨wv1,ev1,C1,k1,o1⟩:=ht;have HMU:=Hz (mF C1 true);have HC1:=Hz C1;have K1:=Hz k1;have O1:=Hz o1;have HE:=Hz he;have HN:=Hz hn;have HGR:=Hz hg;clear C1 k1 o1 he hn hg;obtain ⟨w1,rfl⟩:∃ x:World,x=wr:=⟨wr,rfl⟩;go_wp2_with fail;go_loopw [12] (fun _ wr=>Ce w1 H wv1 ev1 rv qv rg d1 wr) (fun _ wr=>(3000-qp wr H.pc 2).toNat)
   case atStart=>exact ⟨2000,d1.s,d1.c,gb.refl HC1.out (ab.refl _ _),rfl,by have:=HC1.out.ok.c0;omega⟩
   case round=>
    obtain ⟨m,s2,c2,⟨wv2,ev2,C2,k2,o2⟩,he2,hm2⟩:=hrel;have HC2:=Hz C2;have K2:=Hz k2;have O2:=Hz o2;have HE2:=Hz he2;have HM2:=Hz hm2;have q2:=C2.J.cells.2.2.1;have HQ:=Hz (mE q2);have cl:=C2.J.hc.lt;have b0:=C2.ok.c0;have b1:=C2.ok.c1;have g3:=C2.ok.ok.h3;have g4:=C2.ok.ok.h4;dsimp only at q2 b0 b1 g3 g4 HQ;clear C2 k2 o2 he2 hm2;by_cases hlt:c2<s2.A.grn
    ·have hd:decide (c2<(s2.A.grn:Int))=true:=by simpa using hlt
     have HLT:=Hz hlt;have hf:=s2.A.aU c2;have hsum:IntKind.i64.wrap (c2+(1+(s2.A.aj c2).2.1))=c2+(1+(s2.A.aj c2).2.1):=IntWalk.i64_in _ (by omega);have HF:=Hz hf;clear hlt hf;go_wp2_with fail;refine ay (.free 0 (.free 1 (.free 2 (.free 4 (.pure 3 (.run 5 (.free 6 (.fin)))))))) [] (fun w'=>w'.cell? ⟨H.pc,2,none⟩=some (.int .i64 c2)) (by kernel_rfl) (by kernel_rfl) q2 ?_
     iterate 5 ((first | refine au rfl rfl fun K hK=>?_ | refine aq rfl rfl fun K hK=>?_ | refine aF rfl rfl fun K hK=>?_ | refine az rfl rfl fun K hK=>?_ | refine aE rfl rfl fun K hK=>?_);go_simp;refine hK _ ?_;clear hK K)
     refine aM rfl rfl (fun K hK=>?_);unfold aC;go_simp;refine (qn (HC2.out.same ((Kz wr).drew)).J HC2.out.nb).mono ?_;rintro e w3 ⟨rfl,hk⟩;have HC3:=Hz (HC2.out.same ((Kz wr).drew.trans hk));have K3:=Hz (K2.out.trans (((Kz wr).drew.trans hk).mono (fun _ _ h=>h.elim)));refine hK _ _ (fun _=>HC3.out.J.cells.2.2.1) ?_;clear hK K hk q2 cl
     iterate 1 ((first | refine au rfl rfl fun K hK=>?_ | refine aq rfl rfl fun K hK=>?_);go_simp;refine hK _ ?_;clear hK K)
     refine aB ?_;have q2:=HC3.out.J.cells.2.2.1;have cl:=HC3.out.J.hc.lt;dsimp only at q2;go_wp2_with fail;refine ay (.free 0 (.free 1 (.free 2 (.free 4 (.free 5 (.free 6 (.free 7 (.pure 3 (.pure 8 (.run 9 (.free 10 (.free 11 (.free 12 (.run 13 (.swi [] (.fin)))))))))))))))) [13] (fun w'=>w'.cell? ⟨H.pc,2,none⟩=some (.int .i64 c2)) (by kernel_rfl) (by kernel_rfl) q2 ?_
     iterate 9 ((first | refine au rfl rfl fun K hK=>?_ | refine aq rfl rfl fun K hK=>?_ | refine aF rfl rfl fun K hK=>?_ | refine az rfl rfl fun K hK=>?_ | refine aE rfl rfl fun K hK=>?_);go_simp;refine hK _ ?_;clear hK K)
     refine aM rfl rfl (fun K hK=>?_);unfold aC;go_simp;have HC4:=Hz (HC3.out.same ((Kz w3).drew));have K4:=Hz (K3.out.trans ((Kz w3).drew.mono (fun _ _ h=>h.elim)));refine (uO c2 HC4.out.J b0 b1 (by have:=HC4.out.ok.ms.len;dsimp only at this ⊢;omega)).mono ?_;rintro e w5 ⟨rfl,t⟩;obtain ⟨wv5,ev5,J5,k5,o5⟩:=t;have HJ5:=Hz J5;have K5:=Hz k5;have O5:=Hz o5;refine hK _ _ (fun _=>J5.cells.2.2.1) ?_;clear hK K J5 k5 o5 q2 cl;have q2:=HJ5.out.cells.2.2.1;have cl:=HJ5.out.hc.lt;have fz:=HJ5.out.hc.free 2
     iterate 3 ((first | refine au rfl rfl fun K hK=>?_ | refine aq rfl rfl fun K hK=>?_);go_simp;refine hK _ ?_;clear hK K)
     refine aJ rfl rfl rfl (fun K hK=>?_);unfold aC;go_simp;refine hK _ _ ?_;clear hK K;refine aH (fun _=>True) trivial (aB ?_);clear q2 cl fz;have T6:=Hz (gK.join K5.out O5.out (HJ5.out.Bh (c2+(1+(s2.A.aj c2).2.1))));have T7:=Hz (gb.join K4.out O2.out (HC4.out.cut T6.out (HC4.out.ok.look HLT.out) (Sm.look HC4.out.ok.ok c2).nur));obtain ⟨wv7,ev7,C7,-,-⟩:=T7.out;have HC7:=Hz (mE C7.J.cells.2.2.1);clear C7;go_wp2_with fail;go_roundw
     case rel=>
      refine ⟨m-1,_,_,T7.out,?_,?_⟩
      ·rw [HE2.out];obtain ⟨m,rfl⟩:∃ k,m=k+1:=⟨m-1,by have:=HM2.out;have:=HLT.out;omega⟩;exact qm m HLT.out
      ·have:=HM2.out;have:=HF.out;have:=HLT.out;omega
     case measure=>
      have h1:=HQ.out;have h2:=HC7.out;have h3:=HF.out
      try dsimp only at h2
      rw [h1,h2];omega
    ·have hstop:=qk m hlt;have hd:decide (c2<(s2.A.grn:Int))=false:=by simpa using hlt
     have HSC:=Hz (HE2.out.trans hstop);have HLT:=Hz hlt;clear hlt hstop HQ HE2 HM2;go_wp2_with fail;refine ay (.free 0 (.free 1 (.free 2 (.free 4 (.pure 3 (.run 5 (.free 6 (.fin)))))))) [] (fun w'=>w'.cell? ⟨H.pc,2,none⟩=some (.int .i64 c2)) (by kernel_rfl) (by kernel_rfl) q2 ?_
     iterate 5 ((first | refine au rfl rfl fun K hK=>?_ | refine aq rfl rfl fun K hK=>?_ | refine aF rfl rfl fun K hK=>?_ | refine az rfl rfl fun K hK=>?_ | refine aE rfl rfl fun K hK=>?_);go_simp;refine hK _ ?_;clear hK K)
     refine aM rfl rfl (fun K hK=>?_);unfold aC;go_simp;refine (qn (HC2.out.same ((Kz wr).drew)).J HC2.out.nb).mono ?_;rintro e w3 ⟨rfl,hk⟩;have HC3:=Hz (HC2.out.same ((Kz wr).drew.trans hk));have K3:=Hz (K2.out.trans (((Kz wr).drew.trans hk).mono (fun _ _ h=>h.elim)));refine hK _ _ (fun _=>HC3.out.J.cells.2.2.1) ?_;clear hK K hk q2 cl
     iterate 1 ((first | refine au rfl rfl fun K hK=>?_ | refine aq rfl rfl fun K hK=>?_);go_simp;refine hK _ ?_;clear hK K)
     refine aB ?_;clear HC2 K2;obtain ⟨eo,ec,hev,-,-,-⟩:=HC3.out.J.he.rd;dsimp only at hev;subst hev;have q4:=HC3.out.J.cells.2.2.2.2.1;have cl:=HC3.out.J.hc.lt
     try dsimp only at q4
     have heb:=HC3.out.ok.ms.eb;have hel:=HC3.out.ok.ms.len
     try dsimp only at heb hel
     have HEB:=Hz heb;clear heb;go_wp2_with fail;go_loopw [31] (fun u wr=>∃ k:Nat,k≤s2.ep.length∧u=.int .i64 k∧a5 w3 H.pa H.g wr (fX s2.A (s2.ep.take k))) (fun u _=>s2.ep.length-(intOf u).toNat)
     case atStart=>exact ⟨0,Nat.zero_le _,rfl,a5.refl HC3.out.J.ha (ab.refl _ _)⟩
     case round=>
      clear q4 cl;obtain ⟨k,hk,rfl,t⟩:=hrel;have T:=Hz t;have JR:=Hz (HC3.out.J.bZ t);clear t;by_cases hlt:k<s2.ep.length
      ·obtain ⟨_,_,e',rd,-,-⟩:=JR.out.he.rd;cases e';obtain ⟨ge,oe,rfl,d0⟩:=rd.int k hlt;have hgl:=(JR.out.he.own rfl).1;have hin:=HEB.out (s2.ep.getD k 0) (by rw [Ld,Le hlt];exact List.getElem_mem hlt);have HTK:=Hz (show fX s2.A (s2.ep.take (k+1))=jE (fX s2.A (s2.ep.take k)) (s2.ep.getD k 0) by
        unfold fX
        rw [←List.take_append_getElem hlt,List.foldl_append,Ld,Le hlt];rfl)
       generalize s2.ep.getD k 0=i at *;generalize fX s2.A (s2.ep.take k)=B at *;have hi1:IntKind.i64.wrap (i+1)=i+1:=IntWalk.i64_in _ (by omega);have hi2:IntKind.i64.wrap (i+2)=i+2:=IntWalk.i64_in _ (by omega);have c0:=JR.out.cells.1;have p0:=JR.out.cells.2.2.2.2.2.1;have pl:=JR.out.hp.lt;have cl:=JR.out.hc.lt;clear rd;go_wp2_with fail;refine (eD (i+1) _ JR.out.ha).mono ?_;rintro e w4 ⟨rfl,rfl⟩;go_wp2_with fail;refine (iM (B.load (i+1)) JR.out).mono ?_;rintro e w4 ⟨rfl,rfl⟩;clear c0 p0 pl cl d0;cases hal:a9 B (B.load (i+1))
       ·have HAL:=Hz hal;clear hal;go_wp2_with fail;go_roundw
        case rel=>exact ⟨k+1,hlt,by go_num,by rw [HTK.out,jE,if_neg (by rw [HAL.out];decide)];exact T.out⟩
        case measure=>simp [intOf];omega
       ·have HAL:=Hz hal;clear hal;go_wp2_with fail;refine (mD (i+1) JR.out).mono ?_;rintro e w4 ⟨rfl,t⟩;have T4:=Hz t;have J4:=Hz (JR.out.bZ t);clear t;go_wp2_with fail;refine (mD (i+2) J4.out).mono ?_;rintro e w5 ⟨rfl,t⟩;have T5:=Hz (T.out.trans (T4.out.trans t));clear t;go_wp2_with fail;go_roundw
        case rel=>exact ⟨k+1,hlt,by go_num,by rw [HTK.out,jE,if_pos HAL.out];exact T5.out⟩
        case measure=>simp [intOf];omega
      ·obtain rfl:k=s2.ep.length:=by omega
       rw [List.take_length] at T JR;have hsm:=Sm.p8 s2.ep HC3.out.ok.ok;have C4:=Hz (show CS wr H wv2 (.slice eo s2.ep.length ec) rv qv rg ⟨{ s2 with A:=fX s2.A s2.ep },c2,d1.q⟩ from by
        obtain ⟨a,b,J4,k4,o4⟩:=HC3.out.J.iR T.out
        exact ⟨JR.out,HC3.out.S.ae k4 (fun b hb hk=>HC3.out.J.cK HC3.out.S hk hb),HC3.out.ok.bZ hsm.ok,HC3.out.q,by rw [HC3.out.nb];exact congrArg (fun x:Nat=>(x:Int)) hsm.nur.symm,HC3.out.ql⟩)
       have KA:=Hz (show ab (H.Own wv2 (.slice eo s2.ep.length ec)) w3 wr from T.out.k.mono (fun k _ hk=>hk.elim (fun h=>.inr (.inl h)) (fun h=>.inr (.inr (.inl h)))));clear T JR hsm;generalize hA2:fX s2.A s2.ep=A2 at C4;have HA2:=Hz hA2;clear hA2;have c0:=C4.out.J.cells.1;have p2:=C4.out.J.cells.2.2.2.2.2.2.2.1;have pl:=C4.out.J.hp.lt;have cl:=C4.out.J.hc.lt;go_wp2_with fail;refine ay (.free 0 (.free 1 (.free 2 (.free 7 (.pure 3 (.free 4 (.free 5 (.pure 6 (.run 8 (.run 9 (.swi [] (.fin)))))))))))) [9] (fun w'=>w'.cell? ⟨H.pc,0,none⟩=some (.pointer (some ⟨H.p,0,none⟩))∧w'.cell? ⟨H.p,2,none⟩=some (.pointer (some ⟨H.ps,0,none⟩))) (by kernel_rfl) (by kernel_rfl) ⟨c0,p2⟩ ?_
       iterate 8 ((first | refine au rfl rfl fun K hK=>?_ | refine aq rfl rfl fun K hK=>?_ | refine aF rfl rfl fun K hK=>?_ | refine az rfl rfl fun K hK=>?_ | refine aE rfl rfl fun K hK=>?_);go_simp;refine hK _ ?_;clear hK K)
       refine aM rfl rfl (fun K hK=>?_);unfold aC;go_simp;refine (rG (C4.out.J.same ((Kz wr).drew))).mono ?_;rintro e w4 ⟨rfl,hk⟩;have C5:=Hz (C4.out.same ((Kz wr).drew.trans hk));have K5:=Hz ((Kz wr).drew.trans hk);refine hK _ _ (fun _=>⟨C5.out.J.cells.1,C5.out.J.cells.2.2.2.2.2.2.2.1⟩) ?_;clear hK K hk c0 p2 pl cl C4
       skip
       refine aJ rfl rfl rfl (fun K hK=>?_);unfold aC;go_simp;refine (Bf H.ps (Bi H wv2 (.slice eo s2.ep.length ec) s2.wk s2.ep c2) iW (fun _ _ _=>rfl) A2 (H.Own wv2 (.slice eo s2.ep.length ec)) rv qv rg d1.q w4 (fun _ _ h _=>h) ⟨C5.out.J,rfl⟩ C5.out.S (fun k hk=>C5.out.J.cK C5.out.S hk.1 hk.2) C5.out.ql (fun e he=>C5.out.q e he)).mono ?_;rintro e w6 ⟨rfl,F6,hJ6,hS6,-,hk6,-,-⟩;refine hK _ _ ?_;clear hK K;refine aH (fun _=>True) trivial (aB ?_);obtain ⟨⟨A3,q3,b3⟩,hW⟩:∃ t,wakeM a9 iW A2 d1.q=t:=⟨_,rfl⟩;have hsw:=Sm.eL d1.q C5.out.ok.ok;have hqw:=jQ.eL d1.q (A:=A2) C5.out.q;have hlw:=lg a9 iW d1.q A2;dsimp only at hsw hqw hlw;replace hJ6:cE w6 H wv2 (.slice eo s2.ep.length ec) ⟨(wakeM a9 iW A2 d1.q).1,s2.wk,s2.ep⟩ c2:=hJ6.1;replace hS6:bu w6 H.ps rv qv rg (wakeM a9 iW A2 d1.q).2.1:=hS6;replace hk6:ab (fun b=>H.Own wv2 (.slice eo s2.ep.length ec) b∨a7 H.ps rv qv b) w4 w6:=hk6;rw [hW] at hsw hqw hlw hJ6 hS6;dsimp only at hsw hqw hlw hJ6 hS6;have HRD:=Hz (xx HSC.out HA2.out hW);have C6:=Hz (show CS w6 H wv2 (.slice eo s2.ep.length ec) rv qv rg (bG d1) by
        rw [HRD.out]
        exact ⟨hJ6,hS6,C5.out.ok.bZ hsw.ok,hqw,by rw [hsw.nur];exact C5.out.nb,by dsimp only;rw [hlw];exact C5.out.ql⟩)
       have T6:=Hz (show gb w H wv ev rv qv rg (bG d1) w6 from gb.join K1.out O1.out ⟨wv2,_,C6.out,by
        have k1:ab (fun k=>H.Own wv1 ev1 k∨a7 H.ps rv qv k) w1 w3:=K3.out;have k2:ab (fun k=>H.Own wv2 (.slice eo s2.ep.length ec) k∨a7 H.ps rv qv k) w3 w6:=((KA.out.mono (fun _ _ h=>.inl h)).trans (K5.out.mono (fun _ _ h=>h.elim))).trans hk6;exact k1.then k2 (fun k hk=>by
         rcases hk with hk | hk
         ·exact (O2.out k hk).imp .inl id
         ·exact .inl (.inr hk)),O2.out⟩)
       have HG:=Hz (show (bG d1).s.A.grn=A3.grn∧(bG d1).c=c2 by rw [HRD.out];exact ⟨rfl,rfl⟩);clear hW hsw hqw hlw hJ6 hS6 hk6 C5 K5 KA HA2 HSC HRD hel;have q2:=C6.out.J.cells.2.2.1;have cl:=C6.out.J.hc.lt;rw [HG.out.2] at q2;go_wp2_with fail;refine ay (.free 0 (.free 1 (.free 2 (.free 4 (.pure 3 (.run 5 (.free 6 (.free 7 (.fin))))))))) [] (fun w'=>w'.cell? ⟨H.pc,2,none⟩=some (.int .i64 c2)) (by kernel_rfl) (by kernel_rfl) q2 ?_
       iterate 5 ((first | refine au rfl rfl fun K hK=>?_ | refine aq rfl rfl fun K hK=>?_ | refine aF rfl rfl fun K hK=>?_ | refine az rfl rfl fun K hK=>?_ | refine aE rfl rfl fun K hK=>?_);go_simp;refine hK _ ?_;clear hK K)
       refine aM rfl rfl (fun K hK=>?_);unfold aC;go_simp;refine (qn (C6.out.same ((Kz w6).drew)).J C6.out.nb).mono ?_;rintro e w7 ⟨rfl,hk⟩;have K7:=Hz ((Kz w6).drew.trans hk);have C7:=Hz (C6.out.same K7.out);refine hK _ _ (fun _=>by have:=C7.out.J.cells.2.2.1;rw [HG.out.2] at this;exact this) ?_;clear hK K hk q2 cl;rw [HG.out.1];have T7:=Hz (show gb w H wv ev rv qv rg (bG d1) w7 by
        obtain ⟨a,b,c,k,o⟩:=T6.out
        exact ⟨a,b,c.same K7.out,k.trans (K7.out.mono (fun _ _ h=>h.elim)),o⟩)
       have HRO:=Hz (fZ.round HC1.out.ok);have HSR:=Hz (Sm.round d1 HC1.out.ok.ok).grn;have HD1:=Hz (And.intro HC1.out.ok.c1 (And.intro HC1.out.ok.ok.h3 HC1.out.ok.ok.h4));have HD2:=Hz (And.intro C7.out.ok.c1 (And.intro C7.out.ok.ok.h3 C7.out.ok.ok.h4));by_cases hmore:c2<A3.grn
       ·have hd:decide (c2<(A3.grn:Int))=true:=by simpa using hmore
        have HM:=Hz (show (bG d1).c<(bG d1).s.A.grn by rw [HG.out.1,HG.out.2];exact hmore);have HMU7:=Hz (mF C7.out true);clear hmore
        iterate 2 ((first | refine au rfl rfl fun K hK=>?_ | refine aq rfl rfl fun K hK=>?_);go_simp;refine hK _ ?_;clear hK K)
        refine aB ?_;go_wp2_with fail;go_roundw
        case rel=>
         refine .inl ⟨n-1,bG d1,rfl,T7.out,?_,?_, .inr HM.out⟩
         ·rw [HE.out];obtain ⟨n,rfl⟩:∃ k,n=k+1:=⟨n-1,by have:=HN.out;have:=HD1.out;omega⟩;exact tY _ HM.out
         ·have h1:=HN.out;have h2:=HRO.out;have h3:=HGR.out;have h4:=HD1.out;rcases h3 with h3 | h3
          ·have:=h2.1.c0;omega
          ·have:=h2.2.2 h3;omega
        case measure=>
         have h1:=HMU.out;have h2:=HMU7.out;have h3:=HRO.out;have h4:=HSR.out;have h5:=HM.out;have h6:=HD1.out;have h7:=HD2.out;rw [h1,h2];have:=h3.2.1;by_cases hq:d1.c<d1.s.A.grn
         ·have:=h3.2.2 hq;simp only [if_true];omega
         ·simp only [if_true];omega
       ·have hd:decide (c2<(A3.grn:Int))=false:=by simpa using hmore
        have HM:=Hz (show ¬ (bG d1).c<(bG d1).s.A.grn by rw [HG.out.1,HG.out.2];exact hmore);have HMU7:=Hz (mF C7.out false);clear hmore
        iterate 2 ((first | refine au rfl rfl fun K hK=>?_ | refine aq rfl rfl fun K hK=>?_);go_simp;refine hK _ ?_;clear hK K)
        refine aB ?_;go_wp2_with fail;go_roundw
        case rel=>exact .inr ⟨rfl,by rw [HE.out,tZ _ HM.out];exact T7.out⟩
        case measure=>
         have h1:=HMU.out;have h2:=HMU7.out;have h3:=HRO.out;have h4:=HSR.out;have h6:=HD1.out;have h7:=HD2.out;rw [h1,h2];have:=h3.2.1;simp only [if_true,Bool.false_eq_true,if_false];omega
  ·have HT:=Hz ht;clear ht;go_wp2_with fail;go_end0;exact ⟨rfl,HT.out⟩
end
end
section
open Go.RowKit
section
variable {w w':World} {H:CH} {wv ev rv qv:Value} {rg:List (Int × Int)} {d:Md} {s:Ms} {c:Int}
abbrev mG (w:World) (b:Nat) (H:CH):Prop:=ah w b [.pointer (some ⟨H.pc,0,none⟩)] 102
def yO (w:World) (H:CH) (e:Ending) (w':World):Prop:=
 ∃ b,e=.returned (.agg #[.func (.func 119) #[.pointer (some ⟨H.pc,0,none⟩)] #[], .func (.func 126) #[] #[.pointer (some ⟨b,0,none⟩)], .func (.func 121) #[.pointer (some ⟨H.pc,0,none⟩)] #[]]) ∧
  mG w' b H∧ab (fun _=>False) w w'∧w.heap.size≤b
theorem yP (J:cE w H wv ev s c) :
  Calls Tryz.prog 61 #[.pointer (some ⟨H.pc,0,none⟩)] w (yO w H):=by
 have HJ:=Hz J;clear J;go_enter Tryz.func61,Tryz.ntmps61;go_wp2_with fail;generalize hwa:(w.alloc (.cells #[.pointer (some ⟨H.pc,0,none⟩)] 102)).alloc (.cells #[.nilFunc, .nilFunc, .nilFunc] 113)=wa;have HB:=Hz (show mG wa w.heap.size H by rw [←hwa];exact ah.alloc (ah.newAt _ rfl rfl) _);have HR:=Hz (show ah wa (w.heap.size+1) [.nilFunc, .nilFunc, .nilFunc] 113 by rw [←hwa];exact ah.newAt _ (by simp) rfl);have HK:=Hz (show ab (fun _=>False) w wa by rw [←hwa];exact ((ab.refl _ _).alloc _).alloc _);clear hwa;refine (rG (HJ.out.same HK.out)).mono ?_;rintro e w1 ⟨rfl,hk⟩;have HB1:=Hz (hk.ak HB.out (fun h=>h));have HR1:=Hz (hk.ak HR.out (fun h=>h));have HK1:=Hz (HK.out.trans hk);clear hk HB HR HK;unfold rS;have r0:=HR1.out.cell 0;have r1:=HR1.out.cell 1;have r2:=HR1.out.cell 2;have rl:=HR1.out.lt;have f0:=HR1.out.free 0;have f1:=HR1.out.free 1;have f2:=HR1.out.free 2;simp only [Lz,Ls] at r0 r1 r2;go_wp2_with fail;have c9:=(((HR1.out.aO 0 (.func (.func 119) #[.pointer (some ⟨H.pc,0,none⟩)] #[])).aO 1 (.func (.func 126) #[] #[.pointer (some ⟨w.heap.size,0,none⟩)])).aO 2 (.func (.func 121) #[.pointer (some ⟨H.pc,0,none⟩)] #[])).alloc (.cells #[.func (.func 119) #[.pointer (some ⟨H.pc,0,none⟩)] #[], .func (.func 126) #[] #[.pointer (some ⟨w.heap.size,0,none⟩)], .func (.func 121) #[.pointer (some ⟨H.pc,0,none⟩)] #[]] 113);have hk3:=((((ab.refl (·=w.heap.size+1) w1).setCell (p:=⟨w.heap.size+1,0,none⟩) (.inl rfl) (.func (.func 119) #[.pointer (some ⟨H.pc,0,none⟩)] #[])).setCell (p:=⟨w.heap.size+1,1,none⟩) (.inl rfl) (.func (.func 126) #[] #[.pointer (some ⟨w.heap.size,0,none⟩)])).setCell (p:=⟨w.heap.size+1,2,none⟩) (.inl rfl) (.func (.func 121) #[.pointer (some ⟨H.pc,0,none⟩)] #[])).alloc (.cells #[.func (.func 119) #[.pointer (some ⟨H.pc,0,none⟩)] #[], .func (.func 126) #[] #[.pointer (some ⟨w.heap.size,0,none⟩)], .func (.func 121) #[.pointer (some ⟨H.pc,0,none⟩)] #[]] 113);have l0:=c9.cell 0;have l1:=c9.cell 1;have l2:=c9.cell 2;simp only [Lz,Ls,List.set_cons_zero,List.set_cons_succ] at l0 l1 l2;refine bodyPost_ret (v:=.agg #[.func (.func 119) #[.pointer (some ⟨H.pc,0,none⟩)] #[], .func (.func 126) #[] #[.pointer (some ⟨w.heap.size,0,none⟩)], .func (.func 121) #[.pointer (some ⟨H.pc,0,none⟩)] #[]]) (by simp [results,Tryz.results61,go_sem,l0,l1,l2]) rfl ⟨w.heap.size,rfl,hk3.ak HB1.out (by omega),HK1.out.then hk3 (fun k hk=>.inr (by omega)),Nat.le_refl _⟩
theorem xz (x:Int) (b:Nat) (C:CS w H wv ev rv qv rg d) (hb:mG w b H) :
  Calls Tryz.prog 126 #[.int .i64 x, .pointer (some ⟨b,0,none⟩)] w fun e w'=>e=.returned (.int .i64 (cR (bF d.s.A x) x))∧gb w H wv ev rv qv rg (mDrain 2000 ⟨{ d.s with A:=bF d.s.A x },d.c,d.q⟩) w':=by
 have HC:=Hz C;have HB:=Hz hb;have b0:=hb.cell 0;have bl:=hb.lt;simp only [Lz] at b0;clear C hb;go_enter Tryz.func126,Tryz.ntmps126;go_wp2_with fail;refine (mC x HC.out.J).mono ?_;rintro e w1 ⟨rfl,t⟩;have hsm:=Sm.iC HC.out.ok.ok x;obtain ⟨a1,b1,J1,k1,o1⟩:=HC.out.J.iR t;have C1:=Hz (show CS w1 H wv ev rv qv rg ⟨{ d.s with A:=bF d.s.A x },d.c,d.q⟩ from
  ⟨HC.out.J.bZ t,HC.out.S.ae k1 (fun b hb hk=>HC.out.J.cK HC.out.S hk hb),HC.out.ok.bZ hsm.ok,HC.out.q,by rw [HC.out.nb];exact congrArg (fun x:Nat=>(x:Int)) hsm.nur.symm,HC.out.ql⟩)
 have K1:=Hz (show ab (H.Own wv ev) w w1 from k1);have HB1:=Hz (show mG w1 b H from k1.ak HB.out (fun h=>by
  obtain ⟨_,T,h',hT⟩:=HC.out.J.bB h;refine HB.out.ne h' ?_ rfl
  rcases hT with rfl | rfl | rfl | rfl | rfl <;> decide))
 clear b0 bl t hsm J1 k1 o1;have b0:=HB1.out.cell 0;have bl:=HB1.out.lt;simp only [Lz] at b0;go_wp2_with fail;refine (tq C1.out).mono ?_;rintro e w2 ⟨rfl,t⟩;have T2:=Hz (gb.join (K1.out.mono (fun _ _ h=>.inl h)) (fun k hk=>.inl hk) t);clear t b0 bl;go_wp2_with fail;go_ret;exact ⟨rfl,T2.out⟩
def px (H:CH) (b:Nat):eu Tryz.prog H.ps Mt where
 J:=fun w t F=>∃ wv ev,cE w H wv ev t.1 t.2∧fZ t.1 t.2∧H.base=t.1.A.nur∧mG w b H∧F=fun k=>H.Own wv ev k∨k=b
 D:=fun _ x=>br x
 DK:=fun _ x=>br x
 alive:=bS
 ae:=gu
 now:=eO
 fa:=119
 fk:=126
 fn:=121
 a1:=#[.pointer (some ⟨H.pc,0,none⟩)]
 a2:=#[]
 k1:=#[]
 k2:=#[.pointer (some ⟨b,0,none⟩)]
 n1:=#[.pointer (some ⟨H.pc,0,none⟩)]
 n2:=#[]
 ea:=fun args w=>by kernel_rfl
 ek:=fun args w=>by kernel_rfl
 en:=fun args w=>by kernel_rfl
 J_keep:=fun h k hn=>by
  obtain ⟨wv,ev,h1,h2,h3,h4,rfl⟩:=h;exact ⟨wv,ev,h1.ae k (fun b hb=>hn b (.inl hb)),h2,h3,k.ak h4 (hn _ (.inr rfl)),rfl⟩
 J_lt:=fun h hk=>by
  obtain ⟨wv,ev,h1,h2,h3,h4,rfl⟩:=h;rcases hk with hk | rfl
  ·exact h1.bU hk
  ·exact h4.lt
 dG:=fun w t F x hJ _=>by
  obtain ⟨wv,ev,h1,-⟩:=hJ;exact (iM x h1).mono (by rintro e w' ⟨rfl,rfl⟩;exact ⟨rfl,ab.refl _ _⟩)
 now_c:=fun w t F x hJ _=>by
  obtain ⟨wv,ev,h1,-⟩:=hJ;exact (nL x h1).mono (by rintro e w' ⟨rfl,rfl⟩;exact ⟨rfl,ab.refl _ _⟩)
 keep_c:=fun w t F rv qv av wait x hJ hS hA hx hq hl=>by
  obtain ⟨wv,ev,h1,h2,h3,h4,rfl⟩:=hJ;refine (xz (d:=⟨t.1,t.2,wait⟩) x b ⟨h1,hS,h2,fun e he=>hq e he,h3,hl⟩ h4).mono ?_;rintro e w' ⟨rfl,wv',ev',C',k',o'⟩;refine ⟨rfl,_,⟨wv',ev',C'.J,C'.ok,C'.nb,k'.ak h4 (fun h=>?_),rfl⟩,C'.S,fun k hk=>?_,k'.mono (fun k _ hk=>hk.elim (fun h=>.inl (.inl h)) .inr),fun k hk=>?_⟩
  ·rcases h with h | h
   ·obtain ⟨_,T,h',hT⟩:=h1.bB h;refine h4.ne h' ?_ rfl;rcases hT with rfl | rfl | rfl | rfl | rfl <;> decide
   ·exact hA b ⟨.inr rfl,h⟩
  ·rcases hk with ⟨hk | hk,hs⟩
   ·exact C'.J.cK C'.S hk hs
   ·exact hA k ⟨.inr hk,hs⟩
  ·rcases hk with hk | hk
   ·exact (o' k hk).imp .inl id
   ·exact .inl (.inr hk)
 DK_D:=fun h=>h
 DK_keep:=fun _ h=>h
 D_keep:=fun _ h=>h
 D_new:=fun h=>gR h
 D_wait:=fun {t wait x} _ h=>jQ.drain 2000 (d:=⟨{ t.1 with A:=bF t.1.A x },t.2,wait⟩) h
 keep_len:=mn _ _
theorem tr (i:Int) (q:Bool) (b:Nat) (J:cE w H wv ev s c) (hb:mG w b H) :
  Calls Tryz.prog 127 #[.int .i64 i, .bool q, .pointer (some ⟨b,0,none⟩)] w fun e w'=>e=.returned (.tuple #[])∧a5 w H.pa H.g w' (gC s.A i q):=by
 have HJ:=Hz J;have HB:=Hz hb;have b0:=hb.cell 0;have bl:=hb.lt;simp only [Lz] at b0;clear J hb;obtain ⟨c0,-,-,-,-,p0,-,-,-⟩:=HJ.out.cells;have pl:=HJ.out.hp.lt;have cl:=HJ.out.hc.lt;have HD:=Hz (HJ.out.same ((Kz w).drew));cases q
 ·go_enter Tryz.func127,Tryz.ntmps127;go_wp2_with fail;refine ay (.free 7 (.free 16 (.pure 0 (.free 1 (.free 2 (.pure 3 (.free 4 (.free 5 (.pure 6 (.pure 8 (.pure 9 (.free 10 (.free 11 (.pure 12 (.free 13 (.free 14 (.pure 15 (.run 17 (.run 18 (.run 19 (.swi [] (.fin)))))))))))))))))))))) [19] (fun w'=>w'.cell? ⟨b,0,none⟩=some (.pointer (some ⟨H.pc,0,none⟩))∧w'.cell? ⟨H.pc,0,none⟩=some (.pointer (some ⟨H.p,0,none⟩))∧w'.cell? ⟨H.p,0,none⟩=some (.pointer (some ⟨H.pa,0,none⟩))) (by kernel_rfl) (by kernel_rfl) ⟨b0,c0,p0⟩ ?_
  iterate 17 ((first | refine au rfl rfl fun K hK=>?_ | refine aq rfl rfl fun K hK=>?_ | refine aF rfl rfl fun K hK=>?_ | refine az rfl rfl fun K hK=>?_ | refine aE rfl rfl fun K hK=>?_);go_simp;refine hK _ ?_;clear hK K)
  refine aM rfl rfl (fun K hK=>?_);unfold aC;go_simp;refine (eD i _ HD.out.ha).mono ?_;rintro e w1 ⟨rfl,rfl⟩;refine hK _ _ (fun h=>h) ?_;clear hK K;refine aM rfl rfl (fun K hK=>?_);unfold aC;go_simp;refine (nL (s.A.load i) HD.out).mono ?_;rintro e w1 ⟨rfl,rfl⟩;refine hK _ _ (fun h=>h) ?_;clear hK K
  skip
  refine aJ rfl rfl rfl (fun K hK=>?_);unfold aC;go_simp;have HR:=Hz (gR (A:=s.A) (HD.out.ha.ok.load i));refine (gy i _ _ HD.out.ha HR.out).mono ?_;rintro e w3 ⟨rfl,t⟩;have T2:=Hz (a5.aW (w:=w) ((Kz w).drew) t);clear t;refine hK _ _ ?_;clear hK K c0 p0 pl cl;refine aH (fun _=>True) trivial (aB ?_);go_wp2_with fail;go_end0;exact ⟨rfl,T2.out⟩
 ·go_enter Tryz.func127,Tryz.ntmps127;go_wp2_with fail;refine ay (.free 7 (.pure 0 (.free 1 (.free 2 (.pure 3 (.free 4 (.free 5 (.pure 6 (.run 8 (.run 9 (.swi [] (.fin)))))))))))) [9] (fun w'=>w'.cell? ⟨b,0,none⟩=some (.pointer (some ⟨H.pc,0,none⟩))∧w'.cell? ⟨H.pc,0,none⟩=some (.pointer (some ⟨H.p,0,none⟩))∧w'.cell? ⟨H.p,0,none⟩=some (.pointer (some ⟨H.pa,0,none⟩))) (by kernel_rfl) (by kernel_rfl) ⟨b0,c0,p0⟩ ?_
  iterate 8 ((first | refine au rfl rfl fun K hK=>?_ | refine aq rfl rfl fun K hK=>?_ | refine aF rfl rfl fun K hK=>?_ | refine az rfl rfl fun K hK=>?_ | refine aE rfl rfl fun K hK=>?_);go_simp;refine hK _ ?_;clear hK K)
  refine aM rfl rfl (fun K hK=>?_);unfold aC;go_simp;refine (r6 _).mono ?_;rintro e w1 ⟨rfl,rfl⟩;refine hK _ _ (fun h=>h) ?_;clear hK K
  skip
  refine aJ rfl rfl rfl (fun K hK=>?_);unfold aC;go_simp;refine (gy i 3 _ HD.out.ha (by unfold br;omega)).mono ?_;rintro e w3 ⟨rfl,t⟩;have T2:=Hz (a5.aW (w:=w) ((Kz w).drew) t);clear t;refine hK _ _ ?_;clear hK K c0 p0 pl cl;refine aH (fun _=>True) trivial (aB ?_);go_wp2_with fail;go_end0;exact ⟨rfl,T2.out⟩
end
end
section
open Go.RowKit
def Ai (A:Ar) (i:Int):Ar:=gC A (i+1) (!a9 A (A.load (i+1)))
theorem ua {A:Ar} {l:List Int} {k:Nat} (h:k<l.length):fq A (l.take (k+1))=Ai (fq A (l.take k)) (l.getD k 0):=by
 unfold fq;rw [←List.take_append_getElem h,List.foldl_append,Ld,Le h];rfl
theorem ub {A:Ar} {l:List Int} {k:Nat} (h:k<l.length):(l.take (k+1)).foldl cW A=cW ((l.take k).foldl cW A) (l.getD k 0):=by
 rw [←List.take_append_getElem h,List.foldl_append,Ld,Le h];rfl
section
variable {w w':World} {H:CH} {wv ev rv qv:Value} {rg:List (Int × Int)} {d:Md} {s:Ms} {c:Int}
theorem cE.var (J:cE w H wv ev s c) {b:Nat} (hb:mG w b H) {A:Ar} (t:a5 w H.pa H.g w' A):mG w' b H:=t.k.ak hb (fun h=>by
 rcases h with h | h
 ·exact hb.ne J.ha.hp (by decide) h
 ·exact hb.ne J.ha.hg (by decide) h)
theorem Aj (J:cE w H wv ev s c) (hs:jT s 100000) :
  Calls Tryz.prog 62 #[.pointer (some ⟨H.pc,0,none⟩)] w fun e w'=>e=.returned (.tuple #[])∧a5 w H.pa H.g w' (jF s):=by
 obtain ⟨wo,wc,hwv,-,-,-⟩:=J.hw.rd;obtain ⟨eo,ec,hev,-,-,-⟩:=J.he.rd;subst hwv;subst hev;have HJ0:=Hz J;have hwb:=hs.wb;have heb:=hs.eb;have hl:=hs.len;have HWB:=Hz hwb;have HEB:=Hz heb;clear J hwb heb hs;generalize hwx:w.alloc (.cells #[.pointer (some ⟨H.pc,0,none⟩)] 102)=wx;have HK:=Hz (show ab (fun _=>False) w wx by rw [←hwx];exact (ab.refl _ _).alloc _);have HB:=Hz (show mG wx w.heap.size H by rw [←hwx];exact ah.newAt _ rfl rfl);have HX:=Hz hwx;have HJ:=Hz (HJ0.out.same HK.out);clear hwx;have q3:=HJ0.out.cells.2.2.2.1;have cl:=HJ0.out.hc.lt;go_enter Tryz.func62,Tryz.ntmps62;go_wp2_with fail;rw [HX.out];go_loopw [14] (fun u wr=>∃ k:Nat,k≤s.wk.length∧u=.int .i64 k∧a5 wx H.pa H.g wr (fq s.A (s.wk.take k))) (fun u _=>s.wk.length-(intOf u).toNat)
 case atStart=>exact ⟨0,Nat.zero_le _,rfl,a5.refl HJ.out.ha (ab.refl _ _)⟩
 case round=>
  clear q3 cl;obtain ⟨k,hk,rfl,t⟩:=hrel;have T:=Hz t;have JR:=Hz (HJ.out.bZ t);have BR:=Hz (HJ.out.var HB.out t);clear t;have b0:=BR.out.cell 0;have bl:=BR.out.lt;simp only [Lz] at b0;have c0:=JR.out.cells.1;have p0:=JR.out.cells.2.2.2.2.2.1;have pl:=JR.out.hp.lt;have cl:=JR.out.hc.lt;by_cases hlt:k<s.wk.length
  ·obtain ⟨_,_,e',rd,-,-⟩:=JR.out.hw.rd;cases e';obtain ⟨ge,oe,rfl,d0⟩:=rd.int k hlt;have hgl:=(JR.out.hw.own rfl).1;have hin:=HWB.out (s.wk.getD k 0) (by rw [Ld,Le hlt];exact List.getElem_mem hlt);have HTK:=Hz (ua (A:=s.A) hlt);generalize s.wk.getD k 0=i at *;generalize fq s.A (s.wk.take k)=B at *;have hi1:IntKind.i64.wrap (i+1)=i+1:=IntWalk.i64_in _ (by omega);clear rd;go_wp2_with fail;have JD:=Hz (JR.out.same ((Kz wr).drew));have BD:=Hz (((Kz wr).drew).ak BR.out (fun h=>h));refine ay (.free 0 (.free 1 (.free 2 (.free 11 (.free 12 (.pure 3 (.pure 4 (.free 5 (.free 6 (.pure 7 (.free 8 (.free 9 (.pure 10 (.run 13 (.run 14 (.swi [16] (.free 15 (.run 16 (.swi [] (.fin)))))))))))))))))))) [14,15,16] (fun w'=>w'.cell? ⟨w.heap.size,0,none⟩=some (.pointer (some ⟨H.pc,0,none⟩))∧w'.cell? ⟨H.pc,0,none⟩=some (.pointer (some ⟨H.p,0,none⟩))∧w'.cell? ⟨H.p,0,none⟩=some (.pointer (some ⟨H.pa,0,none⟩))) (by kernel_rfl) (by kernel_rfl) ⟨b0,c0,p0⟩ ?_
   iterate 13 ((first | refine au rfl rfl fun K hK=>?_ | refine aq rfl rfl fun K hK=>?_ | refine aF rfl rfl fun K hK=>?_ | refine az rfl rfl fun K hK=>?_ | refine aE rfl rfl fun K hK=>?_);go_simp;refine hK _ ?_;clear hK K)
   refine aM rfl rfl (fun K hK=>?_);unfold aC;go_simp;refine (eD (i+1) _ JD.out.ha).mono ?_;rintro e w1 ⟨rfl,rfl⟩;refine hK _ _ (fun h=>h) ?_;clear hK K;refine aJ rfl rfl rfl (fun K hK=>?_);unfold aC;go_simp;refine (iM (B.load (i+1)) JD.out).mono ?_;rintro e w1 ⟨rfl,rfl⟩;refine hK _ _ ?_;clear hK K;refine aH (fun _=>True) trivial ?_
   iterate 1 ((first | refine au rfl rfl fun K hK=>?_ | refine aq rfl rfl fun K hK=>?_);go_simp;refine hK _ ?_;clear hK K)
   refine aJ rfl rfl rfl (fun K hK=>?_);unfold aC;go_simp;refine (tr (i+1) (!a9 B (B.load (i+1))) w.heap.size JD.out BD.out).mono ?_;rintro e w2 ⟨rfl,t⟩;have T2:=Hz (T.out.trans (a5.aW ((Kz wr).drew) t));clear t;refine hK _ _ ?_;clear hK K;refine aH (fun _=>True) trivial (aB ?_);clear b0 bl c0 p0 pl cl d0;go_wp2_with fail;go_roundw
   case rel=>exact ⟨k+1,hlt,by go_num,by rw [HTK.out];exact T2.out⟩
   case measure=>simp [intOf];omega
  ·obtain rfl:k=s.wk.length:=by omega
   rw [List.take_length] at T JR;have HW0:=Hz (show jF s=s.ep.foldl cW (fq s.A s.wk) from rfl);generalize fq s.A s.wk=B at *;obtain ⟨w1,rfl⟩:∃ x:World,x=wr:=⟨wr,rfl⟩;have q4:=JR.out.cells.2.2.2.2.1
   try dsimp only at q4
   go_wp2_with fail;go_loopw [41] (fun u wr=>∃ k:Nat,k≤s.ep.length∧u=.int .i64 k∧a5 w1 H.pa H.g wr ((s.ep.take k).foldl cW B)) (fun u _=>s.ep.length-(intOf u).toNat)
   case atStart=>exact ⟨0,Nat.zero_le _,rfl,a5.refl JR.out.ha (ab.refl _ _)⟩
   case round=>
    clear b0 bl c0 p0 pl cl q4;obtain ⟨k,hk,rfl,t⟩:=hrel;have T4:=Hz t;have JQ:=Hz (JR.out.bZ t);have BQ:=Hz (JR.out.var BR.out t);clear t;have b0:=BQ.out.cell 0;have bl:=BQ.out.lt;simp only [Lz] at b0;have c0:=JQ.out.cells.1;have p0:=JQ.out.cells.2.2.2.2.2.1;have pl:=JQ.out.hp.lt;have cl:=JQ.out.hc.lt;by_cases hlt2:k<s.ep.length
    ·obtain ⟨_,_,e',rd,-,-⟩:=JQ.out.he.rd;cases e';obtain ⟨ge,oe,rfl,d0⟩:=rd.int k hlt2;have hgl:=(JQ.out.he.own rfl).1;have hin:=HEB.out (s.ep.getD k 0) (by rw [Ld,Le hlt2];exact List.getElem_mem hlt2);have HTK:=Hz (ub (A:=B) hlt2);generalize s.ep.getD k 0=i at *;generalize (s.ep.take k).foldl cW B=D at *;have hi1:IntKind.i64.wrap (i+1)=i+1:=IntWalk.i64_in _ (by omega);have hi2:IntKind.i64.wrap (i+2)=i+2:=IntWalk.i64_in _ (by omega);clear rd;go_wp2_with fail;have JD:=Hz (JQ.out.same ((Kz wr).drew));have BD:=Hz (((Kz wr).drew).ak BQ.out (fun h=>h));refine ay (.free 8 (.free 9 (.pure 0 (.pure 1 (.free 2 (.free 3 (.pure 4 (.free 5 (.free 6 (.pure 7 (.run 10 (.run 11 (.swi [] (.free 12 (.free 13 (.fin)))))))))))))))) [11,12,13] (fun w'=>w'.cell? ⟨w.heap.size,0,none⟩=some (.pointer (some ⟨H.pc,0,none⟩))∧w'.cell? ⟨H.pc,0,none⟩=some (.pointer (some ⟨H.p,0,none⟩))∧w'.cell? ⟨H.p,0,none⟩=some (.pointer (some ⟨H.pa,0,none⟩))) (by kernel_rfl) (by kernel_rfl) ⟨b0,c0,p0⟩ ?_
     iterate 10 ((first | refine au rfl rfl fun K hK=>?_ | refine aq rfl rfl fun K hK=>?_ | refine aF rfl rfl fun K hK=>?_ | refine az rfl rfl fun K hK=>?_ | refine aE rfl rfl fun K hK=>?_);go_simp;refine hK _ ?_;clear hK K)
     refine aM rfl rfl (fun K hK=>?_);unfold aC;go_simp;refine (eD (i+1) _ JD.out.ha).mono ?_;rintro e w2 ⟨rfl,rfl⟩;refine hK _ _ (fun h=>h) ?_;clear hK K;refine aJ rfl rfl rfl (fun K hK=>?_);unfold aC;go_simp;refine (iM (D.load (i+1)) JD.out).mono ?_;rintro e w2 ⟨rfl,rfl⟩;refine hK _ _ ?_;clear hK K;refine aH (fun _=>True) trivial ?_
     iterate 2 ((first | refine au rfl rfl fun K hK=>?_ | refine aq rfl rfl fun K hK=>?_);go_simp;refine hK _ ?_;clear hK K)
     refine aB ?_;clear b0 bl c0 p0 pl cl d0;generalize hdd:(!a9 D (D.load (i+1)))=dd;have HDD:=Hz hdd;clear hdd;go_wp2_with fail;refine (tr (i+1) dd w.heap.size JD.out BD.out).mono ?_;rintro e w3 ⟨rfl,t⟩;have T3:=Hz (T4.out.trans (a5.aW ((Kz wr).drew) t));have J3:=Hz (JD.out.bZ t);have B3:=Hz (JD.out.var BD.out t);clear t;go_wp2_with fail;refine (tr (i+2) dd w.heap.size J3.out B3.out).mono ?_;rintro e w4 ⟨rfl,t⟩;have T5:=Hz (T3.out.trans t);clear t;go_wp2_with fail;go_roundw
     case rel=>exact ⟨k+1,hlt2,by go_num,by rw [HTK.out,cW,HDD.out];exact T5.out⟩
     case measure=>simp [intOf];omega
    ·obtain rfl:k=s.ep.length:=by omega
     rw [List.take_length,←HW0.out] at T4;have T6:=Hz (a5.aW HK.out (T.out.trans T4.out));clear T4 JQ BQ;go_wp2_with fail;go_end0;exact ⟨rfl,T6.out⟩
end
end
section
open Go.RowKit
theorem oJ:∀ (l:List Int) (A:Ar) (x:Int),mRoots A (l ++ [x])=(bF (mRoots A l).1 x,(mRoots A l).2 ++ [cR (bF (mRoots A l).1 x) x])
 | [],A,x=>rfl
 | y :: l,A,x=>by
  show ((mRoots (bF A y) (l ++ [x])).1,cR (bF A y) y :: (mRoots (bF A y) (l ++ [x])).2)=_
  rw [oJ l]
  rfl
theorem kf:∀ (l:List Int) (A:Ar),(mRoots A l).2.length=l.length
 | [],A=>rfl
 | y :: l,A=>by
  show (cR (bF A y) y :: (mRoots (bF A y) l).2).length=_
  rw [List.length_cons,kf l,List.length_cons]
def gV (A:Ar) (rt:List Int) (k:Nat):List Int:=(mRoots A (rt.take k)).2 ++ rt.drop k
theorem vP {A:Ar} {rt:List Int} {k:Nat} (h:k≤rt.length):(gV A rt k).length=rt.length:=by
 unfold gV;rw [List.length_append,kf,List.length_take,List.length_drop];omega
theorem vQ {A:Ar} {rt:List Int} {k:Nat} (h:k<rt.length):(gV A rt k).getD k 0=rt.getD k 0:=by
 unfold gV;have hl:(mRoots A (rt.take k)).2.length=k:=by rw [kf,List.length_take];omega
 rw [Ld,List.getElem?_append_right (by omega),hl,Nat.sub_self,List.getElem?_drop,Nat.add_zero,Ld]
theorem uc {A:Ar} {rt:List Int} {k:Nat} (h:k<rt.length):(mRoots A (rt.take (k+1))).1=bF (mRoots A (rt.take k)).1 (rt.getD k 0) ∧
  (gV A rt k).set k (cR (bF (mRoots A (rt.take k)).1 (rt.getD k 0)) (rt.getD k 0))=gV A rt (k+1):=by
 have e:rt.getD k 0=rt[k]:=by rw [Ld,Le h];rfl
 have hs:=oJ (rt.take k) A (rt[k]);rw [List.take_append_getElem h] at hs;have hl:(mRoots A (rt.take k)).2.length=k:=by rw [kf,List.length_take];omega
 rw [e];refine ⟨by rw [hs],?_⟩;unfold gV;rw [hs,List.set_append_right _ _ (by omega),hl,Nat.sub_self,List.drop_eq_getElem_cons h,List.set_cons_zero,List.append_assoc]
 rfl
structure MC (w0:World) (h:WH) (w:World) (pc:Nat) (n0:Int) (wv ev rv qv:Value) (cd:List Bool) (rt:List Int) (rg:List (Int × Int)) (d:Md):Prop where
 C:CS w ⟨h.p,h.pa,h.g,h.pc,h.ps,h.ro,pc,n0⟩ wv ev rv qv rg d
 hc:cO w h.pc h.cb n0 cd
 hr:Sl w 2 1 h.ro rt.length (rt.map (Value.int .i64))
 ap:¬ ai h.ro h.g
 K:ab h.Own w0 w
 own:∀ k,((CH.mk h.p h.pa h.g h.pc h.ps h.ro pc n0).Own wv ev k∨a7 h.ps rv qv k)→h.Own k∨w0.heap.size≤k
section
variable {w0 w w':World} {h:WH} {pc:Nat} {n0:Int} {wv ev rv qv:Value} {cd:List Bool} {rt:List Int} {rg:List (Int × Int)} {d d':Md}
theorem MC.type (M:MC w0 h w pc n0 wv ev rv qv cd rt rg d) {b:Nat} {l:List Value} {T:TypeId} (hb:ah w b l T) (h1:T≠52∧T≠141∧T≠2∧T≠104∧T≠3∧T≠133∧T≠101) :
  ¬ ((CH.mk h.p h.pa h.g h.pc h.ps h.ro pc n0).Own wv ev b∨a7 h.ps rv qv b):=by
 rintro (hk | hk)
 ·obtain ⟨_,U,h',hU⟩:=M.C.J.bB hk;refine hb.ne h' ?_ rfl;rcases hU with rfl | rfl | rfl | rfl | rfl
  ·exact h1.1
  ·exact h1.2.1
  ·exact h1.2.2.1
  ·exact h1.2.2.2.1
  ·exact h1.2.2.2.2.1
 ·obtain ⟨_,U,h',hU⟩:=M.C.S.cG hk;refine hb.ne h' ?_ rfl;rcases hU with rfl | rfl
  ·exact h1.2.2.2.2.2.1
  ·exact h1.2.2.2.2.2.2
theorem MC.mH (M:MC w0 h w pc n0 wv ev rv qv cd rt rg d) {b:Nat} (hb:ai h.ro b):¬ ((CH.mk h.p h.pa h.g h.pc h.ps h.ro pc n0).Own wv ev b∨a7 h.ps rv qv b):=by
 obtain ⟨_,l,hbl⟩:=M.hr.own hb;rintro ((hk | hk | hk | hk | hk | hk) | hk)
 ·exact hbl.ne M.C.J.hp (by decide) hk
 ·exact hbl.ne M.C.J.ha.hp (by decide) hk
 ·subst hk;exact M.ap hb
 ·exact hbl.ne M.C.J.hc (by decide) hk
 ·obtain ⟨_,l',h'⟩:=M.C.J.hw.own hk;exact hbl.ne h' (by decide) rfl
 ·obtain ⟨_,l',h'⟩:=M.C.J.he.own hk;exact hbl.ne h' (by decide) rfl
 ·obtain ⟨_,U,h',hU⟩:=M.C.S.cG hk;refine hbl.ne h' ?_ rfl;rcases hU with rfl | rfl <;> decide
theorem MC.step (M:MC w0 h w pc n0 wv ev rv qv cd rt rg d) (t:gb w ⟨h.p,h.pa,h.g,h.pc,h.ps,h.ro,pc,n0⟩ wv ev rv qv rg d' w'):∃ wv' ev',MC w0 h w' pc n0 wv' ev' rv qv cd rt rg d'∧∀ k,(CH.mk h.p h.pa h.g h.pc h.ps h.ro pc n0).Own wv' ev' k→(CH.mk h.p h.pa h.g h.pc h.ps h.ro pc n0).Own wv ev k∨w.heap.size≤k:=by
 obtain ⟨a,b,C',k,o⟩:=t;refine ⟨a,b,⟨C',M.hc.ae k (M.type M.hc.hp (by decide)) (M.type M.hc.hq (by decide)),M.hr.ae k (fun b hb=>M.mH hb),M.ap,M.K.then k (fun k hk=>M.own k hk),fun k hk=>?_⟩,o⟩;rcases hk with hk | hk
 ·rcases o k hk with h1 | h1
  ·exact M.own k (.inl h1)
  ·exact .inr (Nat.le_trans M.K.size h1)
 ·exact M.own k (.inr hk)
theorem MC.same (M:MC w0 h w pc n0 wv ev rv qv cd rt rg d) (k:ab (fun _=>False) w w'):MC w0 h w' pc n0 wv ev rv qv cd rt rg d:=
 ⟨M.C.same k,M.hc.ae k (fun h=>h) (fun h=>h),M.hr.ae k (fun _ _ h=>h),M.ap,M.K.trans (k.mono fun _ _ h=>h.elim),M.own⟩
def mI (h:WH) (pc:Nat) (n0:Int) (sz:Nat) (wv ev:Value):Prop:=∀ k,(CH.mk h.p h.pa h.g h.pc h.ps h.ro pc n0).Own wv ev k→(k=h.p∨k=h.pa∨k=h.g∨k=pc)∨sz≤k
theorem mI.nil (h:WH) (pc:Nat) (n0:Int) (sz:Nat):mI h pc n0 sz (.slice none 0 0) (.slice none 0 0):=by
 rintro k (h | h | h | h | h | h)
 ·exact .inl (.inl h)
 ·exact .inl (.inr (.inl h))
 ·exact .inl (.inr (.inr (.inl h)))
 ·exact .inl (.inr (.inr (.inr h)))
 ·exact (bM h).elim
 ·exact (bM h).elim
theorem mI.step {sz:Nat} {wv' ev':Value} (hI:mI h pc n0 sz wv ev) (o:∀ k,(CH.mk h.p h.pa h.g h.pc h.ps h.ro pc n0).Own wv' ev' k→(CH.mk h.p h.pa h.g h.pc h.ps h.ro pc n0).Own wv ev k∨w.heap.size≤k) (hsz:sz≤w.heap.size):mI h pc n0 sz wv' ev':=fun k hk=>by
 rcases o k hk with h1 | h1
 ·exact hI k h1
 ·exact .inr (Nat.le_trans hsz h1)
theorem MC.qq (M:MC w0 h w pc n0 wv ev rv qv cd rt rg d) {sz n:Nat} {v:Value} {xs:List Value} (hI:mI h pc n0 sz wv ev) (hs:Sl w 3 1 v n xs) (hlt:∀ b,ai v b→b<sz) {b:Nat} (hb:ai v b) :
  ¬ ((CH.mk h.p h.pa h.g h.pc h.ps h.ro pc n0).Own wv ev b∨a7 h.ps rv qv b):=by
 obtain ⟨_,l,h'⟩:=hs.own hb;rintro (hk | hk)
 ·rcases hI b hk with (h1 | h1 | h1 | h1) | h1
  ·exact h'.ne M.C.J.hp (by decide) h1
  ·exact h'.ne M.C.J.ha.hp (by decide) h1
  ·exact h'.ne M.C.J.ha.hg (by decide) h1
  ·exact h'.ne M.C.J.hc (by decide) h1
  ·have:=hlt b hb;omega
 ·obtain ⟨_,U,h2,hU⟩:=M.C.S.cG hk;refine h'.ne h2 ?_ rfl;rcases hU with rfl | rfl <;> decide
theorem MC.root (M:MC w0 h w pc n0 wv ev rv qv cd rt rg d) {g o cap k:Nat} {x:Int} (e:h.ro=.slice (some ⟨g,o,none⟩) rt.length cap) (hk:k<rt.length) :
  MC w0 h (w.setCell ⟨g,o+k,none⟩ (.int .i64 x)) pc n0 wv ev rv qv cd (rt.set k x) rg d:=by
 have hown:ai h.ro g:=by rw [e];rfl
 have kk:ab (ai h.ro) w (w.setCell ⟨g,o+k,none⟩ (.int .i64 x)):=(ab.refl _ _).setCell (p:=⟨g,o+k,none⟩) (.inl hown) _;have ne:∀ {b:Nat} {c:List Value} {T:TypeId},ah w b c T→T≠2→¬ ai h.ro b:=fun hb h1 hf=>by
  obtain ⟨_,c',hc⟩:=M.hr.own hf;exact hb.ne hc h1 rfl
 refine ⟨M.C.ae kk (fun b hb ho=>M.mH ho (.inl hb)) (fun b hb ho=>M.mH ho (.inr hb)),M.hc.ae kk (ne M.hc.hp (by decide)) (ne M.hc.hq (by decide)),?_,M.ap,M.K.trans (kk.mono (fun k _ hk=>.inr (.inr (.inr (.inr hk))))),M.own⟩;have hs:=M.hr;rw [e] at hs ⊢;have:=hs.set (j:=k) (u:=.int .i64 x) (by omega);rw [List.length_set,List.map_set];exact this
theorem MC.fT (M:MC w0 h w pc n0 wv ev rv qv cd rt rg d) (h12:rt.length=12):∃ g o cap,h.ro=.slice (some ⟨g,o,none⟩) 12 cap∧g<w.heap.size∧(∀ k,w.frozen? ⟨g,k,none⟩=false)∧∀ k,k<rt.length→w.cell? ⟨g,o+k,none⟩=some (.int .i64 (rt.getD k 0)):=by
 obtain ⟨ao,cap,e,hrd,-,-⟩:=M.hr.rd;obtain ⟨g,o,rfl,hg,hc⟩:=hrd (by intro e;have:=congrArg List.length e;rw [List.length_map,h12] at this;cases this);have hown:ai h.ro g:=by rw [e];rfl
 obtain ⟨-,cur,hb⟩:=M.hr.own hown;refine ⟨g,o,cap,by rw [e,h12],hg,fun k=>hb.free k,fun k hk=>?_⟩;rw [hc k (by simpa using hk)];simp [List.getD,hk]
structure ME (w0:World) (h:WH) (w:World) (pc:Nat) (n0:Int) (wv ev rv qv:Value) (cd:List Bool) (rt:List Int) (rg wt:List (Int × Int)) (s:Ms) (c:Int):Prop where
 J:cE w ⟨h.p,h.pa,h.g,h.pc,h.ps,h.ro,pc,n0⟩ wv ev s c
 S:bu w h.ps rv qv rg wt
 hc:cO w h.pc h.cb n0 cd
 hr:Sl w 2 1 h.ro rt.length (rt.map (Value.int .i64))
 ap:¬ ai h.ro h.g
 K:ab h.Own w0 w
 own:∀ k,a7 h.ps rv qv k→h.Own k∨w0.heap.size≤k
theorem ME.bZ {wt:List (Int × Int)} {s:Ms} {c:Int} {A:Ar} (M:ME w0 h w pc n0 wv ev rv qv cd rt rg wt s c) (t:a5 w h.pa h.g w' A):ME w0 h w' pc n0 wv ev rv qv cd rt rg wt { s with A:=A } c:=by
 have n1:∀ {b:Nat} {c:List Value} {T:TypeId},ah w b c T→T≠141→T≠2→¬ (b=h.pa∨b=h.g):=fun hb h1 h2 e=>by
  rcases e with e | e
  ·exact hb.ne M.J.ha.hp h1 e
  ·exact hb.ne M.J.ha.hg h2 e
 refine ⟨M.J.bZ t,M.S.ae t.k (fun b hb=>?_),M.hc.ae t.k (n1 M.hc.hp (by decide) (by decide)) (n1 M.hc.hq (by decide) (by decide)),M.hr.ae t.k (fun b hb=>?_),M.ap,M.K.trans (t.k.mono (fun k _ hk=>.inr (.inl hk))),M.own⟩
 ·obtain ⟨c,T,hc,hT⟩:=M.S.cG hb;rcases hT with rfl | rfl
  ·exact n1 hc (by decide) (by decide)
  ·exact n1 hc (by decide) (by decide)
 ·obtain ⟨_,l,hb'⟩:=M.hr.own hb;rintro (rfl | rfl)
  ·exact hb'.ne M.J.ha.hp (by decide) rfl
  ·exact M.ap hb
theorem ME.cards {wt:List (Int × Int)} {s:Ms} {c:Int} {l:List Bool} (M:ME w0 h w pc n0 wv ev rv qv cd rt rg wt s c) (t:cO w' h.pc h.cb n0 l) (k:ab (·=h.cb) w w'):ME w0 h w' pc n0 wv ev rv qv l rt rg wt s c:=by
 have n1:∀ {b:Nat} {c:List Value} {T:TypeId},ah w b c T→T≠4→¬ (b=h.cb):=fun hb h1 e=>hb.ne M.hc.hq h1 e;refine ⟨M.J.ae k (fun b hb=>?_),M.S.ae k (fun b hb=>?_),t,M.hr.ae k (fun b hb=>?_),M.ap,M.K.trans (k.mono (fun k _ hk=>.inr (.inr (.inl (.inr hk))))),M.own⟩
 ·obtain ⟨_,T,hc,hT⟩:=M.J.bB hb;refine n1 hc ?_;rcases hT with rfl | rfl | rfl | rfl | rfl <;> decide
 ·obtain ⟨c,T,hc,hT⟩:=M.S.cG hb;refine n1 hc ?_;rcases hT with rfl | rfl <;> decide
 ·obtain ⟨_,l,hb'⟩:=M.hr.own hb;exact n1 hb' (by decide)
theorem ME.done {wt:List (Int × Int)} {s:Ms} {c:Int} (M:ME w0 h w pc n0 wv ev rv qv cd rt rg wt s c) (hn:n0=s.A.nur) (hok:(Wo.mk s.A cd rt rg wt).ok):fK w0 h w ⟨s.A,cd,rt,rg,wt⟩:=by
 refine ⟨⟨h.p,h.pa,h.g,h.pc,h.cb,h.ps,rv,qv,h.ro⟩,⟨M.J.hp,M.J.ha,by dsimp only;rw [←hn];exact M.hc,M.S,M.hr,M.ap,hok⟩,rfl,M.K,?_⟩;rintro k (hk | hk | hk | hk | hk)
 ·exact .inl (.inl hk)
 ·exact .inl (.inr (.inl hk))
 ·exact .inl (.inr (.inr (.inl hk)))
 ·exact M.own k hk
 ·exact .inl (.inr (.inr (.inr (.inr hk))))
end
theorem oK (A:Ar):∀ (n:Nat) (i j:Int), ∀ p ∈ A.list n i j,i≤p∧p<j
 | 0,i,j,p,h=>by unfold Ar.list at h;cases h
 | n+1,i,j,p,h=>by
  unfold Ar.list at h;split at h
  ·split at h
   ·rename_i h1 h2;have hf:=A.aU i;rcases List.mem_cons.1 h with rfl | h
    ·omega
    ·have:=oK A n _ _ p h;omega
   ·cases h
  ·cases h
theorem Sm.zy {A:Ar}:∀ (l:List Int) {B:Ar},Sm A B→Sm A (fq B l)
 | [],B,h=>h
 | i :: l,B,h=>Sm.zy l (h.trans (Sm.fix h.ok (i+1) _))
theorem Sm.zz {A:Ar}:∀ (l:List Int) {B:Ar},Sm A B→Sm A (l.foldl cW B)
 | [],B,h=>h
 | i :: l,B,h=>Sm.zz l ((h.trans (Sm.fix h.ok (i+1) _)).trans (Sm.fix (Sm.fix h.ok (i+1) _).ok (i+2) _))
theorem Sm.gone {s:Ms} (h:s.A.ok):Sm s.A (jF s):=Sm.zz s.ep (Sm.zy s.wk (Sm.refl h))
theorem ud {base:Int} {cd:List Bool} {s:Ms} {l:List Int} {k:Nat} (h:k<l.length):ef base cd s (l.take (k+1))=if db base cd (l.getD k 0)=true then dV (ef base cd s (l.take k)) (l.getD k 0) else ef base cd s (l.take k):=by
 unfold ef;rw [←List.take_append_getElem h,List.foldl_append,Ld,Le h];rfl
end
section
open Go.RowKit
def yQ (w:World) (h:WH) (O:Wo) (e:Ending) (w':World):Prop:=e=.returned (.int .i64 (gQ O).1)∧fK w h w' (gQ O).2
section
variable {w w':World} {h:WH} {O:Wo}
theorem qs {W:Wd} {φ:Int→Int} (R:aL O W φ) (H:bp w h O) :
  Calls Tryz.prog 16 #[.pointer (some ⟨h.p,0,none⟩)] w (yQ w h O):=by
 have HH:=Hz H;have hok:=H.ok;obtain ⟨p0,p1,p2,p3⟩:=H.dZ;have pl:=H.hp.lt;have o1:=hok.ha.h1;have o2:=hok.ha.h2;have o3:=hok.ha.h3;have o4:=hok.ha.h4;have HR:=Hz R;clear H R;have HOK:=Hz hok;clear hok;go_enter Tryz.func16,Tryz.ntmps16;go_wp2_with fail;refine (lH w HH.out.ha).mono ?_;rintro e w1 ⟨rfl,hk⟩;have H1:=Hz (HH.out.ae hk (fun _ _ h=>h));have K1:=Hz hk;clear p0 p1 p2 p3 pl hk;obtain ⟨p0,p1,p2,p3⟩:=H1.out.dZ;have pl:=H1.out.hp.lt;go_wp2_with fail;refine (jK w1 H1.out.ha).mono ?_;rintro e w2 ⟨rfl,hk⟩;have H2:=Hz (H1.out.ae hk (fun _ _ h=>h));have K2:=Hz (K1.out.trans hk);clear p0 p1 p2 p3 pl hk H1 K1;by_cases hfull:(O.ar.yng:Int) > (O.ar.ws.length:Int)-O.ar.grn
 ·have HE:=Hz (show gQ O=(3,O) by unfold gQ;rw [if_pos hfull]);have hd:decide (((O.ar.ws.length-O.ar.grn:Nat):Int)<(O.ar.yng:Int))=true:=by simp;omega
  have hd2:decide (O.ar.ws.length-O.ar.grn<O.ar.yng)=true:=by simp;omega
  clear hfull;go_wp2_with fail;go_ret;refine ⟨by rw [HE.out];rfl,?_⟩;rw [HE.out];exact fK.same HH.out K2.out
 ·have hd:decide (((O.ar.ws.length-O.ar.grn:Nat):Int)<(O.ar.yng:Int))=false:=by simp;omega
  have hd2:decide (O.ar.ws.length-O.ar.grn<O.ar.yng)=false:=by simp;omega
  have HF:=Hz hfull;clear hfull;obtain ⟨p0,p1,p2,p3⟩:=H2.out.dZ;have pl:=H2.out.hp.lt;go_wp2_with fail;clear hd hd2;refine (r9 w2 H2.out.ha).mono ?_;rintro e w3 ⟨rfl,hk⟩;have H3:=Hz (H2.out.ae hk (fun _ _ h=>h));have K3:=Hz (K2.out.trans hk);clear p0 p1 p2 p3 pl hk H2 K2;obtain ⟨p0,p1,p2,p3⟩:=H3.out.dZ;have pl:=H3.out.hp.lt;go_wp2_with fail;generalize hwb:w3.alloc (.cells #[.pointer (some ⟨h.p,0,none⟩), .int .i64 O.ar.nur, .int .i64 0, .slice none 0 0, .slice none 0 0] 104)=wb;have KB:=Hz (show ab (fun _=>False) w3 wb by rw [←hwb];exact (ab.refl _ _).alloc _);have HB:=Hz (show ah wb w3.heap.size [.pointer (some ⟨h.p,0,none⟩), .int .i64 O.ar.nur, .int .i64 0, .slice none 0 0, .slice none 0 0] 104 by rw [←hwb];exact ah.newAt _ rfl rfl);have MB:=Hz (show MC w h wb w3.heap.size O.ar.nur (.slice none 0 0) (.slice none 0 0) h.rv h.wv O.cd O.rt O.rg ⟨⟨O.ar,[],[]⟩,0,O.wt⟩ by
   have HBW:=H3.out.ae KB.out (fun _ _ h=>h);have hok:=HOK.out;refine ⟨⟨⟨HBW.hp,HBW.ha,HB.out,Sl.nil _ _ _,Sl.nil _ _ _,fun k hk=>bM hk.1⟩,HBW.hs,⟨hok.ha,⟨by simp,(fun i hi=>by cases hi),(fun i hi=>by cases hi)⟩,by show (0:Int)≤0;omega,by show (0:Int)≤1300;omega⟩,fun e he=>hok.hw e he,rfl,by have:=hok.hq;dsimp only;omega⟩,HBW.hc,HBW.hr,HBW.ap,(K3.out.trans KB.out).mono (fun _ _ h=>h.elim),?_⟩;rintro k ((rfl | rfl | rfl | rfl | hk | hk) | hk)
   ·exact .inl (.inl rfl)
   ·exact .inl (.inr (.inl (.inl rfl)))
   ·exact .inl (.inr (.inl (.inr rfl)))
   ·exact .inr K3.out.size
   ·exact (bM hk).elim
   ·exact (bM hk).elim
   ·exact .inl (.inr (.inr (.inr (.inl hk)))))
  clear hwb p0 p1 p2 p3 pl H3 HB KB;generalize w3.heap.size=pc at *;go_wp2_with fail;refine (oV wb MB.out.C.J.ha).mono ?_;rintro e w4 ⟨ao,ac,bo,bc,rfl,-,hls,hk,-,hlo⟩;have M4:=Hz (MB.out.same hk);have HLS:=Hz hls;have HLO:=Hz hlo;have HLT:=Hz (fun b hb=>(hls.own (k:=b) hb).1);clear hls hlo hk;have cl:=M4.out.C.J.hc.lt;go_wp2_with fail;refine (qn M4.out.C.J M4.out.C.nb).mono ?_;rintro e w5 ⟨rfl,hk⟩;have HSZ5:=Hz hk.size;have M5:=Hz (M4.out.same hk);have HLS5:=Hz (HLS.out.ae hk (fun _ _ h=>h));clear hk cl HLS;have q2:=M5.out.C.J.cells.2.2.1;have cl:=M5.out.C.J.hc.lt;have fz:=M5.out.C.J.hc.free 2;have q3:=M5.out.C.J.cells.2.2.2.2.2.2.2.2;have pl:=M5.out.C.J.hp.lt;dsimp only at q2 q3;obtain ⟨gr,og,rcap,ero,-,-,-⟩:=M5.out.fT HOK.out.h12;have HRO:=Hz ero;rw [ero] at q3;clear ero;have HA5:=Hz M5.out.C.ok.ok;have hsto:=(M5.out.C.J.Bh (O.ar.grn:Int));obtain ⟨wv6,ev6,M6',o6⟩:=M5.out.step (M5.out.C.cut hsto ⟨M5.out.C.ok.ok,M5.out.C.ok.ms.more (by dsimp only;omega),by omega,by omega⟩ rfl);have M6:=Hz M6';have HI6:=Hz ((mI.nil h pc O.ar.nur w4.heap.size).step o6 HSZ5.out);have HLS6:=Hz (HLS5.out.ae ((ab.refl (·=pc) w5).setCell (p:=⟨pc,2,none⟩) (.inl rfl) (.int .i64 (O.ar.grn:Int))) (fun b hb e=>by
   obtain ⟨_,l,h'⟩:=HLS5.out.own hb
   exact h'.ne M5.out.C.J.hc (by decide) e))
  clear M6' hsto o6;dsimp only at M6 HLS6;go_wp2_with fail;have HSZ6:=Hz (show w5.heap.size≤(w5.setCell ⟨pc,2,none⟩ (.int .i64 (O.ar.grn:Int))).heap.size by simp);generalize w5.setCell ⟨pc,2,none⟩ (.int .i64 (O.ar.grn:Int))=w6 at *;clear M5 HLS5 q2 q3 cl fz pl MB M4;go_loopw [65] (fun u wr=>∃ k:Nat,k≤12∧u=.int .i64 k∧∃ wv ev,MC w h wr pc O.ar.nur wv ev h.rv h.wv O.cd (gV O.ar O.rt k) O.rg ⟨⟨(mRoots O.ar (O.rt.take k)).1,[],[]⟩,O.ar.grn,O.wt⟩∧mI h pc O.ar.nur w4.heap.size wv ev∧w4.heap.size≤wr.heap.size∧Sl wr 3 1 (.slice bo O.ar.aT.2.length bc) O.ar.aT.2.length (O.ar.aT.2.map (Value.int .i64))) (fun u _=>12-(intOf u).toNat)
  case atStart=>exact ⟨0,Nat.zero_le _,rfl,_,_,M6.out,HI6.out,by have:=HSZ5.out;have:=HSZ6.out;omega,HLS6.out⟩
  case round=>
   clear M6 HLS6 HI6 ev6 wv6;obtain ⟨k,hk,rfl,wv,ev,hM,hI,hsz,hls⟩:=hrel;have M:=Hz hM;have HLS:=Hz hls;have HI:=Hz hI;have HSR:=Hz hsz;clear hM hls hI hsz;by_cases hlt:k<12
   ·have hl12:=HOK.out.h12;have hrl:(gV O.ar O.rt k).length=12:=by rw [vP (by omega)];exact hl12
    have hst:=uc (A:=O.ar) (rt:=O.rt) (k:=k) (by omega);have hgt:=vQ (A:=O.ar) (rt:=O.rt) (k:=k) (by omega);have HST:=Hz hst;obtain ⟨gr',og',rcap',ero,hgl,hfz,hcl⟩:=M.out.fT hrl;rw [HRO.out] at ero;cases ero;have d0:=hcl k (by omega);rw [hgt] at d0;have q3:=M.out.C.J.cells.2.2.2.2.2.2.2.2;have pl:=M.out.C.J.hp.lt;dsimp only at q3;rw [HRO.out] at q3;have hf:=hfz (og+k);have HFZ:=Hz hfz;clear hst hgt hcl hl12 hfz;generalize O.rt.getD k 0=x at *;go_wp2_with fail;have MD:=Hz (M.out.same ((Kz wr).drew));refine ay (.free 0 (.free 1 (.free 2 (.free 4 (.free 5 (.free 6 (.pure 3 (.run 7 (.free 8 (.run 9 (.swi [] (.fin)))))))))))) [9] (fun w'=>w'.cell? ⟨h.p,3,none⟩=some (.slice (some ⟨gr,og,none⟩) 12 rcap)) (by kernel_rfl) (by kernel_rfl) q3 ?_
    iterate 7 ((first | refine au rfl rfl fun K hK=>?_ | refine aq rfl rfl fun K hK=>?_ | refine aF rfl rfl fun K hK=>?_ | refine az rfl rfl fun K hK=>?_ | refine aE rfl rfl fun K hK=>?_);go_simp;refine hK _ ?_;clear hK K)
    refine aM rfl rfl (fun K hK=>?_);unfold aC;go_simp;refine (mC x MD.out.C.J).mono ?_;rintro e w7 ⟨rfl,t⟩;have T:=Hz t;have hsm:=Sm.iC MD.out.C.ok.ok x;obtain ⟨wv7,ev7,M7',o7⟩:=MD.out.step (MD.out.C.cut (MD.out.C.J.iR t) (MD.out.C.ok.bZ hsm.ok) hsm.nur);have M7:=Hz M7';have HI7:=Hz (HI.out.step o7 HSR.out);have HS7:=Hz (Nat.le_trans HSR.out t.k.size);have q3':=M7.out.C.J.cells.2.2.2.2.2.2.2.2;dsimp only at q3';rw [HRO.out] at q3';refine hK _ _ (fun _=>q3') ?_;clear hK K M7' o7 hsm t q3 q3' d0 hgl pl hf;obtain ⟨gr',og',rcap',ero,hgl,hfz,hcl⟩:=M7.out.fT hrl;rw [HRO.out] at ero;cases ero;have d0:=hcl k (by omega);have hf:=hfz (og+k);clear hcl hfz
    iterate 1 ((first | refine au rfl rfl fun K hK=>?_ | refine aq rfl rfl fun K hK=>?_);go_simp;refine hK _ ?_;clear hK K)
    refine aJ rfl rfl rfl (fun K hK=>?_);unfold aC;go_simp;refine hK _ _ ?_;clear hK K d0 hf;refine aH (fun _=>True) trivial (aB ?_);have M8:=Hz (M7.out.root (x:=cR (bF (mRoots O.ar (O.rt.take k)).1 x) x) (by rw [HRO.out,hrl]) (by rw [hrl];exact hlt));have HL8:=Hz (show Sl (w7.setCell ⟨gr,og+k,none⟩ (.int .i64 (cR (bF (mRoots O.ar (O.rt.take k)).1 x) x))) 3 1 (.slice bo O.ar.aT.2.length bc) O.ar.aT.2.length (O.ar.aT.2.map (Value.int .i64)) by
     have k1:=(Kz wr).drew;have h1:=HLS.out.ae k1 (fun _ _ h=>h);have h2:=h1.ae T.out.k (fun b hb e=>MD.out.qq HI.out h1 HLT.out hb (.inl (e.elim (fun e=>.inr (.inl e)) (fun e=>.inr (.inr (.inl e))))));refine h2.ae ((ab.refl (·=gr) w7).setCell (p:=⟨gr,og+k,none⟩) (.inl rfl) _) (fun b hb e=>?_);obtain ⟨_,l,h'⟩:=M7.out.hr.own (k:=gr) (by rw [HRO.out];rfl);obtain ⟨_,l2,h3⟩:=h2.own hb
     exact h3.ne h' (by decide) e)
    rw [HST.out.2] at M8;clear M7 T MD;go_wp2_with fail;go_roundw
    case rel=>exact ⟨k+1,hlt,by go_num,_,_,by rw [HST.out.1];exact M8.out,HI7.out,by have:=HS7.out;simpa using this,HL8.out⟩
    case measure=>simp [intOf];omega
   ·obtain rfl:k=12:=by omega
    have hr12:gV O.ar O.rt 12=(mRoots O.ar O.rt).2:=by
     unfold gV;rw [List.take_of_length_le (by rw [HOK.out.h12];exact Nat.le_refl _),List.drop_eq_nil_of_le (by rw [HOK.out.h12];exact Nat.le_refl _),List.append_nil]
    rw [hr12,List.take_of_length_le (by rw [HOK.out.h12];exact Nat.le_refl _)] at M;clear hr12 hlt hk;obtain ⟨w7,rfl⟩:∃ x:World,x=wr:=⟨wr,rfl⟩;have HLL:=Hz (show O.ar.aT.2.length≤1300 from Ar.gN O.ar 1300 _ _);have HLB:=Hz (show ∀ p ∈ O.ar.aT.2,0≤p∧p≤1300 from fun p hp=>by have:=oK O.ar 1300 _ _ p hp;omega);obtain ⟨L,hL⟩:∃ L,O.ar.aT.2=L:=⟨_,rfl⟩;have HLE:=Hz hL;rw [hL] at HLS HLL HLB HLT;obtain ⟨A1,hA1⟩:∃ A,(mRoots O.ar O.rt).1=A:=⟨_,rfl⟩;have HA1:=Hz hA1;rw [hA1] at M;obtain ⟨rt1,hrt1⟩:∃ l,(mRoots O.ar O.rt).2=l:=⟨_,rfl⟩;have HRT:=Hz hrt1;rw [hrt1] at M;rw [hL];clear hL hA1 hrt1;have hll:=HLL.out;go_wp2_with fail;go_loopw [82] (fun u wr=>∃ k:Nat,k≤L.length∧u=.int .i64 k∧∃ wv ev,MC w h wr pc O.ar.nur wv ev h.rv h.wv O.cd rt1 O.rg ⟨ef O.ar.nur O.cd ⟨A1,[],[]⟩ (L.take k),O.ar.grn,O.wt⟩∧jT (ef O.ar.nur O.cd ⟨A1,[],[]⟩ (L.take k)) k∧mI h pc O.ar.nur w4.heap.size wv ev∧w4.heap.size≤wr.heap.size∧Sl wr 3 1 (.slice bo L.length bc) L.length (L.map (Value.int .i64))) (fun u _=>L.length-(intOf u).toNat)
    case atStart=>exact ⟨0,Nat.zero_le _,rfl,_,_,M.out,⟨by simp [ef],(fun i hi=>by cases hi),(fun i hi=>by cases hi)⟩,HI.out,HSR.out,HLS.out⟩
    case round=>
     clear M HI HSR HLS wv ev;obtain ⟨k,hk,rfl,wv,ev,hM,hms,hI,hsz,hls⟩:=hrel;have M:=Hz hM;have HLS:=Hz hls;have HI:=Hz hI;have HSR:=Hz hsz;have HMS:=Hz hms;clear hM hls hI hsz hms;by_cases hlt:k<L.length
     ·obtain ⟨_,_,e',rd,-,-⟩:=HLS.out.rd;cases e';obtain ⟨ge,oe,rfl,d0⟩:=rd.int k hlt;have hgl:=(HLS.out.own rfl).1;have hin:=HLB.out (L.getD k 0) (by rw [Ld,Le hlt];exact List.getElem_mem hlt);have HDS:=Hz (ud (base:=O.ar.nur) (cd:=O.cd) (s:=⟨A1,[],[]⟩) hlt);have hml:=HMS.out.len;generalize L.getD k 0=i at *;obtain ⟨sk,hsk⟩:∃ s,ef O.ar.nur O.cd ⟨A1,[],[]⟩ (L.take k)=s:=⟨_,rfl⟩;rw [hsk] at M HMS HDS hml;clear hsk rd;have p1:=M.out.C.J.cells.2.2.2.2.2.2.1;have pl:=M.out.C.J.hp.lt;dsimp only at p1;have hcd:=HOK.out.hc;go_wp2_with fail;refine (zL h.pc h.cb O.ar.nur i O.cd wr M.out.hc (by omega) (by omega) (by omega) (by omega) (by omega)).mono ?_;rintro e w8 ⟨rfl,rfl⟩;clear p1 pl d0;cases hdi:db O.ar.nur O.cd i
      ·have HE:=Hz (HDS.out.trans (if_neg (by rw [hdi];decide)));clear hdi HDS;go_wp2_with fail;go_roundw
       case rel=>
        (repeat apply Exists.intro)
        exact ⟨⟨k+1,hlt,by go_num,wv,ev,by rw [HE.out];exact M.out,by rw [HE.out];exact HMS.out.more (by omega),HI.out,HSR.out,HLS.out⟩,rfl⟩
       case measure=>simp [intOf];omega
      ·have HE:=Hz (HDS.out.trans (if_pos hdi));clear hdi HDS;go_wp2_with fail;refine (uO i M.out.C.J hin.1 hin.2 (by dsimp only;have:=HLL.out;omega)).mono ?_;rintro e w8 ⟨rfl,t⟩;have hml2:=(HMS.out.look hin.1 hin.2);have HMS2:=Hz hml2;have hsm:=Sm.look M.out.C.ok.ok i;obtain ⟨_,_,_,kt,_⟩:=id t;have HL8:=Hz (HLS.out.ae kt (fun b hb ho=>M.out.qq HI.out HLS.out HLT.out hb (.inl ho)));obtain ⟨wv8,ev8,M8',o8⟩:=M.out.step (M.out.C.cut t ⟨hsm.ok,hml2.more (by have:=HLL.out;dsimp only;omega),by dsimp only;omega,by dsimp only;omega⟩ hsm.nur);have M8:=Hz M8';have HI8:=Hz (HI.out.step o8 HSR.out);have HS8:=Hz (Nat.le_trans HSR.out kt.size);clear t kt hml2 hsm M8' o8;go_wp2_with fail;go_roundw
       case rel=>
        (repeat apply Exists.intro)
        exact ⟨⟨k+1,hlt,by go_num,wv8,ev8,by rw [HE.out];exact M8.out,by rw [HE.out];exact HMS2.out.more (by omega),HI8.out,HS8.out,HL8.out⟩,rfl⟩
       case measure=>simp [intOf];omega
     ·obtain rfl:k=L.length:=by omega
      rw [List.take_length] at M;clear HMS HLS hlt hk;have HPRE:=Hz (show ig O=mDrain 2000 ⟨ef O.ar.nur O.cd ⟨A1,[],[]⟩ L,O.ar.grn,O.wt⟩ by unfold ig;rw [HLE.out,HA1.out]);go_wp2_with fail;refine (tq M.out.C).mono ?_;rintro e w8 ⟨rfl,t⟩;obtain ⟨wv8,ev8,M8',-⟩:=M.out.step t;rw [←HPRE.out] at M8';have M8:=Hz M8';clear t M8' M;have p2:=M8.out.C.J.cells.2.2.2.2.2.2.2.1;have pl:=M8.out.C.J.hp.lt;dsimp only at p2;go_wp2_with fail;refine ay (.free 0 (.free 1 (.free 2 (.free 4 (.pure 3 (.run 5 (.run 6 (.swi [] (.fin))))))))) [6] (fun w'=>w'.cell? ⟨h.p,2,none⟩=some (.pointer (some ⟨h.ps,0,none⟩))) (by kernel_rfl) (by kernel_rfl) p2 ?_
      iterate 5 ((first | refine au rfl rfl fun K hK=>?_ | refine aq rfl rfl fun K hK=>?_ | refine aF rfl rfl fun K hK=>?_ | refine az rfl rfl fun K hK=>?_ | refine aE rfl rfl fun K hK=>?_);go_simp;refine hK _ ?_;clear hK K)
      refine aM rfl rfl (fun K hK=>?_);unfold aC;go_simp;refine (yP (M8.out.same ((Kz w8).drew)).C.J).mono ?_;rintro e w9 ⟨b,rfl,hb,hk,hlo⟩;have M9:=Hz (M8.out.same ((Kz w8).drew.trans hk));have HB9:=Hz hb;have HLO9:=Hz (show w8.heap.size≤b from hlo);have p2':=M9.out.C.J.cells.2.2.2.2.2.2.2.1;dsimp only at p2';refine hK _ _ (fun _=>p2') ?_;clear hK K hb hk hlo p2 p2' pl
      skip
      refine aJ rfl rfl rfl (fun K hK=>?_);unfold aC;go_simp;have hq24:=HOK.out.hq;refine (tm h.ps (px ⟨h.p,h.pa,h.g,h.pc,h.ps,h.ro,pc,O.ar.nur⟩ b) ((ig O).s,(ig O).c) (fun k=>(CH.mk h.p h.pa h.g h.pc h.ps h.ro pc O.ar.nur).Own wv8 ev8 k∨k=b) h.rv h.wv O.rg (ig O).q w9 ⟨wv8,ev8,M9.out.C.J,M9.out.C.ok,M9.out.C.nb,HB9.out,rfl⟩ M9.out.C.S (fun k hk=>by
       rcases hk with ⟨h1 | h1,h2⟩
       ·exact M9.out.C.J.cK M9.out.C.S h1 h2
       ·subst h1;obtain ⟨_,U,h3,hU⟩:=M9.out.C.S.cG h2;refine HB9.out.ne h3 ?_ rfl
        rcases hU with rfl | rfl <;> decide) (by omega) (by rw [HPRE.out,mn];dsimp only;omega) (fun e he=>HOK.out.hg e he) (fun e he=>M9.out.C.q e he)).mono ?_
      rintro e w10 ⟨rfl,F',rv',qv',⟨wv',ev',hJ',hsc,hnb,hb',rfl⟩,hS',-,hk',-,hsf⟩;refine hK _ _ ?_;clear hK K;refine aH (fun _=>True) trivial (aB ?_);have HPS:=Hz (show fJ (px ⟨h.p,h.pa,h.g,h.pc,h.ps,h.ro,pc,O.ar.nur⟩ b).alive (px ⟨h.p,h.pa,h.g,h.pc,h.ps,h.ro,pc,O.ar.nur⟩ b).ae ((ig O).s,(ig O).c) O.rg (ig O).q=bL O from rfl);rw [HPS.out] at hJ' hsc hnb hS';have M10:=Hz (show ME w h w10 pc O.ar.nur wv' ev' rv' qv' O.cd rt1 (bz bS eO (bL O).1 (bL O).2.2) (bC bS eO (bL O).1 (bL O).2.1) (bL O).1.1 (bL O).1.2 by
       have hne:∀ {k:Nat} {l:List Value} {T:TypeId},ah w9 k l T→T≠102→¬ ((CH.mk h.p h.pa h.g h.pc h.ps h.ro pc O.ar.nur).Own wv8 ev8 k∨a7 h.ps h.rv h.wv k)→¬ (((CH.mk h.p h.pa h.g h.pc h.ps h.ro pc O.ar.nur).Own wv8 ev8 k∨k=b)∨a7 h.ps h.rv h.wv k):=fun hb hT hn hx=>by
        rcases hx with (h1 | h1) | h1
        ·exact hn (.inl h1)
        ·subst h1;exact hb.ne HB9.out hT rfl
        ·exact hn (.inr h1)
       have M:=M9.out;refine ⟨hJ',hS',M.hc.ae hk' (hne M.hc.hp (by decide) (M.type M.hc.hp (by decide))) (hne M.hc.hq (by decide) (M.type M.hc.hq (by decide))),M.hr.ae hk' (fun k hk=>?_),M.ap,M.K.then hk' (fun k hk=>?_),fun k hk=>?_⟩
       ·obtain ⟨_,l,h'⟩:=M.hr.own hk;exact hne h' (by decide) (M.mH hk)
       ·rcases hk with (h1 | h1) | h1
        ·exact M.own k (.inl h1)
        ·subst h1;exact .inr (Nat.le_trans M8.out.K.size HLO9.out)
        ·exact M.own k (.inr h1)
       ·rcases hsf k hk with h1 | h1
        ·exact M.own k (.inr h1)
        ·exact .inr (Nat.le_trans M.K.size h1))
      have HSC:=Hz (show fZ (bL O).1.1 (bL O).1.2 from hsc);have HNB:=Hz (show (O.ar.nur:Int)=(bL O).1.1.A.nur from hnb);clear hJ' hsc hnb hb' hS' hk' hsf HPS M8 M9;go_wp2_with fail;refine (Aj M10.out.J (HSC.out.ms.more (by have:=HSC.out.c1;omega))).mono ?_;rintro e w11 ⟨rfl,t⟩;have M11:=Hz (M10.out.bZ t);clear t M10;have p1:=M11.out.J.cells.2.2.2.2.2.2.1;have pl:=M11.out.J.hp.lt;dsimp only at p1;go_wp2_with fail;refine (uu h.pc h.cb O.ar.nur O.cd w11 M11.out.hc).mono ?_;rintro e w12 ⟨rfl,hc,hk⟩;have M12:=Hz (M11.out.cards hc hk);clear hc hk p1 pl M11;have p0:=M12.out.J.cells.2.2.2.2.2.1;have pl:=M12.out.J.hp.lt;dsimp only at p0;go_wp2_with fail;refine (r8 w12 M12.out.J.ha).mono ?_;rintro e w13 ⟨rfl,t⟩;have M13:=Hz (M12.out.bZ t);clear t M12 p0 pl;have HE:=Hz (show gQ O=(0,⟨(jF (bL O).1.1).clear,List.replicate O.cd.length false,rt1,bz bS eO (bL O).1 (bL O).2.2,bC bS eO (bL O).1 (bL O).2.1⟩) by
       unfold gQ;rw [if_neg (by have:=HF.out;omega),HRT.out];congr 2
       simp [List.eq_replicate_iff])
      have HRM:=Hz (HR.out.minor.2);go_wp2_with fail;go_ret;refine ⟨by rw [HE.out];rfl,?_⟩;obtain ⟨ψ,R'⟩:=HRM.out;have hok':=R'.ho;rw [HE.out] at hok' ⊢;refine M13.out.done ?_ hok';rw [HNB.out];have:=(Sm.gone HSC.out.ok).nur
      show ((bL O).1.1.A.nur:Int)=((jF (bL O).1.1).clear.nur:Int)
      rw [←this];rfl
end
end
section
structure dH (A:Ar) (T:Int→Prop):Prop where
 ok:A.ok
 bd:∀ i,T i→0≤i∧i<A.ws.length
 fd:∀ i,T i→∀ x ∈ A.fields i,x%4=1→T (x/4)
 two:∀ i,T i→((A.aj i).1=3∨(A.aj i).1=4)→A.load (i+1) ∈ A.fields i∧A.load (i+2) ∈ A.fields i
def Dm (T:Int→Prop) (x:Int):Prop:=x%4=1→T (x/4)
structure bK (A:Ar) (T:Int→Prop) (s:Gs) (L:Nat):Prop where
 len:s.lv.length=A.ws.length
 st:∀ i ∈ s.st,T i
 ep:∀ i ∈ s.ep,T i∧(A.aj i).1=4
 sum:s.st.length+s.ep.length+cy s.lv≤L
section
variable {A:Ar} {T:Int→Prop} {s:Gs} {L:Nat} {q:List (Int × Int)}
theorem bK.more {M:Nat} (h:bK A T s L) (hl:L≤M):bK A T s M:=⟨h.len,h.st,h.ep,by have:=h.sum;omega⟩
theorem rH {x:Int} (h:¬ aY s x=true):x%4=1∧ax s.lv (x/4)=false:=by
 unfold aY at h;by_cases h1:x%4=1
 ·refine ⟨h1,?_⟩;simpa [h1] using h
 ·exact absurd (by simp [h1]) h
theorem bK.mark {x:Int} (h:bK A T s L) (H:dH A T) (hx:Dm T x):bK A T (cJ s x) L∧jM (cJ s x)=jM s∧(cJ s x).ep=s.ep:=by
 unfold cJ;split
 ·exact ⟨h,rfl,rfl⟩
 ·rename_i hn;obtain ⟨h1,h2⟩:=rH hn;have hT:=hx h1;obtain ⟨b0,b1⟩:=H.bd _ hT;have hf:s.lv.getD (x/4).toNat false=false:=by
   unfold ax at h2;simpa [b0] using h2
  have hs:=mx (l:=s.lv) (i:=(x/4).toNat) (by rw [h.len];omega) hf;refine ⟨⟨by simp [h.len],fun i hi=>?_,h.ep,?_⟩,?_,rfl⟩
  ·rcases List.mem_append.1 hi with hi | hi
   ·exact h.st i hi
   ·rw [List.mem_singleton.1 hi];exact hT
  ·have:=h.sum;simp only [List.length_append,List.length_cons,List.length_nil];omega
  ·unfold jM;simp only [List.length_append,List.length_cons,List.length_nil];omega
theorem bK.marks (H:dH A T):∀ (l:List Int) {s:Gs},bK A T s L→(∀ x ∈ l,Dm T x)→bK A T (eg s l) L∧jM (eg s l)=jM s∧(eg s l).ep=s.ep
 | [],s,h,_=>⟨h,rfl,rfl⟩
 | x :: l,s,h,hl=>by
  obtain ⟨h1,e1,p1⟩:=h.mark H (hl x (by simp));obtain ⟨h2,e2,p2⟩:=bK.marks H l h1 (fun y hy=>hl y (by simp [hy]));exact ⟨h2,e2.trans e1,p2.trans p1⟩
theorem bK.look {i:Int} (h:bK A T s L) (H:dH A T) (hi:T i):bK A T (jk A s i) (L+1)∧jM (jk A s i)=jM s:=by
 unfold jk;split
 ·obtain ⟨h1,e1,-⟩:=bK.marks H (A.fields i) h (fun x hx=>H.fd i hi x hx);exact ⟨h1.more (by omega),e1⟩
 ·split
  ·rename_i h3;obtain ⟨h1,e1,-⟩:=h.mark H (x:=A.load (i+2)) (H.fd i hi _ (H.two i hi (.inl h3)).2);exact ⟨h1.more (by omega),e1⟩
  ·split
   ·rename_i h4;refine ⟨⟨h.len,h.st,fun j hj=>?_,?_⟩,rfl⟩
    ·rcases List.mem_append.1 hj with hj | hj
     ·exact h.ep j hj
     ·rw [List.mem_singleton.1 hj];exact ⟨hi,h4⟩
    ·have:=h.sum;simp only [List.length_append,List.length_cons,List.length_nil];omega
   ·exact ⟨h.more (by omega),rfl⟩
theorem bK.drop (h:bK A T s L) (hne:s.st≠[]):bK A T { s with st:=s.st.dropLast } (L-1)∧jM { s with st:=s.st.dropLast } + 1=jM s∧T (s.st.getLastD 0):=by
 obtain ⟨hm,he⟩:=nH hne;have hl:s.st.dropLast.length+1=s.st.length:=by
  rw [List.length_dropLast];have:=List.length_pos_iff.2 hne;omega
 refine ⟨⟨h.len,fun i hi=>h.st i (List.dropLast_subset _ hi),h.ep,?_⟩,?_,h.st _ hm⟩
 ·have:=h.sum;dsimp only;omega
 ·unfold jM;dsimp only;omega
theorem bK.pop (h:bK A T s L) (H:dH A T) (hne:s.st≠[]):bK A T (iL A s) L∧jM (iL A s)+1=jM s:=by
 obtain ⟨h1,e1,hT⟩:=h.drop hne;obtain ⟨h2,e2⟩:=h1.look H hT;have:=h.sum;have hp:=List.length_pos_iff.2 hne;exact ⟨h2.more (by omega),by unfold iL;omega⟩
theorem bK.nI (H:dH A T):∀ (n:Nat) {s:Gs},bK A T s L→jM s<n→bK A T (jPops A n s) L∧(jPops A n s).st=[]∧jM (jPops A n s)≤jM s
 | 0,s,h,hm=>by omega
 | n+1,s,h,hm=>by
  unfold jPops;split
  ·rename_i he;exact ⟨h,he,Nat.le_refl _⟩
  ·rename_i hne;obtain ⟨h1,e1⟩:=h.pop H hne;obtain ⟨h2,e2,e3⟩:=bK.nI H n h1 (by omega);exact ⟨h2,e2,by omega⟩
theorem bK.sF {i:Int} (h:bK A T s L) (H:dH A T) (hi:T i∧(A.aj i).1=4):bK A T (fu A s i) L∧jM (fu A s i)=jM s∧(fu A s i).ep=s.ep:=by
 unfold fu;split
 ·exact h.mark H (H.fd i hi.1 _ (H.two i hi.1 (.inr hi.2)).2)
 ·exact ⟨h,rfl,rfl⟩
theorem bK.mr (H:dH A T):∀ (l:List Int) {s:Gs},bK A T s L→(∀ i ∈ l,T i∧(A.aj i).1=4)→bK A T (gT A s l) L∧jM (gT A s l)=jM s
 | [],s,h,_=>⟨h,rfl⟩
 | i :: l,s,h,hl=>by
  obtain ⟨h1,e1,-⟩:=h.sF H (hl i (by simp));obtain ⟨h2,e2⟩:=bK.mr H l h1 (fun j hj=>hl j (by simp [hj]));exact ⟨h2,e2.trans e1⟩
theorem bK.eL (H:dH A T):∀ (q:List (Int × Int)) {s:Gs},bK A T s L→(∀ e ∈ q,Dm T e.1∧Dm T e.2)→bK A T (wakeM aY kM s q).1 L∧jM (wakeM aY kM s q).1=jM s
 | [],s,h,_=>⟨h,rfl⟩
 | e :: q,s,h,hq=>by
  unfold wakeM;split
  ·obtain ⟨h1,e1,-⟩:=h.mark H (hq e (by simp)).2;obtain ⟨h2,e2⟩:=bK.eL H q (s:=(kM s e.2).1) h1 (fun f hf=>hq f (by simp [hf]));exact ⟨h2,e2.trans e1⟩
  ·exact bK.eL H q h (fun f hf=>hq f (by simp [hf]))
theorem xA {l:List Int} {k:Nat} (h:k<l.length):gT A s (l.take (k+1))=fu A (gT A s (l.take k)) (l.getD k 0):=by
 unfold gT;rw [←List.take_append_getElem h,List.foldl_append,Ld,Le h];rfl
theorem oL {l:List Int} {k:Nat} (h:k<l.length):eg s (l.take (k+1))=cJ (eg s (l.take k)) (l.getD k 0):=by
 unfold eg;rw [←List.take_append_getElem h,List.foldl_append,Ld,Le h];rfl
theorem bK.round (h:bK A T s L) (H:dH A T) (hq:∀ e ∈ q,Dm T e.1∧Dm T e.2) (hm:jM s<2000):bK A T (df A q s) L∧jM (df A q s)≤jM s∧((df A q s).st≠[]→cy (df A q s).lv<cy (jPops A 2000 s).lv)∧jM (jPops A 2000 s)≤jM s:=by
 obtain ⟨h1,e1,m1⟩:=bK.nI H 2000 h hm;obtain ⟨h2,m2⟩:=bK.mr H (jPops A 2000 s).ep h1 h1.ep;obtain ⟨h3,m3⟩:=bK.eL H q h2 hq;refine ⟨h3,?_,fun hne=>?_,m1⟩
 ·unfold df;omega
 ·have:=List.length_pos_iff.2 hne;have e0:(jPops A 2000 s).st.length=0:=by rw [e1];rfl
  have m4:(df A q s).st.length+cy (df A q s).lv=(jPops A 2000 s).st.length+cy (jPops A 2000 s).lv:=m3.trans m2;clear m1 m2 m3;omega
theorem qt (x:Int) (h:bK A T s L) (H:dH A T) (hx:Dm T x):cy (cJ s x).lv≤cy s.lv:=by
 have:=(h.mark H hx).2.1;unfold cJ at this ⊢;split
 ·exact Nat.le_refl _
 ·rename_i hn;rw [if_neg hn] at this;unfold jM at this;simp only [List.length_append,List.length_cons,List.length_nil] at this;dsimp only;omega
theorem oM (H:dH A T):∀ (l:List Int) {s:Gs},bK A T s L→(∀ x ∈ l,Dm T x)→cy (eg s l).lv≤cy s.lv
 | [],s,h,_=>Nat.le_refl _
 | x :: l,s,h,hl=>Nat.le_trans (oM H l (h.mark H (hl x (by simp))).1 (fun y hy=>hl y (by simp [hy]))) (qt x h H (hl x (by simp)))
theorem vR {i:Int} (h:bK A T s L) (H:dH A T) (hi:T i):cy (jk A s i).lv≤cy s.lv:=by
 unfold jk;split
 ·exact oM H _ h (fun x hx=>H.fd i hi x hx)
 ·split
  ·rename_i h3;exact qt _ h H (H.fd i hi _ (H.two i hi (.inl h3)).2)
  ·split
   ·exact Nat.le_refl _
   ·exact Nat.le_refl _
theorem xB (h:bK A T s L) (H:dH A T) (hne:s.st≠[]):cy (iL A s).lv≤cy s.lv:=by
 obtain ⟨h1,e1,hT⟩:=h.drop hne;exact vR h1 H hT
theorem mJ (H:dH A T):∀ (n:Nat) {s:Gs},bK A T s L→cy (jPops A n s).lv≤cy s.lv
 | 0,s,h=>Nat.le_refl _
 | n+1,s,h=>by
  unfold jPops;split
  ·exact Nat.le_refl _
  ·rename_i hne;exact Nat.le_trans (mJ H n (h.pop H hne).1) (xB h H hne)
theorem ue (h:bK A T s L) (H:dH A T) (hq:∀ e ∈ q,Dm T e.1∧Dm T e.2) (hm:jM s<2000):cy (df A q s).lv≤cy s.lv:=by
 obtain ⟨h1,e1,m1⟩:=bK.nI H 2000 h hm;obtain ⟨h2,m2⟩:=bK.mr H (jPops A 2000 s).ep h1 h1.ep;obtain ⟨h3,m3⟩:=bK.eL H q h2 hq;have e0:(jPops A 2000 s).st.length=0:=by rw [e1];rfl
 have m4:(df A q s).st.length+cy (df A q s).lv=(jPops A 2000 s).st.length+cy (jPops A 2000 s).lv:=m3.trans m2;have:=mJ H 2000 h;omega
theorem yR (s:Gs) (x:Int):(cJ s x).ep=s.ep:=by unfold cJ;split <;> rfl
theorem uP (A:Ar):∀ (l:List Int) (s:Gs),(gT A s l).ep=s.ep
 | [],s=>rfl
 | i :: l,s=>by
  show (gT A (fu A s i) l).ep=_
  rw [uP A l];unfold fu;split
  ·exact yR _ _
  ·rfl
end
theorem aL.shut {O:Wo} {W:Wd} {φ:Int→Int} (R:aL O W φ):dH O.ar (fun p=>∃ i,W.live i∧φ i=p):=by
 have key:∀ i,W.live i→∀ x ∈ O.ar.fields (φ i), ∃ v ∈ (W.th i).fs,x=aD φ v:=fun i hi x hx=>by
  unfold Ar.fields at hx;rw [R.th i hi] at hx;simp only [List.mem_map,List.mem_range] at hx;obtain ⟨j,hj,rfl⟩:=hx;have hj':j<(W.th i).fs.length:=by omega
  exact ⟨(W.th i).fs[j],List.getElem_mem _,R.fl i hi j _ (Le hj')⟩
 refine ⟨R.ho.ha,?_,?_,?_⟩
 ·rintro p ⟨i,hi,rfl⟩;have h1:=R.ho.ha.h1;have h2:=R.ho.ha.h2;have h3:=R.ho.ha.h3;cases ho:(W.th i).aP
  ·have:=Tile.mem R.ty _ (R.iny i hi ho);have:=O.ar.aU (φ i);omega
  ·have:=Tile.mem R.tz _ (R.ino i hi ho);have:=O.ar.aU (φ i);omega
 ·rintro p ⟨i,hi,rfl⟩ x hx h1;obtain ⟨v,hv,rfl⟩:=key i hi x hx;have hok:=R.hw.tv i hi v hv;have h3:=(fG hok).1 h1;refine ⟨v.2,Wd.bh hok h3,?_⟩;rw [bI φ h3];omega
 ·rintro p ⟨i,hi,rfl⟩ h34;rw [R.th i hi] at h34;have hf:=R.hw.tk i hi;have h2:(W.th i).fs.length=2:=by
   unfold bs at hf;simp at hf;dsimp only at h34;rcases hf with (hf | hf) | hf <;> omega
  unfold Ar.fields;rw [R.th i hi];simp only [h2];exact ⟨List.mem_map.2 ⟨0,by simp,by simp⟩,List.mem_map.2 ⟨1,by simp,by congr 1;omega⟩⟩
end
end Go.Proofs.YtjifdalflepcoacGreat
