/-
  Parts of the proof, merged: what the functions do, and plain laws.
-/
import Derived.Test.YtjifdalflepcoabGGBP9
import Derived.Test.YtjifdalflepcoabGGBP1
set_option maxHeartbeats 16000000
set_option maxRecDepth 100000
set_option linter.unusedVariables false
set_option linter.unusedSimpArgs false
namespace Go.Proofs.Ytjifdalflepcoab
section
open Go.RowKit
section
variable {w w':World}
theorem mZ (d:Int):(aJ d=-1)∨(aJ d=0∧d=15)∨(aJ d=0∧d=16)∨(aJ d=6∧d=9)∨(aJ d=3∧d=10)∨((aJ d=1∨aJ d=3∨aJ d=6∨aJ d=7)∧d≠9∧d≠10∧d≠15∧d≠16):=by
 unfold aJ;split
 ·omega
 ·split
  ·omega
  ·split
   ·omega
   ·split
    ·omega
    ·split <;> omega
theorem kI (n o:Int) (lo:Option Addr) (lc m:Nat) (times:Int) (major:Bool) (xs:List Int) (w:World) (h0:Rd w lo (xs.map (Value.int .i64))) (hx:xs.length=m*6) (hb:∀ x ∈ xs,dz x) :
  Calls Try.prog 9 #[.int .i64 n, .int .i64 o, .slice lo m lc, .int .i64 times, .bool major] w fun e w'=>e=.returned (.bool true)∧aa (fun _=>False) w w':=by
 have H0:=Hz h0;have HX:=Hz hx;have HBD:=Hz hb;clear h0 hx hb;go_enter Try.func9,Try.ntmps9;go_wp2_with fail;refine (gT _).mono ?_;rintro e w1 ⟨rfl,hk1⟩;have HK1:=Hz hk1;clear hk1;by_cases hm:200<m
 ·go_wp2_with fail;go_ret;exact ⟨rfl,HK1.out⟩
 have hm200:m≤200:=by omega
 cases hfit:Ar.fits n o
 ·go_wp2_with fail;refine (kX n o _ hfit).mono ?_;rintro e w2 ⟨rfl,hk2⟩;have HK2:=Hz (HK1.out.trans hk2);clear hk2;have hb1:ah ((w2.alloc (.cells #[.pointer none] 91)).alloc (.cells #[.int .i64 1, .int .i64 (-1)] 26)) (w2.heap.size+1) [.int .i64 1, .int .i64 (-1)] 26:=ah.newAt _ (by simp) rfl;have b0:=hb1.cell 0;have bl:=hb1.lt;simp only [Lz,Ls] at b0 bl;clear hb1;go_wp2_with fail;go_ret;exact ⟨rfl,(HK2.out.alloc _).alloc _⟩
 have hno:16≤n∧n≤256∧0≤o∧o≤1024:=by simp [Ar.fits] at hfit;omega
 have HNO:=Hz hno;clear hno;go_wp2_with fail;refine (iV n o _ hfit).mono ?_;rintro e w2 ⟨h,rfl,A2,k2,o2⟩;have M2:dH w w2 h.p h _:=⟨A2,rfl,HK1.out.trans k2,fun k hk=>Nat.le_trans HK1.out.size (o2 k hk)⟩;have ka:=((Kz w2).alloc (.cells #[.pointer (some ⟨h.p,0,none⟩)] 91)).alloc (.cells #[.int .i64 0, .int .i64 0] 26);have S3:bN w ((w2.alloc (.cells #[.pointer (some ⟨h.p,0,none⟩)] 91)).alloc (.cells #[.int .i64 0, .int .i64 0] 26)) h.p w2.heap.size (Wd.new n o):=⟨⟨h,M2.same ka⟩,(ah.newAt _ rfl rfl).alloc _,M2.K.size⟩;have hb1:ah ((w2.alloc (.cells #[.pointer (some ⟨h.p,0,none⟩)] 91)).alloc (.cells #[.int .i64 0, .int .i64 0] 26)) (w2.heap.size+1) [.int .i64 0, .int .i64 0] 26:=ah.newAt _ (by simp) rfl;have b0:=hb1.cell 0;have bl:=hb1.lt;simp only [Lz,Ls] at b0;have HI:=Hz S3;clear hb1 ka S3 M2 A2 k2 o2 HK1 hfit;go_upto_region 6 with (fail)
 generalize (w2.alloc (.cells #[.pointer (some ⟨h.p,0,none⟩)] 91)).alloc (.cells #[.int .i64 0, .int .i64 0] 26)=w3 at *;generalize h.p=p at *;generalize w2.heap.size=gb at *;go_upto_region 8 with (fail)
 clear b0 bl;obtain ⟨q,hq,hq4⟩:∃ q:Nat,wrap64 ((IntKind.u64.wrap times).tmod 4)=(q:Int)∧q<4:=by
  have e:(IntKind.u64.wrap times).tmod 4=((pC times%4:Nat):Int):=by rw [qn,Int.tmod_eq_emod_of_nonneg (Int.natCast_nonneg _)];rfl
  have h4:pC times%4<4:=Nat.mod_lt _ (by decide);rw [e];generalize pC times%4=x at *;clear e;have h5:(x:Int)<4:=by omega
  exact ⟨x,IntWalk.wrap64_in (x:Int) ⟨by omega,by omega⟩,h4⟩
 go_upto_region 9 with (fail);rw [hq];have S3:=Hz HI.out;clear HI hq;have HQ4:=Hz hq4;go_upto_region 10 with (fail);have D4:=jx S3.out (by simp [Wd.new]) ⟨8,0,0,0,0,0⟩;rw [sC HNO.out.1] at D4;dsimp only at D4;have HD4:=Hz D4;clear D4;go_wp2_with fail;refine HD4.out.mono ?_;rintro e w4 ⟨rfl,hs4⟩;have S4:=Hz hs4;clear hs4 HD4 S3;have D5:=jx S4.out (by simp [sB]) ⟨1,2,0,0,0,77⟩;rw [sD] at D5;dsimp only at D5;have HD5:=Hz D5;clear D5;go_wp2_with fail;refine HD5.out.mono ?_;rintro e w5 ⟨rfl,hs5⟩;have S5:=Hz hs5;clear hs5 HD5 S4;have D6:=jx S5.out (by simp [lF]) ⟨5,1,2,0,0,3⟩;rw [sE HNO.out.1] at D6;dsimp only at D6;have HD6:=Hz D6;clear D6;go_wp2_with fail;refine HD6.out.mono ?_;rintro e w6 ⟨rfl,hs6⟩;have S6:=Hz hs6;clear hs6 HD6 S5;go_wp2_with fail;refine dD (fun i=>Nat.blt 23 i || Nat.beq i 15 || Nat.beq i 16) (fun s wr=>∃ c:Nat,c≤q∧s 16=.int .i64 c∧s 15=.bool true∧bN w wr p gb (ei n o c (3,1))) (fun s _=>q-(intOf (s 16)).toNat) ?_ ?_
 ·exact ⟨0,Nat.zero_le _,rfl,rfl,S6.out⟩
 ·intro u0 wr hrel K hK;clear S6;obtain ⟨c,hk,e16,e15,hI⟩:=hrel;have e16:u0 16=.int .i64 c:=e16;have e15:u0 15=.bool true:=e15;have SL:=Hz hI;clear hI;simp only [cV,overL,List.toList_toArray,Nat.blt,Nat.beq,Nat.ble,Nat.reduceAdd,Bool.or_false,Bool.false_or,Bool.or_true,Bool.true_or,Bool.and_true,Bool.true_and,Bool.and_false,Bool.false_and,cond_true,cond_false];rw [e15,e16];have E16:=Hz e16;clear e15 e16;by_cases hlt:c<q
  ·have hki:(c:Int)<q:=by omega
   have D7:=jx SL.out (by simp [ei]) ⟨9,0,1,0,0,0⟩;rw [sG (by have:=HQ4.out;omega)] at D7;dsimp only at D7;have HD7:=Hz D7;clear D7;go_wp2_with fail;refine HD7.out.mono ?_;rintro e w7 ⟨rfl,hs7⟩;have S7:=Hz hs7;clear hs7 HD7 SL;go_wp2_with fail;refine ⟨⟨by kernel_rfl,?rel⟩,?measure⟩
   case rel=>exact ⟨c+1,hlt,by go_num,rfl,S7.out⟩
   case measure=>exact bE (by go_num) (by first | rfl | exact E16.out) hlt
  ·obtain rfl:c=q:=by omega
   clear hlt hk;have D8:=jx SL.out (by simp [ei]) ⟨2,1,0,0,0,0⟩;rw [sH] at D8;dsimp only at D8;have HD8:=Hz D8;clear D8;go_wp2_with fail;refine HD8.out.mono ?_;rintro e w8 ⟨rfl,hs8⟩;have S8:=Hz (show ∃ W,bN w w8 p gb W∧W.Gd c∧W.T.length≤0+2 from ⟨_,hs8,qx HNO.out (by have:=HQ4.out;omega),by simp [ei]⟩);clear hs8 HD8 SL;go_wp2_with fail;refine dD (fun i=>Nat.blt 23 i || Nat.beq i 17 || Nat.beq i 18 || Nat.beq i 19) (fun s wr=>∃ k:Nat,k≤m∧s 17=.int .i64 k∧∃ W,bN w wr p gb W∧W.Gd c∧W.T.length≤k+2) (fun s _=>m-(intOf (s 17)).toNat) ?_ ?_
   ·exact ⟨0,Nat.zero_le _,rfl,S8.out⟩
   ·intro u1 wr hrel K hK;clear S8;obtain ⟨k,hk,e17,W,hS,hG,hT⟩:=hrel;have e17:u1 17=.int .i64 k:=e17;have SK:=Hz hS;have HG:=Hz hG;have HT:=Hz hT;clear hS hG hT;simp only [cV,overL,List.toList_toArray,Nat.blt,Nat.beq,Nat.ble,Nat.reduceAdd,Bool.or_false,Bool.false_or,Bool.or_true,Bool.true_or,Bool.and_true,Bool.true_and,Bool.and_false,Bool.false_and,cond_true,cond_false];rw [e17];have E17:=Hz e17;clear e17;by_cases hlt:k<m
    ·have hki:(k:Int)<m:=by omega
     obtain ⟨gs,os,rfl,hgl,d0⟩:=H0.out.nth (k*6) (by rw [HX.out];omega);obtain ⟨_,_,e',-,d1⟩:=H0.out.nth (k*6+1) (by rw [HX.out];omega);cases e';obtain ⟨_,_,e',-,d2⟩:=H0.out.nth (k*6+2) (by rw [HX.out];omega);cases e';obtain ⟨_,_,e',-,d3⟩:=H0.out.nth (k*6+3) (by rw [HX.out];omega);cases e';obtain ⟨_,_,e',-,d4⟩:=H0.out.nth (k*6+4) (by rw [HX.out];omega);cases e';obtain ⟨_,_,e',-,d5⟩:=H0.out.nth (k*6+5) (by rw [HX.out];omega);cases e';rw [←Nat.add_assoc] at d1 d2 d3 d4 d5;have HZ:=Hz (show dz (xs.getD (k*6+5) 0) from HBD.out _ (by rw [Ld,Le (by rw [HX.out];omega)];exact List.getElem_mem _));generalize xs.getD (k*6) 0=d at *;generalize xs.getD (k*6+1) 0=r at *;generalize xs.getD (k*6+2) 0=a at *;generalize xs.getD (k*6+3) 0=b at *;generalize xs.getD (k*6+4) 0=i at *;generalize xs.getD (k*6+5) 0=z at *;have hcl:∀ w',aa (fun _=>False) w w'→w'.cell? ⟨gs,os+k*6,none⟩=some (.int .i64 d)∧w'.cell? ⟨gs,os+k*6+1,none⟩=some (.int .i64 r)∧w'.cell? ⟨gs,os+k*6+2,none⟩=some (.int .i64 a)∧w'.cell? ⟨gs,os+k*6+3,none⟩=some (.int .i64 b)∧w'.cell? ⟨gs,os+k*6+4,none⟩=some (.int .i64 i)∧w'.cell? ⟨gs,os+k*6+5,none⟩=some (.int .i64 z):=fun w' kk=>by
      have hcc:∀ q,w'.cell? ⟨gs,q,none⟩=w.cell? ⟨gs,q,none⟩:=fun q=>World.cell?_of_block (w:=w) (a:=⟨gs,q,none⟩) (kk.block gs hgl (fun h=>h));exact ⟨(hcc _).trans d0,(hcc _).trans d1,(hcc _).trans d2,(hcc _).trans d3,(hcc _).trans d4,(hcc _).trans d5⟩
     have HCL:=Hz hcl;clear d0 d1 d2 d3 d4 d5 hcl;obtain ⟨d0,d1,d2,d3,d4,d5⟩:=HCL.out _ (SK.out.K);have hgl:=Nat.lt_of_lt_of_le hgl (aa.size (SK.out.K));go_upto_region 21 with (fail)
     have ka:=(Kz wr).alloc (.cells #[.int .i64 d, .int .i64 r, .int .i64 a, .int .i64 b, .int .i64 i, .int .i64 z] 98);have XB:=Hz (ah.new wr [.int .i64 d, .int .i64 r, .int .i64 a, .int .i64 b, .int .i64 i, .int .i64 z] 98);have SA:=Hz (SK.out.same ka);clear ka SK d0 d1 d2 d3 d4 d5 hgl;generalize wr.alloc (.cells #[.int .i64 d, .int .i64 r, .int .i64 a, .int .i64 b, .int .i64 i, .int .i64 z] 98)=wa at *;generalize wr.heap.size=xb at *;have x0:=XB.out.cell 0;have xl:=XB.out.lt;simp only [Lz] at x0;go_wp2_with fail;refine (oT d _).mono ?_;rintro e w9 ⟨rfl,hk9⟩;have XB9:=Hz (hk9.ai XB.out (fun h=>h));have S9:=Hz (SA.out.same hk9);clear hk9 XB SA x0 xl;have x0:=XB9.out.cell 0;have x1:=XB9.out.cell 1;have x2:=XB9.out.cell 2;have x3:=XB9.out.cell 3;have x4:=XB9.out.cell 4;have x5:=XB9.out.cell 5;have xl:=XB9.out.lt;simp only [Lz,Ls] at x0 x1 x2 x3 x4 x5;have hkinds:=mZ d;generalize hu:aJ d=u at *;have HUU:=Hz hu;clear hu;rcases hkinds with h | ⟨h,h2⟩ | ⟨h,h2⟩ | ⟨h,h2⟩ | ⟨h,h2⟩ | ⟨h,h9,h10,h15,h16⟩
     ·subst h;have HX:=Hz (show ∃ W,bN w w9 p gb W∧W.Gd c∧W.T.length≤(k+1)+2 from ⟨W,S9.out,HG.out,by have:=HT.out;omega⟩);go_wp2_with fail;refine ⟨⟨by kernel_rfl,?rel⟩,?measure⟩
      case rel=>exact ⟨k+1,hlt,by go_num,HX.out⟩
      case measure=>exact bE (by go_num) (by first | rfl | exact E17.out) hlt
     ·subst h h2;have HX:=Hz (show ∃ W,bN w w9 p gb W∧W.Gd c∧W.T.length≤(k+1)+2 from ⟨W,S9.out,HG.out,by have:=HT.out;omega⟩);go_wp2_with fail;refine ⟨⟨by kernel_rfl,?rel⟩,?measure⟩
      case rel=>exact ⟨k+1,hlt,by go_num,HX.out⟩
      case measure=>exact bE (by go_num) (by first | rfl | exact E17.out) hlt
     ·subst h h2;have HX:=Hz (show ∃ W,bN w w9 p gb W∧W.Gd c∧W.T.length≤(k+1)+2 from ⟨W,S9.out,HG.out,by have:=HT.out;omega⟩);go_wp2_with fail;refine ⟨⟨by kernel_rfl,?rel⟩,?measure⟩
      case rel=>exact ⟨k+1,hlt,by go_num,HX.out⟩
      case measure=>exact bE (by go_num) (by first | rfl | exact E17.out) hlt
     ·subst h h2;have HX:=Hz (show ∃ W,bN w w9 p gb W∧W.Gd c∧W.T.length≤(k+1)+2 from ⟨W,S9.out,HG.out,by have:=HT.out;omega⟩);go_wp2_with fail;refine ⟨⟨by kernel_rfl,?rel⟩,?measure⟩
      case rel=>exact ⟨k+1,hlt,by go_num,HX.out⟩
      case measure=>exact bE (by go_num) (by first | rfl | exact E17.out) hlt
     ·subst h h2;have HX:=Hz (show ∃ W,bN w w9 p gb W∧W.Gd c∧W.T.length≤(k+1)+2 from ⟨W,S9.out,HG.out,by have:=HT.out;omega⟩);go_wp2_with fail;refine ⟨⟨by kernel_rfl,?rel⟩,?measure⟩
      case rel=>exact ⟨k+1,hlt,by go_num,HX.out⟩
      case measure=>exact bE (by go_num) (by first | rfl | exact E17.out) hlt
     have d9:(d == 9)=false:=by simpa using h9
     have d10:(d == 10)=false:=by simpa using h10
     have d15:(d == 15)=false:=by simpa using h15
     have d16:(d == 16)=false:=by simpa using h16
     clear h9 h10 h15 h16;rcases h with h | h | h | h
     ·subst h;by_cases hr:r≤2
      ·clear x1;have x1:=XB9.out.cell 1;simp only [Lz,Ls] at x1;have HX:=Hz (show ∃ W,bN w w9 p gb W∧W.Gd c∧W.T.length≤(k+1)+2 from ⟨W,S9.out,HG.out,by have:=HT.out;omega⟩);go_wp2_with fail;refine ⟨⟨by kernel_rfl,?rel⟩,?measure⟩
       case rel=>exact ⟨k+1,hlt,by go_num,HX.out⟩
       case measure=>exact bE (by go_num) (by first | rfl | exact E17.out) hlt
      ·have hr:2<r:=by omega
       have g0:=S9.out.G.cell 0;have gl:=S9.out.G.lt;simp only [Lz] at g0;have HD:=Hz (S9.out.db (by have:=HT.out;omega) ⟨d,r,a,b,i,z⟩);have HGD:=Hz (HG.out.do (x:=⟨d,r,a,b,i,z⟩) (by dsimp only;simpa using d9) (by dsimp only;simpa using d10) (by dsimp only;rw [HUU.out];exact fun _=>hr));go_wp2_with fail;refine HD.out.mono ?_;rintro e w10 ⟨rfl,hs⟩;have HX:=Hz (show ∃ W,bN w w10 p gb W∧W.Gd c∧W.T.length≤(k+1)+2 from ⟨_,hs,HGD.out,by have:=Wd.eC W ⟨d,r,a,b,i,z⟩;have:=HT.out;omega⟩);clear hs HD HGD;go_wp2_with fail;refine ⟨⟨by kernel_rfl,?rel⟩,?measure⟩
       case rel=>exact ⟨k+1,hlt,by go_num,HX.out⟩
       case measure=>exact bE (by go_num) (by first | rfl | exact E17.out) hlt
     ·subst h;by_cases hr:r≤2
      ·have HR:=Hz hr;have HX:=Hz (show ∃ W,bN w w9 p gb W∧W.Gd c∧W.T.length≤(k+1)+2 from ⟨W,S9.out,HG.out,by have:=HT.out;omega⟩);go_wp2_with fail;refine ⟨⟨by kernel_rfl,?rel⟩,?measure⟩
       case rel=>exact ⟨k+1,hlt,by go_num,HX.out⟩
       case measure=>exact bE (by go_num) (by first | rfl | exact E17.out) hlt
      have hr:2<r:=by omega
      by_cases ha:a=0
      ·subst ha;have HX:=Hz (show ∃ W,bN w w9 p gb W∧W.Gd c∧W.T.length≤(k+1)+2 from ⟨W,S9.out,HG.out,by have:=HT.out;omega⟩);go_wp2_with fail;refine ⟨⟨by kernel_rfl,?rel⟩,?measure⟩
       case rel=>exact ⟨k+1,hlt,by go_num,HX.out⟩
       case measure=>exact bE (by go_num) (by first | rfl | exact E17.out) hlt
      ·have hab:(a == 0)=false:=by simpa using ha
       clear ha;have g0:=S9.out.G.cell 0;have gl:=S9.out.G.lt;simp only [Lz] at g0;have HD:=Hz (S9.out.db (by have:=HT.out;omega) ⟨d,r,a,b,i,z⟩);have HGD:=Hz (HG.out.do (x:=⟨d,r,a,b,i,z⟩) (by dsimp only;simpa using d9) (by dsimp only;simpa using d10) (by dsimp only;rw [HUU.out];exact fun _=>hr));go_wp2_with fail;refine HD.out.mono ?_;rintro e w10 ⟨rfl,hs⟩;have HX:=Hz (show ∃ W,bN w w10 p gb W∧W.Gd c∧W.T.length≤(k+1)+2 from ⟨_,hs,HGD.out,by have:=Wd.eC W ⟨d,r,a,b,i,z⟩;have:=HT.out;omega⟩);clear hs HD HGD;go_wp2_with fail;refine ⟨⟨by kernel_rfl,?rel⟩,?measure⟩
       case rel=>exact ⟨k+1,hlt,by go_num,HX.out⟩
       case measure=>exact bE (by go_num) (by first | rfl | exact E17.out) hlt
     ·subst h;by_cases ha:a=0
      ·subst ha;have HX:=Hz (show ∃ W,bN w w9 p gb W∧W.Gd c∧W.T.length≤(k+1)+2 from ⟨W,S9.out,HG.out,by have:=HT.out;omega⟩);go_wp2_with fail;refine ⟨⟨by kernel_rfl,?rel⟩,?measure⟩
       case rel=>exact ⟨k+1,hlt,by go_num,HX.out⟩
       case measure=>exact bE (by go_num) (by first | rfl | exact E17.out) hlt
      have hab:(a == 0)=false:=by simpa using ha
      clear ha;by_cases hb2:b=0
      ·subst hb2;have HX:=Hz (show ∃ W,bN w w9 p gb W∧W.Gd c∧W.T.length≤(k+1)+2 from ⟨W,S9.out,HG.out,by have:=HT.out;omega⟩);go_wp2_with fail;refine ⟨⟨by kernel_rfl,?rel⟩,?measure⟩
       case rel=>exact ⟨k+1,hlt,by go_num,HX.out⟩
       case measure=>exact bE (by go_num) (by first | rfl | exact E17.out) hlt
      ·have hbb:(b == 0)=false:=by simpa using hb2
       clear hb2;have g0:=S9.out.G.cell 0;have gl:=S9.out.G.lt;simp only [Lz] at g0;have HD:=Hz (S9.out.db (by have:=HT.out;omega) ⟨d,r,a,b,i,z⟩);have HGD:=Hz (HG.out.do (x:=⟨d,r,a,b,i,z⟩) (by dsimp only;simpa using d9) (by dsimp only;simpa using d10) (by dsimp only;rw [HUU.out];exact fun h=>absurd h (by decide)));go_wp2_with fail;refine HD.out.mono ?_;rintro e w10 ⟨rfl,hs⟩;have HX:=Hz (show ∃ W,bN w w10 p gb W∧W.Gd c∧W.T.length≤(k+1)+2 from ⟨_,hs,HGD.out,by have:=Wd.eC W ⟨d,r,a,b,i,z⟩;have:=HT.out;omega⟩);clear hs HD HGD;go_wp2_with fail;refine ⟨⟨by kernel_rfl,?rel⟩,?measure⟩
       case rel=>exact ⟨k+1,hlt,by go_num,HX.out⟩
       case measure=>exact bE (by go_num) (by first | rfl | exact E17.out) hlt
     ·subst h;by_cases hr:r≤2
      ·have HR:=Hz hr;have HX:=Hz (show ∃ W,bN w w9 p gb W∧W.Gd c∧W.T.length≤(k+1)+2 from ⟨W,S9.out,HG.out,by have:=HT.out;omega⟩);go_wp2_with fail;refine ⟨⟨by kernel_rfl,?rel⟩,?measure⟩
       case rel=>exact ⟨k+1,hlt,by go_num,HX.out⟩
       case measure=>exact bE (by go_num) (by first | rfl | exact E17.out) hlt
      have hr:2<r:=by omega
      by_cases ha:a=0
      ·subst ha;have HX:=Hz (show ∃ W,bN w w9 p gb W∧W.Gd c∧W.T.length≤(k+1)+2 from ⟨W,S9.out,HG.out,by have:=HT.out;omega⟩);go_wp2_with fail;refine ⟨⟨by kernel_rfl,?rel⟩,?measure⟩
       case rel=>exact ⟨k+1,hlt,by go_num,HX.out⟩
       case measure=>exact bE (by go_num) (by first | rfl | exact E17.out) hlt
      have hab:(a == 0)=false:=by simpa using ha
      clear ha;by_cases hb2:b=0
      ·subst hb2;have HX:=Hz (show ∃ W,bN w w9 p gb W∧W.Gd c∧W.T.length≤(k+1)+2 from ⟨W,S9.out,HG.out,by have:=HT.out;omega⟩);go_wp2_with fail;refine ⟨⟨by kernel_rfl,?rel⟩,?measure⟩
       case rel=>exact ⟨k+1,hlt,by go_num,HX.out⟩
       case measure=>exact bE (by go_num) (by first | rfl | exact E17.out) hlt
      ·have hbb:(b == 0)=false:=by simpa using hb2
       clear hb2;have g0:=S9.out.G.cell 0;have gl:=S9.out.G.lt;simp only [Lz] at g0;have HD:=Hz (S9.out.db (by have:=HT.out;omega) ⟨d,r,a,b,i,z⟩);have HGD:=Hz (HG.out.do (x:=⟨d,r,a,b,i,z⟩) (by dsimp only;simpa using d9) (by dsimp only;simpa using d10) (by dsimp only;rw [HUU.out];exact fun _=>hr));go_wp2_with fail;refine HD.out.mono ?_;rintro e w10 ⟨rfl,hs⟩;have HX:=Hz (show ∃ W,bN w w10 p gb W∧W.Gd c∧W.T.length≤(k+1)+2 from ⟨_,hs,HGD.out,by have:=Wd.eC W ⟨d,r,a,b,i,z⟩;have:=HT.out;omega⟩);clear hs HD HGD;go_wp2_with fail;refine ⟨⟨by kernel_rfl,?rel⟩,?measure⟩
       case rel=>exact ⟨k+1,hlt,by go_num,HX.out⟩
       case measure=>exact bE (by go_num) (by first | rfl | exact E17.out) hlt
    ·obtain rfl:k=m:=by omega
     clear hlt hk;have SE:=Hz SK.out;have GE:=Hz HG.out;have TE:=Hz HT.out;clear SK HG HT;obtain ⟨V,hV⟩:∃ V,(W.cut major).2=V:=⟨_,rfl⟩;obtain ⟨cc,hcc⟩:∃ z,(W.cut major).1=z:=⟨_,rfl⟩;have g0:=SE.out.G.cell 0;have gl:=SE.out.G.lt;simp only [Lz] at g0;cases major
     ·have D9:=SE.out.db (by have:=TE.out;omega) ⟨15,0,0,0,0,0⟩;have e15:W.do ⟨15,0,0,0,0,0⟩=W.cut false:=by unfold Wd.do;rw [if_pos (by decide)];rfl
      rw [e15,hV,hcc] at D9;have HD9:=Hz D9;clear D9 e15;go_wp2_with fail;refine HD9.out.mono ?_;rintro e w11 ⟨rfl,hs11⟩;have LV:=Hz (show V.T.length≤300 by rw [←hV,(Wd.jr GE.out.ok _).T];have:=TE.out;omega);have PV:=Hz (show V.Pd (c-0)∨(cc≠0∧V.rt 0=(3,0)∧V.Is 0 5 []∧V.wait=[]) from by
       have hG:=(GE.out.cut false).1;have hC:=(GE.out.cut false).2;rw [hV] at hG hC;rw [hcc] at hC;by_cases h0:cc=0
       ·exact .inl (hG.pd (hC h0).2)
       ·rcases hG.st with ⟨-,h2,-⟩ | ⟨-,h2⟩
        ·exact .inr ⟨h0,hG.r0,hG.g,h2⟩
        ·exact .inl (hG.pd h2))
      have S11:=Hz hs11;have HI:=Hz (show ∃ V',bN w w11 p gb V'∧(V'.Pd (c-0)∨(cc≠0∧V'.rt 0=(3,0)∧V'.Is 0 5 []∧V'.wait=[]))∧V'.T.length≤300+2*0 from ⟨V,S11.out,PV.out,LV.out⟩);clear hs11 HD9 S11 LV PV SE GE TE g0 gl hV hcc;clear V;go_wp2_with fail;refine dD (fun i=>Nat.blt 23 i || Nat.beq i 22 || Nat.beq i 23) (fun s wr=>∃ j:Nat,j≤c∧s 22=.int .i64 j∧∃ V',bN w wr p gb V'∧(V'.Pd (c-j)∨(cc≠0∧V'.rt 0=(3,0)∧V'.Is 0 5 []∧V'.wait=[]))∧V'.T.length≤300+2*j) (fun s _=>c-(intOf (s 22)).toNat) ?_ ?_
      ·exact ⟨0,Nat.zero_le _,rfl,HI.out⟩
      ·intro u2 wx hrel K hK;clear HI;obtain ⟨j,hj,e22,V,hS,hP,hL⟩:=hrel;have e22:u2 22=.int .i64 j:=e22;have SP:=Hz hS;have PP:=Hz hP;have LP:=Hz hL;clear hS hP hL;simp only [cV,overL,List.toList_toArray,Nat.blt,Nat.beq,Nat.ble,Nat.reduceAdd,Bool.or_false,Bool.false_or,Bool.or_true,Bool.true_or,Bool.and_true,Bool.true_and,Bool.and_false,Bool.false_and,cond_true,cond_false];rw [e22];have E22:=Hz e22;clear e22;have g0:=SP.out.G.cell 0;have gl:=SP.out.G.lt;simp only [Lz] at g0;have hjc:(j:Int)≤c:=by omega
       rcases PP.out with hp | ⟨hcc,hr0,hg,hw⟩
       ·by_cases hlt:j<c
        ·have hji:(j:Int)<c:=by omega
         have hp':V.Pd ((c-(j+1))+1):=by have e:c-(j+1)+1=c-j:=(by omega);rw [e];exact hp
         obtain ⟨V1,U,e1,e2,hU,hv77,hv12⟩:=hp'.pop;have D1:=SP.out.db (by have:=LP.out;have:=HQ4.out;omega) ⟨10,1,0,0,0,0⟩;have l1:=Wd.eC V ⟨10,1,0,0,0,0⟩;rw [e1] at D1 l1;dsimp only at D1 l1;have l2:=Wd.eC V1 ⟨11,1,1,0,2,0⟩;rw [e2] at l2;dsimp only at l2;have HD1:=Hz D1;have HD2:=Hz (fun w' (S':bN w w' p gb V1)=>(show Calls Try.prog 59 #[.pointer (some ⟨p,0,none⟩), .agg #[.int .i64 11, .int .i64 1, .int .i64 1, .int .i64 0, .int .i64 2, .int .i64 0]] w' (fun e w''=>e=.returned (.int .i64 0)∧bN w w'' p gb U) by
          have:=S'.db (by have:=LP.out;have:=HQ4.out;omega) ⟨11,1,1,0,2,0⟩;rw [e2] at this
          exact this))
         have HV:=Hz (fun w' (S':bN w w' p gb U)=>(show Calls Try.prog 63 #[.pointer (some ⟨p,0,none⟩)] w' (fun e w''=>iq w' U.view e w'') by
          obtain ⟨h',M'⟩:=S'.M
          exact M'.gm (by have:=LP.out;have:=HQ4.out;omega)))
         have HU:=Hz hU;have H77:=Hz hv77;have H12:=Hz hv12;have LU:=Hz (show U.T.length≤300+2*(j+1) by have:=LP.out;omega);clear D1 l1 l2 e1 e2 hU hv77 hv12 hp hp' PP;go_wp2_with fail;refine HD1.out.mono ?_;rintro e w12 ⟨rfl,hs⟩;have S12:=Hz hs;clear hs g0 gl HD1 SP;have g0:=S12.out.G.cell 0;have gl:=S12.out.G.lt;simp only [Lz] at g0;go_wp2_with fail;refine (HD2.out _ S12.out).mono ?_;rintro e w13 ⟨rfl,hs⟩;have S13:=Hz hs;clear hs g0 gl HD2 S12;have g0:=S13.out.G.cell 0;have gl:=S13.out.G.lt;simp only [Lz] at g0;go_wp2_with fail;refine (HV.out _ S13.out).mono ?_;rintro e w14 ⟨v,rfl,⟨ro,rc,no,nc,F,rfl,hrt,-,-⟩,hk14⟩;have S14:=Hz (S13.out.same hk14);obtain ⟨_,_,e',rd0,-,-⟩:=hrt.rd;cases e';obtain ⟨gr,orr,rfl,hgr,-,a1⟩:=rd0.dA 1 (by rw [H12.out];decide);rw [H77.out] at a1;rw [H12.out];simp only [Nat.one_mul] at a1;have hfd:∀ wz:World,(Instr.field 72 (.agg #[.slice (some ⟨gr,orr,none⟩) 12 rc, .slice no U.view.2.length nc]) 0).run Try.prog wz=.ok (.slice (some ⟨gr,orr,none⟩) 12 rc) wz:=fun _=>by kernel_rfl
         clear hk14 hrt rd0 g0 gl HV S13;go_wp2_with fail;refine ⟨⟨by kernel_rfl,?rel⟩,?measure⟩
         case rel=>exact ⟨j+1,hlt,by go_num,U,S14.out, .inl HU.out,LU.out⟩
         case measure=>exact bE (by go_num) (by first | rfl | exact E22.out) hlt
        ·obtain rfl:j=c:=by omega
         rw [Nat.sub_self] at hp;have D1:=SP.out.db (by have:=LP.out;have:=HQ4.out;omega) ⟨10,1,0,0,0,0⟩;rw [hp.none] at D1;dsimp only at D1;have HD1:=Hz D1;clear D1 hp PP;go_wp2_with fail;refine HD1.out.mono ?_;rintro e w12 ⟨rfl,hs⟩;have S12:=Hz hs.K;clear hs g0 gl HD1 SP;go_wp2_with fail;go_ret;exact ⟨rfl,S12.out⟩
       ·have D1:=SP.out.db (by have:=LP.out;have:=HQ4.out;omega) ⟨10,1,0,0,0,0⟩;rw [jw hr0 hg hw] at D1;dsimp only at D1;have HD1:=Hz D1;have hcb:(cc != 0)=true:=by simpa using hcc
        clear D1 PP hcc hr0 hg hw;by_cases hlt:j<c
        ·have hji:(j:Int)<c:=by omega
         go_wp2_with fail;refine HD1.out.mono ?_;rintro e w12 ⟨rfl,hs⟩;have S12:=Hz hs.K;clear hs g0 gl HD1 SP;go_wp2_with fail;go_ret;exact ⟨rfl,S12.out⟩
        ·go_wp2_with fail;refine HD1.out.mono ?_;rintro e w12 ⟨rfl,hs⟩;have S12:=Hz hs.K;clear hs g0 gl HD1 SP;go_wp2_with fail;go_ret;exact ⟨rfl,S12.out⟩
     ·have D9:=SE.out.db (by have:=TE.out;omega) ⟨16,0,0,0,0,0⟩;have e15:W.do ⟨16,0,0,0,0,0⟩=W.cut true:=by unfold Wd.do;rw [if_pos (by decide)];rfl
      rw [e15,hV,hcc] at D9;have HD9:=Hz D9;clear D9 e15;go_wp2_with fail;refine HD9.out.mono ?_;rintro e w11 ⟨rfl,hs11⟩;have LV:=Hz (show V.T.length≤300 by rw [←hV,(Wd.jr GE.out.ok _).T];have:=TE.out;omega);have PV:=Hz (show V.Pd (c-0)∨(cc≠0∧V.rt 0=(3,0)∧V.Is 0 5 []∧V.wait=[]) from by
       have hG:=(GE.out.cut true).1;have hC:=(GE.out.cut true).2;rw [hV] at hG hC;rw [hcc] at hC;by_cases h0:cc=0
       ·exact .inl (hG.pd (hC h0).2)
       ·rcases hG.st with ⟨-,h2,-⟩ | ⟨-,h2⟩
        ·exact .inr ⟨h0,hG.r0,hG.g,h2⟩
        ·exact .inl (hG.pd h2))
      have S11:=Hz hs11;have HI:=Hz (show ∃ V',bN w w11 p gb V'∧(V'.Pd (c-0)∨(cc≠0∧V'.rt 0=(3,0)∧V'.Is 0 5 []∧V'.wait=[]))∧V'.T.length≤300+2*0 from ⟨V,S11.out,PV.out,LV.out⟩);clear hs11 HD9 S11 LV PV SE GE TE g0 gl hV hcc;clear V;go_wp2_with fail;refine dD (fun i=>Nat.blt 23 i || Nat.beq i 22 || Nat.beq i 23) (fun s wr=>∃ j:Nat,j≤c∧s 22=.int .i64 j∧∃ V',bN w wr p gb V'∧(V'.Pd (c-j)∨(cc≠0∧V'.rt 0=(3,0)∧V'.Is 0 5 []∧V'.wait=[]))∧V'.T.length≤300+2*j) (fun s _=>c-(intOf (s 22)).toNat) ?_ ?_
      ·exact ⟨0,Nat.zero_le _,rfl,HI.out⟩
      ·intro u2 wx hrel K hK;clear HI;obtain ⟨j,hj,e22,V,hS,hP,hL⟩:=hrel;have e22:u2 22=.int .i64 j:=e22;have SP:=Hz hS;have PP:=Hz hP;have LP:=Hz hL;clear hS hP hL;simp only [cV,overL,List.toList_toArray,Nat.blt,Nat.beq,Nat.ble,Nat.reduceAdd,Bool.or_false,Bool.false_or,Bool.or_true,Bool.true_or,Bool.and_true,Bool.true_and,Bool.and_false,Bool.false_and,cond_true,cond_false];rw [e22];have E22:=Hz e22;clear e22;have g0:=SP.out.G.cell 0;have gl:=SP.out.G.lt;simp only [Lz] at g0;have hjc:(j:Int)≤c:=by omega
       rcases PP.out with hp | ⟨hcc,hr0,hg,hw⟩
       ·by_cases hlt:j<c
        ·have hji:(j:Int)<c:=by omega
         have hp':V.Pd ((c-(j+1))+1):=by have e:c-(j+1)+1=c-j:=(by omega);rw [e];exact hp
         obtain ⟨V1,U,e1,e2,hU,hv77,hv12⟩:=hp'.pop;have D1:=SP.out.db (by have:=LP.out;have:=HQ4.out;omega) ⟨10,1,0,0,0,0⟩;have l1:=Wd.eC V ⟨10,1,0,0,0,0⟩;rw [e1] at D1 l1;dsimp only at D1 l1;have l2:=Wd.eC V1 ⟨11,1,1,0,2,0⟩;rw [e2] at l2;dsimp only at l2;have HD1:=Hz D1;have HD2:=Hz (fun w' (S':bN w w' p gb V1)=>(show Calls Try.prog 59 #[.pointer (some ⟨p,0,none⟩), .agg #[.int .i64 11, .int .i64 1, .int .i64 1, .int .i64 0, .int .i64 2, .int .i64 0]] w' (fun e w''=>e=.returned (.int .i64 0)∧bN w w'' p gb U) by
          have:=S'.db (by have:=LP.out;have:=HQ4.out;omega) ⟨11,1,1,0,2,0⟩;rw [e2] at this
          exact this))
         have HV:=Hz (fun w' (S':bN w w' p gb U)=>(show Calls Try.prog 63 #[.pointer (some ⟨p,0,none⟩)] w' (fun e w''=>iq w' U.view e w'') by
          obtain ⟨h',M'⟩:=S'.M
          exact M'.gm (by have:=LP.out;have:=HQ4.out;omega)))
         have HU:=Hz hU;have H77:=Hz hv77;have H12:=Hz hv12;have LU:=Hz (show U.T.length≤300+2*(j+1) by have:=LP.out;omega);clear D1 l1 l2 e1 e2 hU hv77 hv12 hp hp' PP;go_wp2_with fail;refine HD1.out.mono ?_;rintro e w12 ⟨rfl,hs⟩;have S12:=Hz hs;clear hs g0 gl HD1 SP;have g0:=S12.out.G.cell 0;have gl:=S12.out.G.lt;simp only [Lz] at g0;go_wp2_with fail;refine (HD2.out _ S12.out).mono ?_;rintro e w13 ⟨rfl,hs⟩;have S13:=Hz hs;clear hs g0 gl HD2 S12;have g0:=S13.out.G.cell 0;have gl:=S13.out.G.lt;simp only [Lz] at g0;go_wp2_with fail;refine (HV.out _ S13.out).mono ?_;rintro e w14 ⟨v,rfl,⟨ro,rc,no,nc,F,rfl,hrt,-,-⟩,hk14⟩;have S14:=Hz (S13.out.same hk14);obtain ⟨_,_,e',rd0,-,-⟩:=hrt.rd;cases e';obtain ⟨gr,orr,rfl,hgr,-,a1⟩:=rd0.dA 1 (by rw [H12.out];decide);rw [H77.out] at a1;rw [H12.out];simp only [Nat.one_mul] at a1;have hfd:∀ wz:World,(Instr.field 72 (.agg #[.slice (some ⟨gr,orr,none⟩) 12 rc, .slice no U.view.2.length nc]) 0).run Try.prog wz=.ok (.slice (some ⟨gr,orr,none⟩) 12 rc) wz:=fun _=>by kernel_rfl
         clear hk14 hrt rd0 g0 gl HV S13;go_wp2_with fail;refine ⟨⟨by kernel_rfl,?rel⟩,?measure⟩
         case rel=>exact ⟨j+1,hlt,by go_num,U,S14.out, .inl HU.out,LU.out⟩
         case measure=>exact bE (by go_num) (by first | rfl | exact E22.out) hlt
        ·obtain rfl:j=c:=by omega
         rw [Nat.sub_self] at hp;have D1:=SP.out.db (by have:=LP.out;have:=HQ4.out;omega) ⟨10,1,0,0,0,0⟩;rw [hp.none] at D1;dsimp only at D1;have HD1:=Hz D1;clear D1 hp PP;go_wp2_with fail;refine HD1.out.mono ?_;rintro e w12 ⟨rfl,hs⟩;have S12:=Hz hs.K;clear hs g0 gl HD1 SP;go_wp2_with fail;go_ret;exact ⟨rfl,S12.out⟩
       ·have D1:=SP.out.db (by have:=LP.out;have:=HQ4.out;omega) ⟨10,1,0,0,0,0⟩;rw [jw hr0 hg hw] at D1;dsimp only at D1;have HD1:=Hz D1;have hcb:(cc != 0)=true:=by simpa using hcc
        clear D1 PP hcc hr0 hg hw;by_cases hlt:j<c
        ·have hji:(j:Int)<c:=by omega
         go_wp2_with fail;refine HD1.out.mono ?_;rintro e w12 ⟨rfl,hs⟩;have S12:=Hz hs.K;clear hs g0 gl HD1 SP;go_wp2_with fail;go_ret;exact ⟨rfl,S12.out⟩
        ·go_wp2_with fail;refine HD1.out.mono ?_;rintro e w12 ⟨rfl,hs⟩;have S12:=Hz hs.K;clear hs g0 gl HD1 SP;go_wp2_with fail;go_ret;exact ⟨rfl,S12.out⟩
theorem j6 (n o:Int) (lo:Option Addr) (lc m:Nat) (xs:List Int) (times:Int) (major:Bool) (w:World) (_:dz n) (_:dz o) (h0:Rd w lo (xs.map (Value.int .i64))) (hx:xs.length=m*6) (_:m≤maxLen) (hb:∀ x ∈ xs,dz x) (_:dz times) :
  Calls Try.prog 9 #[.int .i64 n, .int .i64 o, .slice lo m lc, .int .i64 times, .bool major] w fun e w'=>e=.returned (.bool true)∧Below w.heap.size w w':=
 (kI n o lo lc m times major xs w h0 hx hb).mono fun e w' ⟨h1,h2⟩=>⟨h1,h2.below (fun _ _ h=>h)⟩
end
end
end Go.Proofs.Ytjifdalflepcoab
