/-
  Parts of the proof, merged: what the functions do, and plain laws.
-/
import Derived.Test.YtjifdalflepcoadGreatTRPP19
set_option maxHeartbeats 16000000
set_option maxRecDepth 100000
set_option linter.unusedVariables false
set_option linter.unusedSimpArgs false
namespace Go.Proofs.YtjifdalflepcoadGreat
section
open Go.RowKit
section
variable {w w':World}
theorem tB (n o more grow:Int) (lo:Option Addr) (lc m:Nat) (L:List St) (w:World) (h0:Rd w lo (dD L)) (hx:L.length=m) :
  Calls Tryz.prog 5 #[.int .i64 n, .int .i64 o, .int .i64 more, .int .i64 grow, .slice lo m lc] w λe w'=>e=.returned (.bool true)/\aa (λ_=>False) w w':=by
 have H0:=Hz h0;have HX:=Hz hx;clear h0 hx;go_enter Tryz.func5,Tryz.ntmps5;go_wp2_with fail;refine (pk _).mono ?_;rintro e w1 ⟨rfl,hk1⟩;have HK1:=Hz hk1;clear hk1;by_cases hm:250<m
 ·go_wp2_with fail;go_ret;exact ⟨rfl,HK1.o⟩
 have hm250:m<=250:=by omega
 go_wp2_with fail;refine (vG n o _).mono ?_;rintro e w2 ⟨rfl,hk2⟩;have HK2:=Hz (HK1.o.trans hk2);clear hk2 HK1;cases hfit:Ar.fits n o
 ·have hF:iQ n o=(1,-1):=by unfold iQ;rw [hfit];rfl
  rw [hF];dsimp only;have hfd:∀ w:World,(Instr.field 33 (.agg #[.int .i64 1, .int .i64 (-1)]) 0).run Tryz.prog w=.ok (.int .i64 1) w:=λ_=>by kernel_rfl
  go_wp2_with fail;go_ret;exact ⟨rfl,HK2.o⟩
 have hF:iQ n o=(0,0):=by unfold iQ;rw [hfit];rfl
 rw [hF];dsimp only;clear hF;have hfd:∀ w:World,(Instr.field 33 (.agg #[.int .i64 0, .int .i64 0]) 0).run Tryz.prog w=.ok (.int .i64 0) w:=λ_=>by kernel_rfl
 have HFIT:=Hz hfit;clear hfit;have R2:=Hz (H0.o.ab HK2.o (λ_ _ _ h=>h));clear H0;go_wp2_with fail;obtain ⟨i0,hi,hz0,hz1,hz2⟩:=dJ tg;have Hi:=Hz hi;have Hz0:=Hz hz0;have Hz1:=Hz hz1;have Hz2:=Hz hz2;clear hi hz0 hz1 hz2 hfd;refine lG (λi=>Nat.blt 10 i && Nat.blt i 14 || Nat.blt 31 i) (λs wr=>∃ (k:Nat) (v:Value),k<=m/\s 12=.int .i64 k/\s 11=v/\jB w2 wr v (jW (L.take k))/\aa (λ_=>False) w2 wr) (λs _=>m-(intOf (s 12)).toNat) ?_ ?_
 ·exact ⟨0,_,Zc _,rfl,rfl,jB.nil _ _,aa.refl _ _⟩
 ·intro u0 wr hrel K hK;obtain ⟨k,v,hk,e12,e11,hS,hKK⟩:=hrel;have e12:u0 12=.int .i64 k:=e12;have e11:u0 11=v:=e11;have HS:=Hz hS;have KK:=Hz hKK;clear hS hKK;simp only [fI,overL,List.toList_toArray,Nat.blt,Nat.beq,Nat.ble,Nat.reduceAdd,Bool.or_false,Bool.false_or,Bool.or_true,Bool.true_or,Bool.and_true,Bool.true_and,Bool.and_false,Bool.false_and,cond_true,cond_false];rw [e12,e11];have E12:=Hz e12;clear e12 e11;by_cases hlt:k<m
  ·have hki:(k:Int)<m:=by omega
   obtain ⟨gs,os,rfl,hgl,d0,d1,d2,d3,d4,d5⟩:=R2.o.step k (by rw [HX.o];exact hlt);have HTK:=Hz (pe (L:=L) (k:=k) (by rw [HX.o];exact hlt));generalize L.getD k St.zero=x at *;obtain ⟨d,r,a,b,i,z⟩:=x;dsimp only at d0 d1 d2 d3 d4 d5;have hcc:=λq=>World.cell?_of_block (a:=⟨gs,q,none⟩) (KK.o.block gs hgl (λh=>h));rw [<-hcc] at d0 d1 d2 d3 d4 d5;have hgr:=Zd hgl KK.o.size;clear hcc;by_cases hs:(St.mk d r a b i z).str=true
   ·have FL:=Hz (show jW (L.take (k+1))=jW (L.take k) ++ [⟨d,r,a,b,i,z⟩] from by rw [tq HTK.o,if_pos hs]);have LE:=Hz (vn L k);obtain ⟨n6,n7,n8,n15,n16⟩:=St.ve hs;dsimp only at n6 n7 n8 n15 n16;have n6:=bne_iff_ne.2 n6;have n7:=bne_iff_ne.2 n7;have n8:=bne_iff_ne.2 n8;have n15:=bne_iff_ne.2 n15;have n16:=bne_iff_ne.2 n16;have le:=LE.o;clear hs;go_wp2_with (at_builtin;refine cE rfl (.tmp 61) (.tmp 66) 22 rfl 26 i0 (.agg #[.int .i64 0, .int .i64 0, .int .i64 0, .int .i64 0, .int .i64 0, .int .i64 0]) 6 48 Tryz.underlying22 Hi.o Hz0.o Hz1.o Hz2.o rfl (by decide) _ _ _ rfl (HS.o.S.ab ((Kz wr).alloc _) (λ_ _ h=>h)) ⟨wr.heap.size,0,none⟩ 1 1 [.int .i64 d, .int .i64 r, .int .i64 a, .int .i64 b, .int .i64 i, .int .i64 z] rfl rfl (bV wr 26 #[.int .i64 d, .int .i64 r, .int .i64 a, .int .i64 b, .int .i64 i, .int .i64 z]) (by intro u hu;simp at hu;rcases hu with rfl | rfl | rfl | rfl | rfl | rfl <;> rfl) (by unfold maxLen;omega) (by omega) ?_);intro v6 w6 hs6 hk6 ho6;have HF:=Hz (show jB w2 w6 v6 (jW (L.take (k+1))) from by rw [FL.o];exact HS.o.app hs6 (Nat.le_succ_of_le KK.o.size) ho6);have KK6:=Hz ((KK.o.alloc (.cells #[.int .i64 d, .int .i64 r, .int .i64 a, .int .i64 b, .int .i64 i, .int .i64 z] 26)).then hk6 (λb hb=>.inr (HS.o.nw b hb)));clear hs6 hk6 ho6 FL LE le HS KK d0 d1 d2 d3 d4 d5 hgr;go_wp2_with fail;refine ⟨⟨by kernel_rfl,?rel⟩,?measure⟩
    case rel=>exact ⟨k+1,v6,hlt,by go_num,rfl,HF.o,KK6.o⟩
    case measure=>exact mH (by go_num) (by first | rfl | exact E12.o) hlt
   ·have HF:=Hz (show jB w2 wr v (jW (L.take (k+1))) from by rw [tq HTK.o,if_neg hs,List.append_nil];exact HS.o);have hd:=Aq hs;clear hs HS;dsimp only at hd;rcases hd with rfl | rfl | rfl | rfl | rfl
    all_goals
     go_wp2_with fail;refine ⟨⟨by kernel_rfl,?rel⟩,?measure⟩
     case rel=>exact ⟨k+1,v,hlt,by go_num,rfl,HF.o,KK.o⟩
     case measure=>exact mH (by go_num) (by first | rfl | exact E12.o) hlt
  ·obtain rfl:k=m:=by omega
   have hle:=vn L k;rw [show L.take k=L by rw [<-HX.o,List.take_length]] at HS hle;have HSS:=Hz (λx (hx:x ∈ jW L)=>Ap hx);generalize jW L=S at *;obtain ⟨so,sc,rfl,rdS,-⟩:=HS.o.rd;have RS:=Hz rdS;have HK3:=Hz (HK2.o.trans KK.o);clear HS rdS KK HK2 R2 HX;obtain ⟨p,hp⟩:∃ p,S.length=p:=⟨_,rfl⟩;rw [hp] at hle ⊢;have HP:=Hz hp;clear hp;obtain ⟨C1,hC1⟩:∃ C,(runL (Wd.new n o) S).1=C:=⟨_,rfl⟩;obtain ⟨V1,hV1⟩:∃ V,(runL (Wd.new n o) S).2.view=V:=⟨_,rfl⟩;have HC1:=Hz hC1;have HV1:=Hz hV1;clear hC1 hV1;go_wp2_with fail;refine (mQ n o S so sc p _ C1 V1 RS.o HP.o (by omega) HFIT.o HC1.o HV1.o).mono ?_;rintro e w3 ⟨ao,ac,ro,rc,no,nc,rfl,hk,out⟩;have kb:=((Kz w3).alloc (.cells #[.slice ro V1.1.length rc, .slice no V1.2.length nc] 31)).alloc (.cells #[.int .i64 0, .int .i64 0] 33);have O1:=Hz out;have R3:=Hz (RS.o.ab (hk.trans kb) (λ_ _ _ h=>h));have HK4:=Hz (HK3.o.trans (hk.trans kb));clear hk kb out RS HK3;go_upto_region 13 with fail
   generalize (w3.alloc (.cells #[.slice ro V1.1.length rc, .slice no V1.2.length nc] 31)).alloc (.cells #[.int .i64 0, .int .i64 0] 33)=w4 at *;generalize w3.heap.size=b1 at *;obtain ⟨q1,hq1⟩:∃ q,q=l6 more%100:=⟨_,rfl⟩;obtain ⟨q2,hq2⟩:∃ q,q=l6 grow%300:=⟨_,rfl⟩;have hl1:q1<100:=by rw [hq1];exact Nat.mod_lt _ (by decide)
   have hl2:q2<300:=by rw [hq2];exact Nat.mod_lt _ (by decide)
   have hx1:=ny more;have hx2:=ny grow;have ht1:((l6 more:Int)).tmod 100=(q1:Int):=by rw [hq1];exact si more 100 (by decide)
   have ht2:((l6 grow:Int)).tmod 300=(q2:Int):=by rw [hq2];exact si grow 300 (by decide)
   have hm1:((l6 more:Int))%100=(q1:Int):=by rw [hq1];rfl
   have hm2:((l6 grow:Int))%300=(q2:Int):=by rw [hq2];rfl
   have hf:=HFIT.o;simp only [Ar.fits,Zr,decide_eq_true_eq] at hf;have hw1:IntKind.i64.wrap (q1:Int)=(q1:Int):=IntWalk.i64_in _ (by omega);have hw2:IntKind.i64.wrap (q2:Int)=(q2:Int):=IntWalk.i64_in _ (by omega);have hw3:IntKind.i64.wrap (n+(q1:Int))=n+(q1:Int):=IntWalk.i64_in _ (by omega);have hw4:IntKind.i64.wrap (o+(q2:Int))=o+(q2:Int):=IntWalk.i64_in _ (by omega);have HFF:=Hz hf;clear hq1 hq2 hf;go_wp2_with fail
   all_goals
    have hff:=HFF.o;refine (As n o _ _ S so sc p _ C1 V1 R3.o HP.o (by omega) HFIT.o (by simp only [Ar.fits,Zr,decide_eq_true_eq];omega) HSS.o HC1.o HV1.o).mono ?_;rintro e w5 ⟨ao2,ac2,ro2,rc2,no2,nc2,C2,V2,rfl,hk,out,rel⟩;have kb:=((Kz w5).alloc (.cells #[.slice ro2 V2.1.length rc2, .slice no2 V2.2.length nc2] 31)).alloc (.cells #[.int .i64 0, .int .i64 0] 33);have O2:=Hz out;have P1:=Hz (O1.o.same (hk.trans kb));have HK5:=Hz (HK4.o.trans (hk.trans kb));have REL:=Hz rel;clear hff hk kb out rel R3 HK4 O1 hl1 hl2 hx1 hx2 ht1 ht2 hm1 hm2 hw1 hw2 hw3 hw4 HC1 HV1 HSS;go_upto_region 14 with fail
    generalize (w5.alloc (.cells #[.slice ro2 V2.1.length rc2, .slice no2 V2.2.length nc2] 31)).alloc (.cells #[.int .i64 0, .int .i64 0] 33)=w6 at *;generalize w5.heap.size=b2 at *;obtain ⟨f2,f3,f0,-,fl⟩:=P1.o.cells;obtain ⟨g2,g3,g0,-,gl⟩:=O2.o.cells;go_wp2_with fail;refine (DE ao ac p C1 3 _ P1.o.rd P1.o.len (by omega)).mono ?_;rintro e w7 ⟨rfl,rfl⟩;by_cases h3:(3:Int) ∈ C1
    ·rw [decide_eq_true h3];go_wp2_with fail;go_ret;exact ⟨rfl,HK5.o⟩
    rw [decide_eq_false h3];go_wp2_with fail;refine (DE ao2 ac2 p C2 3 _ O2.o.rd O2.o.len (by omega)).mono ?_;rintro e w8 ⟨rfl,rfl⟩;by_cases h4:(3:Int) ∈ C2
    ·rw [decide_eq_true h4];go_wp2_with fail;go_ret;exact ⟨rfl,HK5.o⟩
    rw [decide_eq_false h4];obtain ⟨rfl,rfl⟩:=REL.o h3 h4;clear h3 h4 REL;go_wp2_with fail;refine (kZ ao ao2 ac ac2 p _ _ P1.o.rd O2.o.rd P1.o.len (by omega)).mono ?_;rintro e w9 ⟨rfl,hk⟩;have Q1:=Hz (P1.o.same hk);have Q2:=Hz (O2.o.same hk);have HK6:=Hz (HK5.o.trans hk);clear hk f2 f3 f0 fl g2 g3 g0 gl P1 O2 HK5;obtain ⟨f2,f3,-,-,fl⟩:=Q1.o.cells;obtain ⟨g2,g3,-,-,gl⟩:=Q2.o.cells;go_wp2_with fail;refine (oF _ _ _ _ Q1.o.vw Q2.o.vw).mono ?_;rintro e w10 ⟨rfl,hk⟩;have HK7:=Hz (HK6.o.trans hk);clear hk f2 f3 fl g2 g3 gl Q1 Q2 HK6;go_wp2_with fail;go_ret;exact ⟨rfl,HK7.o⟩
theorem sj (n o more grow:Int) (lo:Option Addr) (lc m:Nat) (xs:List Int) (w:World) (_:bm n) (_:bm o) (_:bm more) (_:bm grow) (h0:Rd w lo (xs.map (Value.int .i64))) (hx:xs.length=m*6) (_:m<=maxLen) (_:∀ x ∈ xs,bm x) :
  Calls Tryz.prog 5 #[.int .i64 n, .int .i64 o, .int .i64 more, .int .i64 grow, .slice lo m lc] w λe w'=>e=.returned (.bool true)/\Below w.heap.size w w':=by
 obtain ⟨hl,he⟩:=qC m xs hx;exact (tB n o more grow lo lc m (stL xs) w (by rw [he];exact h0) hl).mono λe w' ⟨h1,h2⟩=>⟨h1,h2.below (λ_ _ h=>h)⟩
end
end
end Go.Proofs.YtjifdalflepcoadGreat
