/-
  Parts of the proof, merged: what the functions do, and plain laws.
-/
import Derived.Test.YtjifdalflepcoacHRFP1
import Derived.Test.YtjifdalflepcoacHRFP5
set_option maxHeartbeats 16000000
set_option maxRecDepth 100000
set_option linter.unusedVariables false
set_option linter.unusedSimpArgs false
namespace Go.Proofs.Ytjifdalflepcoac
section
open Go.RowKit
def QInv (w wr:World) (p:Nat) (n o:Int):Prop:=∃ h O,HM w wr p h O∧∃ W φ,Rep O W φ∧W.strong∧W.most=n∧W.grow=o
section
variable {w w':World}
theorem HeapRooms_raw (n o:Int) (lo:Option Addr) (lc m:Nat) (xs:List Int) (w:World) (h0:Rd w lo (xs.map (Value.int .i64))) (hx:xs.length=m*6) (hb:∀ x ∈ xs,R64 x) :
  Calls Try.prog 5 #[.int .i64 n, .int .i64 o, .slice lo m lc] w fun e w'=>e=.returned (.bool true)∧Keeps (fun _=>False) w w':=by
 have H0:=Hz h0;have HX:=Hz hx;have HBD:=Hz hb
 clear h0 hx hb
 go_enter Try.func5,Try.ntmps5
 go_wp2_with fail
 refine (heapBegun_c _).mono ?_
 rintro e w1 ⟨rfl,hk1⟩
 have HK1:=Hz hk1;clear hk1
 by_cases hm:250<m
 ·go_wp2_with fail
  go_ret
  exact ⟨rfl,HK1.out⟩
 have hm250:m≤250:=by omega
 cases hfit:Ar.fits n o
 ·go_wp2_with fail
  refine (HNew_no n o _ hfit).mono ?_
  rintro e w2 ⟨rfl,hk2⟩
  have HK2:=Hz (HK1.out.trans hk2);clear hk2
  have hb1:=show Blk (w2.alloc (.cells #[.int .i64 1, .int .i64 (-1)] 31)) w2.heap.size [.int .i64 1, .int .i64 (-1)] 31 from Blk.newAt _ rfl rfl
  have b0:=hb1.cell 0;have b1:=hb1.cell 1;have bl:=hb1.lt
  simp only [List.getElem?_cons_zero,List.getElem?_cons_succ] at b0 b1
  clear hb1
  go_wp2_with fail
  go_ret
  exact ⟨rfl,HK2.out.alloc _⟩
 have HFIT:=Hz hfit
 go_wp2_with fail
 refine (HNew_yes n o _ hfit).mono ?_
 rintro e w2 ⟨h,rfl,A2,k2,o2⟩
 have hb1:=show Blk (w2.alloc (.cells #[.int .i64 0, .int .i64 0] 31)) w2.heap.size [.int .i64 0, .int .i64 0] 31 from Blk.newAt _ rfl rfl
 have hka:=(Kz w2).alloc (.cells #[.int .i64 0, .int .i64 0] 31)
 have hM2:=(show HM w w2 h.p h _ from ⟨A2,rfl,HK1.out.trans k2,fun k hk=>Nat.le_trans HK1.out.size (o2 k hk)⟩).same hka
 have b0:=hb1.cell 0;have bl:=hb1.lt
 simp only [List.getElem?_cons_zero,List.getElem?_cons_succ] at b0
 go_upto_region 6 with (fail)
 generalize w2.alloc (.cells #[.int .i64 0, .int .i64 0] 31)=w3 at *
 have M3:=Hz hM2
 clear hb1 hka hM2 A2 k2 o2 HK1 hfit
 generalize h.p=p at *
 have HI:=Hz (show QInv w w3 p n o from ⟨h,_,M3.out,_,_,Rep.new HFIT.out,Wd.new_strong n o,rfl,rfl⟩)
 have hno:16≤n∧n≤256∧0≤o∧o≤1024:=by have:=HFIT.out;simp [Ar.fits] at this;omega
 clear M3 HFIT hm
 go_wp2_with fail
 refine wp_loop_over (fun i=>Nat.blt 30 i || Nat.blt 8 i && Nat.blt i 17) (fun s wr=>∃ k:Nat,k≤m∧s 9=.int .i64 k∧QInv w wr p n o) (fun s _=>m-(intOf (s 9)).toNat) ?_ ?_
 ·exact ⟨0,Nat.zero_le _,rfl,HI.out⟩
 ·intro u0 wr hrel K hK
  clear HI
  obtain ⟨k,hk,e9,hI⟩:=hrel
  have e9:u0 9=.int .i64 k:=e9
  have HI:=Hz hI
  clear hI
  simp only [overA,overL,List.toList_toArray,Nat.blt,Nat.beq,Nat.ble,Nat.reduceAdd,Bool.or_false,Bool.false_or,Bool.or_true,Bool.true_or,Bool.and_true,Bool.true_and,Bool.and_false,Bool.false_and,cond_true,cond_false]
  rw [e9]
  have E9:=Hz e9;clear e9
  by_cases hlt:k<m
  ·obtain ⟨h1,O1,M1,W1,φ1,R1,S1,hm1,hg1⟩:=HI.out
   obtain ⟨gs,os,rfl,hgl,d0⟩:=H0.out.nth (k*6) (by rw [HX.out];omega)
   obtain ⟨_,_,e',-,d1⟩:=H0.out.nth (k*6+1) (by rw [HX.out];omega)
   cases e'
   obtain ⟨_,_,e',-,d2⟩:=H0.out.nth (k*6+2) (by rw [HX.out];omega)
   cases e'
   obtain ⟨_,_,e',-,d3⟩:=H0.out.nth (k*6+3) (by rw [HX.out];omega)
   cases e'
   obtain ⟨_,_,e',-,d4⟩:=H0.out.nth (k*6+4) (by rw [HX.out];omega)
   cases e'
   obtain ⟨_,_,e',-,d5⟩:=H0.out.nth (k*6+5) (by rw [HX.out];omega)
   cases e'
   rw [←Nat.add_assoc] at d1 d2 d3 d4 d5
   have HZ:=Hz (show R64 (xs.getD (k*6+5) 0) from HBD.out _ (by rw [List.getD_eq_getElem?_getD,List.getElem?_eq_getElem (by rw [HX.out];omega)];exact List.getElem_mem _))
   generalize xs.getD (k*6) 0=d at *
   generalize xs.getD (k*6+1) 0=r at *
   generalize xs.getD (k*6+2) 0=a at *
   generalize xs.getD (k*6+3) 0=b at *
   generalize xs.getD (k*6+4) 0=i at *
   generalize xs.getD (k*6+5) 0=z at *
   have hcl:∀ w',Keeps (fun _=>False) w w'→w'.cell? ⟨gs,os+k*6,none⟩=some (.int .i64 d)∧w'.cell? ⟨gs,os+k*6+1,none⟩=some (.int .i64 r)∧w'.cell? ⟨gs,os+k*6+2,none⟩=some (.int .i64 a)∧w'.cell? ⟨gs,os+k*6+3,none⟩=some (.int .i64 b)∧w'.cell? ⟨gs,os+k*6+4,none⟩=some (.int .i64 i)∧w'.cell? ⟨gs,os+k*6+5,none⟩=some (.int .i64 z):=fun w' kk=>by
    have hcc:∀ q,w'.cell? ⟨gs,q,none⟩=w.cell? ⟨gs,q,none⟩:=fun q=>World.cell?_of_block (w:=w) (a:=⟨gs,q,none⟩) (kk.block gs hgl (fun h=>h))
    exact ⟨(hcc _).trans d0,(hcc _).trans d1,(hcc _).trans d2,(hcc _).trans d3,(hcc _).trans d4,(hcc _).trans d5⟩
   have HCL:=Hz hcl
   clear d0 d1 d2 d3 d4 d5 hcl
   obtain ⟨d0,d1,d2,d3,d4,d5⟩:=HCL.out _ (M1.K)
   have hgl:=Nat.lt_of_lt_of_le hgl (Keeps.size (M1.K))
   have M:=Hz M1;have R:=Hz R1;have ST:=Hz S1;have HMO:=Hz hm1;have HGO:=Hz hg1
   have OL:=Hz (fun j (hj:h1.Own j)=>M1.B.own_lt hj)
   clear HI M1 R1 S1 hm1 hg1
   have hki:(k:Int)<m:=by omega
   go_upto_region 12 with (refine wpList_agg rfl 23 (.tmp 39) rfl [.int .i64 d, .int .i64 r, .int .i64 a, .int .i64 b, .int .i64 i, .int .i64 z] (by kernel_rfl) gs (os+k*6) rfl (rangeAt_cons d0 (rangeAt_cons d1 (rangeAt_cons d2 (rangeAt_cons d3 (rangeAt_cons d4 (rangeAt_cons d5 rangeAt_nil)))))) ?_)
   have hbk:=Blk.newAt (w:=wr) (b:=wr.heap.size) (T:=23) #[.int .i64 d, .int .i64 r, .int .i64 a, .int .i64 b, .int .i64 i, .int .i64 z] rfl rfl
   have hka:=(Kz wr).alloc (.cells #[.int .i64 d, .int .i64 r, .int .i64 a, .int .i64 b, .int .i64 i, .int .i64 z] 23)
   have hMb:=M.out.same hka
   have NB:=Hz (show ¬ h1.Own wr.heap.size from fun e=>by have:=OL.out _ e;omega)
   clear d0 d1 d2 d3 d4 d5 hgl M OL
   generalize wr.alloc (.cells #[.int .i64 d, .int .i64 r, .int .i64 a, .int .i64 b, .int .i64 i, .int .i64 z] 23)=wb at *
   generalize wr.heap.size=be at *
   have HB:=Hz hbk;have M:=Hz hMb
   clear hbk hka hMb
   have b0:=HB.out.cell 0;have b1:=HB.out.cell 1;have b2:=HB.out.cell 2;have b3:=HB.out.cell 3;have b4:=HB.out.cell 4;have b5:=HB.out.cell 5;have bl:=HB.out.lt
   simp only [List.getElem?_cons_zero,List.getElem?_cons_succ] at b0 b1 b2 b3 b4 b5
   by_cases h6:d=6
   ·subst h6
    have HIK9:=Hz (show QInv w wb p n o from ⟨h1,_,M.out,_,_,R.out,ST.out,HMO.out,HGO.out⟩)
    go_wp2_with fail
    refine ⟨⟨by kernel_rfl,?rel⟩,?measure⟩
    case rel=>exact ⟨k+1,hlt,by go_num,HIK9.out⟩
    case measure=>exact meas_lt (by go_num) (by first | rfl | exact E9.out) hlt
   by_cases h7:d=7
   ·subst h7
    have HIK9:=Hz (show QInv w wb p n o from ⟨h1,_,M.out,_,_,R.out,ST.out,HMO.out,HGO.out⟩)
    go_wp2_with fail
    refine ⟨⟨by kernel_rfl,?rel⟩,?measure⟩
    case rel=>exact ⟨k+1,hlt,by go_num,HIK9.out⟩
    case measure=>exact meas_lt (by go_num) (by first | rfl | exact E9.out) hlt
   by_cases h8:d=8
   ·subst h8
    have HIK9:=Hz (show QInv w wb p n o from ⟨h1,_,M.out,_,_,R.out,ST.out,HMO.out,HGO.out⟩)
    go_wp2_with fail
    refine ⟨⟨by kernel_rfl,?rel⟩,?measure⟩
    case rel=>exact ⟨k+1,hlt,by go_num,HIK9.out⟩
    case measure=>exact meas_lt (by go_num) (by first | rfl | exact E9.out) hlt
   have g6:(d == 6)=false:=by simpa using h6
   have g7:(d == 7)=false:=by simpa using h7
   have g8:(d == 8)=false:=by simpa using h8
   have hst:=ST.out.do R.out.hw (x:=⟨d,r,a,b,i,z⟩) h6 h7 h8
   have hdm:=Wd.do_dims W1 ⟨d,r,a,b,i,z⟩
   obtain ⟨-,ψ,hR2⟩:=R.out.do ⟨d,r,a,b,i,z⟩
   have hrm:=fun hc hk=>R.out.rooms ST.out (x:=⟨d,r,a,b,i,z⟩) hc hk
   have hdo:=fun w' (M':HM w w' p h1 O1)=>M'.doR_c R.out ⟨d,r,a,b,i,z⟩
   unfold HDoRet at hdo
   unfold fullM needM at hrm
   rw [HMO.out,HGO.out] at hrm
   obtain ⟨⟨c,P⟩,hP⟩:∃ t,O1.do ⟨d,r,a,b,i,z⟩=t:=⟨_,rfl⟩
   simp only [hP] at hdo hR2 hrm
   have HDO:=Hz hdo
   have HIK:=Hz (show ∀ w' h',HM w w' p h' P→QInv w w' p n o from fun w' h' M'=>⟨h',_,M',_,ψ,hR2,hst,hdm.1.trans HMO.out,hdm.2.trans HGO.out⟩)
   have HRM:=Hz hrm
   clear h6 h7 h8 hst hdm hR2 hrm hdo hP
   obtain ⟨c0,pl⟩:=M.out.pc
   have q0:=M.out.B.H.ptrs.1;have ql:=M.out.B.H.hp.lt
   go_wp2_with fail
   refine (Used_c _ M.out.B.H.ha).mono ?_
   rintro e w5 ⟨rfl,hk5⟩
   have M5:=Hz (M.out.same hk5);have HB5:=Hz (hk5.blk HB.out (fun h=>h))
   clear hk5 c0 pl q0 ql M HB b0 b1 b2 b3 b4 b5 bl
   obtain ⟨c0,pl⟩:=M5.out.pc
   obtain ⟨ya,hya⟩:∃ y,((O1.ar.yng:Nat):Int)=y:=⟨_,rfl⟩
   obtain ⟨ga,hga⟩:∃ y,((O1.ar.grn-O1.ar.nur:Nat):Int)=y:=⟨_,rfl⟩
   obtain ⟨sz,hsz⟩:∃ z,sizeN O1.view.2=z:=⟨_,rfl⟩
   have hyb:0≤ya∧ya≤1280∧0≤ga∧ga≤1280:=by
    have:=M5.out.B.H.ok.ha.h1;have:=M5.out.B.H.ok.ha.h2;have:=M5.out.B.H.ok.ha.h3;have:=M5.out.B.H.ok.ha.h4;omega
   rw [hya,hga,hsz] at HRM
   rw [hya,hga]
   have HSZ:=Hz hsz
   clear hya hga hsz
   go_wp2_with fail
   refine (View_c _ M5.out.B.H).mono ?_
   rintro e w6 ⟨v6,rfl,hv,hk6⟩
   have M6:=Hz (M5.out.same hk6);have HB6:=Hz (hk6.blk HB5.out (fun h=>h));have V6:=Hz hv
   clear hk6 hv c0 pl M5 HB5
   go_wp2_with fail
   refine (Size_c _ O1.view _ (V6.out.rep R.out)).mono ?_
   rintro e w7 ⟨rfl,hk7⟩
   have M7:=Hz (M6.out.same hk7);have HB7:=Hz (hk7.blk HB6.out (fun h=>h))
   rw [HSZ.out]
   clear hk7 M6 HB6 V6
   have b0:=HB7.out.cell 0;have b1:=HB7.out.cell 1;have b2:=HB7.out.cell 2;have b3:=HB7.out.cell 3;have b4:=HB7.out.cell 4;have b5:=HB7.out.cell 5;have bl:=HB7.out.lt
   simp only [List.getElem?_cons_zero,List.getElem?_cons_succ] at b0 b1 b2 b3 b4 b5
   go_wp2_with (refine wpList_agg rfl 23 (.tmp 10) rfl [.int .i64 d, .int .i64 r, .int .i64 a, .int .i64 b, .int .i64 i, .int .i64 z] (by kernel_rfl) be 0 rfl (rangeAt_cons b0 (rangeAt_cons b1 (rangeAt_cons b2 (rangeAt_cons b3 (rangeAt_cons b4 (rangeAt_cons b5 rangeAt_nil)))))) ?_)
   refine (HDO.out _ M7.out).mono ?_
   rintro e w8 ⟨rfl,ht⟩
   obtain ⟨h8,M8',k8⟩:=M7.out.toK ht
   have HB8:=Hz (k8.blk HB7.out NB.out)
   have M8:=Hz M8'
   clear ht M8' k8 M7 HB7 b0 b1 b2 b3 b4 b5 bl HDO R
   have b0:=HB8.out.cell 0;have b1:=HB8.out.cell 1;have b2:=HB8.out.cell 2;have b3:=HB8.out.cell 3;have b4:=HB8.out.cell 4;have b5:=HB8.out.cell 5;have bl:=HB8.out.lt
   simp only [List.getElem?_cons_zero,List.getElem?_cons_succ] at b0 b1 b2 b3 b4 b5
   have HSF:=Hz (RStepFault_c ⟨d,r,a,b,i,z⟩)
   obtain ⟨f,hf⟩:∃ f,checkM ⟨d,r,a,b,i,z⟩=f:=⟨_,rfl⟩
   have HF:=Hz hf
   rw [hf] at HSF
   clear hf
   go_wp2_with (refine wpList_agg rfl 23 (.tmp 10) rfl [.int .i64 d, .int .i64 r, .int .i64 a, .int .i64 b, .int .i64 i, .int .i64 z] (by kernel_rfl) be 0 rfl (rangeAt_cons b0 (rangeAt_cons b1 (rangeAt_cons b2 (rangeAt_cons b3 (rangeAt_cons b4 (rangeAt_cons b5 rangeAt_nil)))))) ?_)
   refine (HSF.out _).mono ?_
   rintro e w9 ⟨rfl,hk9⟩
   have HIK9:=Hz (HIK.out _ _ (M8.out.same hk9));have HB9:=Hz (hk9.blk HB8.out (fun h=>h))
   clear hk9 M8 HB8 HSF HIK b0 b1 b2 b3 b4 b5 bl
   have b0:=HB9.out.cell 0;have b1:=HB9.out.cell 1;have b2:=HB9.out.cell 2;have b3:=HB9.out.cell 3;have b4:=HB9.out.cell 4;have b5:=HB9.out.cell 5;have bl:=HB9.out.lt
   simp only [List.getElem?_cons_zero,List.getElem?_cons_succ] at b0 b1 b2 b3 b4 b5
   by_cases hf0:f=0
   case neg=>
    have gf:(f != 0)=true:=by simpa using hf0
    clear hf0
    go_wp2_with fail
    refine ⟨⟨by kernel_rfl,?rel⟩,?measure⟩
    case rel=>exact ⟨k+1,hlt,by go_num,HIK9.out⟩
    case measure=>exact meas_lt (by go_num) (by first | rfl | exact E9.out) hlt
   subst hf0
   by_cases h4:d=4
   ·subst h4
    have hrm:=HRM.out HF.out (.inl rfl)
    rw [if_neg (by decide)] at hrm
    have HRM:=Hz hrm
    clear hrm
    have w1:IntKind.i64.wrap (n-ya)=n-ya:=IntWalk.i64_in _ (by omega)
    have w2:IntKind.i64.wrap (o-ga)=o-ga:=IntWalk.i64_in _ (by omega)
    by_cases hA:n-ya<3
    ·by_cases hB:o-ga<ya
     ·by_cases hC:o<sz
      ·obtain rfl:c=3:=HRM.out.1 ⟨hA,hB,hC⟩
       clear HRM
       go_wp2_with fail
       refine ⟨⟨by kernel_rfl,?rel⟩,?measure⟩
       case rel=>exact ⟨k+1,hlt,by go_num,HIK9.out⟩
       case measure=>exact meas_lt (by go_num) (by first | rfl | exact E9.out) hlt
      ·obtain rfl:c=0:=HRM.out.2 (fun h=>hC h.2.2)
       have hC:sz≤o:=by omega
       clear HRM
       go_wp2_with fail
       refine ⟨⟨by kernel_rfl,?rel⟩,?measure⟩
       case rel=>exact ⟨k+1,hlt,by go_num,HIK9.out⟩
       case measure=>exact meas_lt (by go_num) (by first | rfl | exact E9.out) hlt
     ·obtain rfl:c=0:=HRM.out.2 (fun h=>hB h.2.1)
      have hB:ya≤o-ga:=by omega
      clear HRM
      go_wp2_with fail
      refine ⟨⟨by kernel_rfl,?rel⟩,?measure⟩
      case rel=>exact ⟨k+1,hlt,by go_num,HIK9.out⟩
      case measure=>exact meas_lt (by go_num) (by first | rfl | exact E9.out) hlt
    ·obtain rfl:c=0:=HRM.out.2 (fun h=>hA h.1)
     have hA:3≤n-ya:=by omega
     clear HRM
     go_wp2_with fail
     refine ⟨⟨by kernel_rfl,?rel⟩,?measure⟩
     case rel=>exact ⟨k+1,hlt,by go_num,HIK9.out⟩
     case measure=>exact meas_lt (by go_num) (by first | rfl | exact E9.out) hlt
   by_cases h5:d=5
   ·subst h5
    have hzb:=(checkM_use HF.out).2.2.2.2.2 rfl
    dsimp only at hzb
    have hrm:=HRM.out HF.out (.inr rfl)
    rw [if_pos rfl] at hrm
    have HRM:=Hz hrm
    have wz:IntKind.i64.wrap (1+z)=1+z:=IntWalk.i64_in _ (by omega)
    clear hrm
    have w1:IntKind.i64.wrap (n-ya)=n-ya:=IntWalk.i64_in _ (by omega)
    have w2:IntKind.i64.wrap (o-ga)=o-ga:=IntWalk.i64_in _ (by omega)
    by_cases hA:n-ya<1+z
    ·by_cases hB:o-ga<ya
     ·by_cases hC:o<sz
      ·obtain rfl:c=3:=HRM.out.1 ⟨hA,hB,hC⟩
       clear HRM
       go_wp2_with fail
       refine ⟨⟨by kernel_rfl,?rel⟩,?measure⟩
       case rel=>exact ⟨k+1,hlt,by go_num,HIK9.out⟩
       case measure=>exact meas_lt (by go_num) (by first | rfl | exact E9.out) hlt
      ·obtain rfl:c=0:=HRM.out.2 (fun h=>hC h.2.2)
       have hC:sz≤o:=by omega
       clear HRM
       go_wp2_with fail
       refine ⟨⟨by kernel_rfl,?rel⟩,?measure⟩
       case rel=>exact ⟨k+1,hlt,by go_num,HIK9.out⟩
       case measure=>exact meas_lt (by go_num) (by first | rfl | exact E9.out) hlt
     ·obtain rfl:c=0:=HRM.out.2 (fun h=>hB h.2.1)
      have hB:ya≤o-ga:=by omega
      clear HRM
      go_wp2_with fail
      refine ⟨⟨by kernel_rfl,?rel⟩,?measure⟩
      case rel=>exact ⟨k+1,hlt,by go_num,HIK9.out⟩
      case measure=>exact meas_lt (by go_num) (by first | rfl | exact E9.out) hlt
    ·obtain rfl:c=0:=HRM.out.2 (fun h=>hA h.1)
     have hA:1+z≤n-ya:=by omega
     clear HRM
     go_wp2_with fail
     refine ⟨⟨by kernel_rfl,?rel⟩,?measure⟩
     case rel=>exact ⟨k+1,hlt,by go_num,HIK9.out⟩
     case measure=>exact meas_lt (by go_num) (by first | rfl | exact E9.out) hlt
   have g4:(d != 4)=true:=by simpa using h4
   have g5:(d != 5)=true:=by simpa using h5
   clear h4 h5
   go_wp2_with fail
   refine ⟨⟨by kernel_rfl,?rel⟩,?measure⟩
   case rel=>exact ⟨k+1,hlt,by go_num,HIK9.out⟩
   case measure=>exact meas_lt (by go_num) (by first | rfl | exact E9.out) hlt
  ·obtain rfl:k=m:=by omega
   obtain ⟨h1,O1,M1,-⟩:=HI.out
   have K1:=Hz M1.K
   clear HI M1
   go_wp2_with fail
   go_ret
   exact ⟨rfl,K1.out⟩
theorem HeapRooms_walk (n o:Int) (lo:Option Addr) (lc m:Nat) (xs:List Int) (w:World) (_:R64 n) (_:R64 o) (h0:Rd w lo (xs.map (Value.int .i64))) (hx:xs.length=m*6) (_:m≤maxLen) (hb:∀ x ∈ xs,R64 x) :
  Calls Try.prog 5 #[.int .i64 n, .int .i64 o, .slice lo m lc] w fun e w'=>e=.returned (.bool true)∧Below w.heap.size w w':=
 (HeapRooms_raw n o lo lc m xs w h0 hx hb).mono fun e w' ⟨h1,h2⟩=>⟨h1,h2.below (fun _ _ h=>h)⟩
end
end
end Go.Proofs.Ytjifdalflepcoac
