/-
  Parts of the proof, merged: what the functions do, and plain laws.
-/
import Derived.Test.YtjifdalflepcoadGreatTRPP19
set_option maxHeartbeats 16000000
set_option maxRecDepth 100000
set_option linter.unusedVariables false
set_option linter.unusedSimpArgs false
namespace Go.Proofs.YtjifdalflepcoadGreat
section
open Go.RowKit
section
variable {w w':World}
theorem su (n o cut:Int) (lo:Option Addr) (lc m:Nat) (L:List St) (w:World) (h0:Rd w lo (dD L)) (hx:L.length=m) (hmc:m<=lc) :
  Calls Tryz.prog 4 #[.int .i64 n, .int .i64 o, .slice lo m lc, .int .i64 cut] w λe w'=>e=.returned (.bool true)/\aa (λ_=>False) w w':=by
 have H0:=Hz h0;have HX:=Hz hx;clear h0 hx;go_enter Tryz.func4,Tryz.ntmps4;go_wp2_with fail;refine (pk _).mono ?_;rintro e w1 ⟨rfl,hk1⟩;have HK1:=Hz hk1;clear hk1;by_cases hm:250<m
 ·go_wp2_with fail;go_ret;exact ⟨rfl,HK1.o⟩
 have hm250:m<=250:=by omega
 have R1:=Hz (H0.o.ab HK1.o (λ_ _ _ h=>h));clear H0;obtain ⟨k,hk⟩:∃ k,k=l6 cut%(m+1):=⟨_,rfl⟩;have hkm:k<m+1:=by rw [hk];exact Nat.mod_lt _ (by omega)
 have hc1:((m+1:Nat):Int)=(m:Int)+1:=by omega
 have hx1:=ny cut;have hw1:IntKind.u64.wrap ((m:Int)+1)=(m:Int)+1:=by rw [ny];unfold l6;omega
 have hw0:IntKind.i64.wrap ((m:Int)+1)=(m:Int)+1:=IntWalk.i64_in _ (by omega);have hz2:((l6 cut:Int)).tmod ((m:Int)+1)=(k:Int):=by rw [<-hc1,si _ _ (by omega),hk]
 have hz3:((l6 cut:Int))%((m:Int)+1)=(k:Int):=by rw [<-hc1,hk];rfl
 have hnz:¬ ((m:Int)+1=0):=by omega
 have hki:IntKind.i64.wrap (k:Int)=(k:Int):=IntWalk.i64_in _ (by omega);clear hk hc1;go_upto_region 6 with fail
 cases hfit:Ar.fits n o
 ·go_wp2_with fail;refine (vm n o lo lc m _ hfit).mono ?_;rintro e w2 ⟨rfl,hk⟩;have kb:=((Kz w2).alloc (.cells #[.slice none 0 0, .slice none 0 0] 31)).alloc (.cells #[.int .i64 1, .int .i64 (-1)] 33);have F1:=Hz (show ak ((w2.alloc (.cells #[.slice none 0 0, .slice none 0 0] 31)).alloc (.cells #[.int .i64 1, .int .i64 (-1)] 33)) (w2.heap.size+1) [.int .i64 1, .int .i64 (-1)] 33 from ak.newAt _ (by simp) rfl);have HK3:=Hz ((HK1.o.trans hk).trans kb);clear hk kb;go_upto_region 7 with fail;generalize (w2.alloc (.cells #[.slice none 0 0, .slice none 0 0] 31)).alloc (.cells #[.int .i64 1, .int .i64 (-1)] 33)=w3 at *;generalize w2.heap.size=b1 at *;go_wp2_with fail;refine (vm n o lo lc k _ hfit).mono ?_;rintro e w4 ⟨rfl,hk⟩;have kb:=((Kz w4).alloc (.cells #[.slice none 0 0, .slice none 0 0] 31)).alloc (.cells #[.int .i64 1, .int .i64 (-1)] 33);have F2:=Hz (show ak ((w4.alloc (.cells #[.slice none 0 0, .slice none 0 0] 31)).alloc (.cells #[.int .i64 1, .int .i64 (-1)] 33)) (w4.heap.size+1) [.int .i64 1, .int .i64 (-1)] 33 from ak.newAt _ (by simp) rfl);have HK5:=Hz ((HK3.o.trans hk).trans kb);have F1:=Hz ((hk.trans kb).au F1.o (λh=>h));clear hk kb;go_upto_region 8 with fail;generalize (w4.alloc (.cells #[.slice none 0 0, .slice none 0 0] 31)).alloc (.cells #[.int .i64 1, .int .i64 (-1)] 33)=w5 at *;generalize w4.heap.size=b2 at *;go_wp2_with fail;refine (vm n o lo lc m _ hfit).mono ?_;rintro e w6 ⟨rfl,hk⟩;have kb:=((Kz w6).alloc (.cells #[.slice none 0 0, .slice none 0 0] 31)).alloc (.cells #[.int .i64 1, .int .i64 (-1)] 33);have F3:=Hz (show ak ((w6.alloc (.cells #[.slice none 0 0, .slice none 0 0] 31)).alloc (.cells #[.int .i64 1, .int .i64 (-1)] 33)) (w6.heap.size+1) [.int .i64 1, .int .i64 (-1)] 33 from ak.newAt _ (by simp) rfl);have HK7:=Hz ((HK5.o.trans hk).trans kb);have F1:=Hz ((hk.trans kb).au F1.o (λh=>h));have F2:=Hz ((hk.trans kb).au F2.o (λh=>h));clear hk kb;go_upto_region 9 with fail;generalize (w6.alloc (.cells #[.slice none 0 0, .slice none 0 0] 31)).alloc (.cells #[.int .i64 1, .int .i64 (-1)] 33)=w7 at *;generalize w6.heap.size=b3 at *;have c0:=F1.o.cell 0;have c1:=F1.o.cell 1;have cl:=F1.o.lt;have d0:=F2.o.cell 0;have d1:=F2.o.cell 1;have dl:=F2.o.lt;have e0:=F3.o.cell 0;have e1:=F3.o.cell 1;have el:=F3.o.lt;simp only [Lz,aB] at c0 c1 d0 d1 e0 e1;go_wp2_with fail;go_ret;exact ⟨rfl,HK7.o⟩
 obtain ⟨C,hC⟩:∃ C,(runL (Wd.new n o) L).1=C:=⟨_,rfl⟩;obtain ⟨V,hV⟩:∃ V,(runL (Wd.new n o) L).2.view=V:=⟨_,rfl⟩;have hCk:(runL (Wd.new n o) (L.take k)).1=C.take k:=by rw [yX,hC]
 have hLk:(L.take k).length=k:=by rw [Zx,HX.o];omega
 have HC:=Hz hC;have HV:=Hz hV;have HCK:=Hz hCk;have HLK:=Hz hLk;have HF:=Hz hfit;clear hC hV hCk hLk hfit;go_wp2_with fail;refine (mQ n o L lo lc m _ C V R1.o HX.o (by omega) HF.o HC.o HV.o).mono ?_;rintro e w2 ⟨ao,ac,ro,rc,no,nc,rfl,hk,out⟩;have kb:=((Kz w2).alloc (.cells #[.slice ro V.1.length rc, .slice no V.2.length nc] 31)).alloc (.cells #[.int .i64 0, .int .i64 0] 33);have O1:=Hz out;have R2:=Hz (R1.o.ab (hk.trans kb) (λ_ _ _ h=>h));have HK2:=Hz (HK1.o.trans (hk.trans kb));clear hk kb out R1 HK1;go_upto_region 7 with fail
 generalize (w2.alloc (.cells #[.slice ro V.1.length rc, .slice no V.2.length nc] 31)).alloc (.cells #[.int .i64 0, .int .i64 0] 33)=w3 at *;generalize w2.heap.size=b1 at *;go_wp2_with fail;obtain ⟨V',hV'⟩:∃ V,(runL (Wd.new n o) (L.take k)).2.view=V:=⟨_,rfl⟩;refine (mQ n o (L.take k) lo lc k _ (C.take k) V' (by rw [y7];exact R2.o.take _) HLK.o (by omega) HF.o HCK.o hV').mono ?_;clear hV';rintro e w4 ⟨ao',ac',ro',rc',no',nc',rfl,hk,out⟩;have kb:=((Kz w4).alloc (.cells #[.slice ro' V'.1.length rc', .slice no' V'.2.length nc'] 31)).alloc (.cells #[.int .i64 0, .int .i64 0] 33);have O2:=Hz out;have O1':=Hz (O1.o.same (hk.trans kb));have R3:=Hz (R2.o.ab (hk.trans kb) (λ_ _ _ h=>h));have HK3:=Hz (HK2.o.trans (hk.trans kb));clear hk kb out R2 HK2 O1;go_upto_region 8 with fail
 generalize (w4.alloc (.cells #[.slice ro' V'.1.length rc', .slice no' V'.2.length nc'] 31)).alloc (.cells #[.int .i64 0, .int .i64 0] 33)=w5 at *;generalize w4.heap.size=b2 at *;go_wp2_with fail;refine (mQ n o L lo lc m _ C V R3.o HX.o (by omega) HF.o HC.o HV.o).mono ?_;rintro e w6 ⟨ao2,ac2,ro2,rc2,no2,nc2,rfl,hk,out⟩;have kb:=((Kz w6).alloc (.cells #[.slice ro2 V.1.length rc2, .slice no2 V.2.length nc2] 31)).alloc (.cells #[.int .i64 0, .int .i64 0] 33);have O3:=Hz out;have P1:=Hz (O1'.o.same (hk.trans kb));have P2:=Hz (O2.o.same (hk.trans kb));have HK4:=Hz (HK3.o.trans (hk.trans kb));clear hk kb out R3 HK3 O1' O2;go_upto_region 9 with fail
 generalize (w6.alloc (.cells #[.slice ro2 V.1.length rc2, .slice no2 V.2.length nc2] 31)).alloc (.cells #[.int .i64 0, .int .i64 0] 33)=w7 at *;generalize w6.heap.size=b3 at *;obtain ⟨-,-,f0,f1,fl⟩:=P1.o.cells;obtain ⟨-,-,g0,g1,gl⟩:=P2.o.cells;obtain ⟨-,-,i0,i1,il⟩:=O3.o.cells;have hac:k<=ac:=by have:=P1.o.cap;omega
 go_wp2_with fail;refine (kZ ao' ao ac' ac k (C.take k) _ P2.o.rd (by rw [List.map_take];exact P1.o.rd.take _) P2.o.len (by omega)).mono ?_;rintro e w8 ⟨rfl,hk⟩;have Q1:=Hz (P1.o.same hk);have Q3:=Hz (O3.o.same hk);have HK5:=Hz (HK4.o.trans hk);clear hk f0 f1 fl g0 g1 gl i0 i1 il P1 P2 O3 HK4;go_wp2_with fail;refine (kZ ao ao2 ac ac2 m C _ Q1.o.rd Q3.o.rd Q1.o.len (by omega)).mono ?_;rintro e w9 ⟨rfl,hk⟩;have S1:=Hz (Q1.o.same hk);have S3:=Hz (Q3.o.same hk);have HK6:=Hz (HK5.o.trans hk);clear hk Q1 Q3 HK5;obtain ⟨f0,f1,-,-,fl⟩:=S1.o.cells;obtain ⟨g0,g1,-,-,gl⟩:=S3.o.cells;go_wp2_with fail;refine (oF _ _ V _ S1.o.vw S3.o.vw).mono ?_;rintro e w10 ⟨rfl,hk⟩;have HK7:=Hz (HK6.o.trans hk);clear hk f0 f1 fl g0 g1 gl S1 S3 HK6;go_wp2_with fail;go_ret;exact ⟨rfl,HK7.o⟩
theorem rO (n o:Int) (lo:Option Addr) (lc m:Nat) (xs:List Int) (cut:Int) (w:World) (_:bm n) (_:bm o) (h0:Rd w lo (xs.map (Value.int .i64))) (hx:xs.length=m*6) (_:m<=maxLen) (hc:m<=lc) (_:∀ x ∈ xs,bm x) (_:bm cut) :
  Calls Tryz.prog 4 #[.int .i64 n, .int .i64 o, .slice lo m lc, .int .i64 cut] w λe w'=>e=.returned (.bool true)/\Below w.heap.size w w':=by
 obtain ⟨hl,he⟩:=qC m xs hx;exact (su n o cut lo lc m (stL xs) w (by rw [he];exact h0) hl hc).mono λe w' ⟨h1,h2⟩=>⟨h1,h2.below (λ_ _ h=>h)⟩
end
end
end Go.Proofs.YtjifdalflepcoadGreat
