/-
  Parts of the proof, merged: what the functions do, and plain laws.
-/
import Derived.Test.YtjifdalflepcoacGreatTWRP3
set_option maxHeartbeats 16000000
set_option maxRecDepth 100000
set_option linter.unusedVariables false
set_option linter.unusedSimpArgs false
namespace Go.Proofs.YtjifdalflepcoacGreat
section
open Go.RowKit
section
variable {p g:Nat} {A:Ar}
end
def iF (n o:Int):Int × Int:=if Ar.fits n o=true then (0,0) else (1,-1)
theorem zx (a b:Int) (w:World) :
  Calls Tryz.prog 45 #[.int .i64 a, .int .i64 b] w fun e w'=>e=.returned (.agg #[.int .i64 a, .int .i64 b])∧aa (fun _=>False) w w':=by
 go_enter Tryz.func45,Tryz.ntmps45;go_wp2_with fail;exact bodyPost_ret (v:=.agg #[.int .i64 a, .int .i64 b]) (by simp [results,Tryz.results45,go_sem]) rfl ⟨rfl,(aa.refl _ _).alloc _⟩
theorem o9 (n o:Int) (w:World) :
  Calls Tryz.prog 14 #[.int .i64 n, .int .i64 o] w fun e w'=>e=.returned (.agg #[.int .i64 (iF n o).1, .int .i64 (iF n o).2])∧aa (fun _=>False) w w':=by
 cases hf:Ar.fits n o
 ·have HE:=Hz (show iF n o=(1,-1) by unfold iF;rw [hf];rfl);have hc:n<16∨256<n∨o<0∨1024<o:=by
   by_cases h1:16≤n
   ·by_cases h2:n≤256
    ·by_cases h3:0≤o
     ·by_cases h4:o≤1024
      ·simp [Ar.fits,h1,h2,h3,h4] at hf
      ·omega
     ·omega
    ·omega
   ·omega
  clear hf;by_cases c1:n<16
  ·have d1:decide (n<16)=true:=by simpa using c1
   clear hc;go_enter Tryz.func14,Tryz.ntmps14;go_wp2_with fail;refine (zx 1 (-1) _).mono ?_;rintro e w1 ⟨rfl,hk⟩;have hka:=(Kz w).alloc (.cells #[.int .i64 0, .int .i64 0] 28);have hb:=hk.aq (show aj (w.alloc (.cells #[.int .i64 0, .int .i64 0] 28)) w.heap.size [.int .i64 0, .int .i64 0] 28 from aj.newAt _ rfl rfl) (fun h=>h);have HKA:=Hz (hka.trans hk);have HB:=Hz hb;have l0:=hb.cell 0;have l1:=hb.cell 1;have ll:=hb.lt;have f0:=hb.free 0;have f1:=hb.free 1;simp only [Lz,aC] at l0 l1;clear hk hka hb;go_wp2_with fail;have dX:=(HB.out.aG 0 (.int .i64 1)).aG 1 (.int .i64 (-1));have x0:=dX.cell 0;have x1:=dX.cell 1;simp only [List.set_cons_zero,List.set_cons_succ,Lz,aC] at x0 x1;refine bodyPost_ret (v:=.agg #[.int .i64 1, .int .i64 (-1)]) (by simp [results,Tryz.results14,go_sem,x0,x1]) rfl ⟨by rw [HE.out],?_⟩;exact (HKA.out.setCell (p:=⟨w.heap.size,0,none⟩) (.inr (Nat.le_refl _)) _).setCell (p:=⟨w.heap.size,1,none⟩) (.inr (Nat.le_refl _)) _
  have d1:decide (n<16)=false:=by simpa using c1
  by_cases c2:256<n
  ·have d2:decide (256<n)=true:=by simpa using c2
   clear hc;go_enter Tryz.func14,Tryz.ntmps14;go_wp2_with fail;refine (zx 1 (-1) _).mono ?_;rintro e w1 ⟨rfl,hk⟩;have hka:=(Kz w).alloc (.cells #[.int .i64 0, .int .i64 0] 28);have hb:=hk.aq (show aj (w.alloc (.cells #[.int .i64 0, .int .i64 0] 28)) w.heap.size [.int .i64 0, .int .i64 0] 28 from aj.newAt _ rfl rfl) (fun h=>h);have HKA:=Hz (hka.trans hk);have HB:=Hz hb;have l0:=hb.cell 0;have l1:=hb.cell 1;have ll:=hb.lt;have f0:=hb.free 0;have f1:=hb.free 1;simp only [Lz,aC] at l0 l1;clear hk hka hb;go_wp2_with fail;have dX:=(HB.out.aG 0 (.int .i64 1)).aG 1 (.int .i64 (-1));have x0:=dX.cell 0;have x1:=dX.cell 1;simp only [List.set_cons_zero,List.set_cons_succ,Lz,aC] at x0 x1;refine bodyPost_ret (v:=.agg #[.int .i64 1, .int .i64 (-1)]) (by simp [results,Tryz.results14,go_sem,x0,x1]) rfl ⟨by rw [HE.out],?_⟩;exact (HKA.out.setCell (p:=⟨w.heap.size,0,none⟩) (.inr (Nat.le_refl _)) _).setCell (p:=⟨w.heap.size,1,none⟩) (.inr (Nat.le_refl _)) _
  have d2:decide (256<n)=false:=by simpa using c2
  by_cases c3:o<0
  ·have d3:decide (o<0)=true:=by simpa using c3
   clear hc;go_enter Tryz.func14,Tryz.ntmps14;go_wp2_with fail;refine (zx 1 (-1) _).mono ?_;rintro e w1 ⟨rfl,hk⟩;have hka:=(Kz w).alloc (.cells #[.int .i64 0, .int .i64 0] 28);have hb:=hk.aq (show aj (w.alloc (.cells #[.int .i64 0, .int .i64 0] 28)) w.heap.size [.int .i64 0, .int .i64 0] 28 from aj.newAt _ rfl rfl) (fun h=>h);have HKA:=Hz (hka.trans hk);have HB:=Hz hb;have l0:=hb.cell 0;have l1:=hb.cell 1;have ll:=hb.lt;have f0:=hb.free 0;have f1:=hb.free 1;simp only [Lz,aC] at l0 l1;clear hk hka hb;go_wp2_with fail;have dX:=(HB.out.aG 0 (.int .i64 1)).aG 1 (.int .i64 (-1));have x0:=dX.cell 0;have x1:=dX.cell 1;simp only [List.set_cons_zero,List.set_cons_succ,Lz,aC] at x0 x1;refine bodyPost_ret (v:=.agg #[.int .i64 1, .int .i64 (-1)]) (by simp [results,Tryz.results14,go_sem,x0,x1]) rfl ⟨by rw [HE.out],?_⟩;exact (HKA.out.setCell (p:=⟨w.heap.size,0,none⟩) (.inr (Nat.le_refl _)) _).setCell (p:=⟨w.heap.size,1,none⟩) (.inr (Nat.le_refl _)) _
  have d3:decide (o<0)=false:=by simpa using c3
  have d4:decide (1024<o)=true:=by simp;omega
  clear hc;go_enter Tryz.func14,Tryz.ntmps14;go_wp2_with fail;refine (zx 1 (-1) _).mono ?_;rintro e w1 ⟨rfl,hk⟩;have hka:=(Kz w).alloc (.cells #[.int .i64 0, .int .i64 0] 28);have hb:=hk.aq (show aj (w.alloc (.cells #[.int .i64 0, .int .i64 0] 28)) w.heap.size [.int .i64 0, .int .i64 0] 28 from aj.newAt _ rfl rfl) (fun h=>h);have HKA:=Hz (hka.trans hk);have HB:=Hz hb;have l0:=hb.cell 0;have l1:=hb.cell 1;have ll:=hb.lt;have f0:=hb.free 0;have f1:=hb.free 1;simp only [Lz,aC] at l0 l1;clear hk hka hb;go_wp2_with fail;have dX:=(HB.out.aG 0 (.int .i64 1)).aG 1 (.int .i64 (-1));have x0:=dX.cell 0;have x1:=dX.cell 1;simp only [List.set_cons_zero,List.set_cons_succ,Lz,aC] at x0 x1;refine bodyPost_ret (v:=.agg #[.int .i64 1, .int .i64 (-1)]) (by simp [results,Tryz.results14,go_sem,x0,x1]) rfl ⟨by rw [HE.out],?_⟩;exact (HKA.out.setCell (p:=⟨w.heap.size,0,none⟩) (.inr (Nat.le_refl _)) _).setCell (p:=⟨w.heap.size,1,none⟩) (.inr (Nat.le_refl _)) _
 ·have HE:=Hz (show iF n o=(0,0) by unfold iF;rw [hf];rfl);simp [Ar.fits] at hf;have d1:decide (n<16)=false:=by simp;omega
  have d2:decide (256<n)=false:=by simp;omega
  have d3:decide (o<0)=false:=by simp;omega
  have d4:decide (1024<o)=false:=by simp;omega
  clear hf;go_enter Tryz.func14,Tryz.ntmps14;go_wp2_with fail;refine bodyPost_ret (v:=.agg #[.int .i64 0, .int .i64 0]) (by simp [results,Tryz.results14,go_sem]) rfl ⟨?_,(aa.refl _ _).alloc _⟩;rw [HE.out]
end
section
open Go.RowKit
theorem Rd.nth {w:World} {ao:Option Addr} {l:List Int} (h:Rd w ao (l.map (Value.int .i64))) (i:Nat) (hi:i<l.length) :
  ∃ g o,ao=some ⟨g,o,none⟩∧g<w.heap.size∧w.cell? ⟨g,o+i,none⟩=some (.int .i64 (l.getD i 0)):=by
 obtain ⟨g,o,rfl,hg,hc⟩:=h (by intro e;simp at e;subst e;simp at hi);refine ⟨g,o,rfl,hg,?_⟩;rw [hc i (by simpa using hi)];simp [List.getD,hi]
def Cz:Ar:=((Ar.new 16 8).make 1 2).2
def CA:Ar:=(Cz.make 2 12).2
def CB:Ar:=(CA.make 5 0).2
def Bm:Ar:=(CB.copy 0).2
theorem b1:((Ar.new 16 8).make 1 2).1=0:=by decide +kernel
theorem b2:(Cz.make 2 12).1=3:=by decide +kernel
theorem b3:(CA.make 5 0).1=-1:=by decide +kernel
theorem b4:(CB.copy 0).1=16:=by decide +kernel
theorem b5:Bm.ai 16=(1,2,0):=by decide +kernel
theorem b6:Bm.aN=([0,3],[16]):=by decide +kernel
theorem b7:Bm.load 1=2:=by decide +kernel
end
section
open Go.RowKit
theorem qQ {l:List Nd} {k:Nat} (h:k<l.length):gw (l.take (k+1))=gw (l.take k)+(1+if (l.getD k (0,[])).1=5 then 0 else ((l.getD k (0,[])).2.length:Int)):=by
 rw [←List.take_append_getElem h];unfold gw;rw [List.map_append,List.sum_append];have e:l.getD k (0,[])=l[k]:=by rw [Ld,Le h];rfl
 rw [e];simp
theorem pb {l:List Nd} (hl:∀ n ∈ l,n.2.length≤1000000):∀ k:Nat,k≤l.length→0≤gw (l.take k)∧gw (l.take k)≤1000001*k
 | 0,_=>by simp [gw]
 | k+1,h=>by
  have ih:=pb hl k (by omega);have hm:(l.getD k (0,[])).2.length≤1000000:=by
   rw [Ld,Le (by omega)];exact hl _ (List.getElem_mem _)
  rw [qQ (by omega)];split
  ·omega
  ·omega
theorem Bn (x:Value) (V:List Vl × List Nd) (w:World) (h1:kE w x V) :
  Calls Tryz.prog 20 #[x] w fun e w'=>e=.returned (.int .i64 (gw V.2))∧aa (fun _=>False) w w':=by
 obtain ⟨ro,rc,nv,F,rfl,r1,n1,l1,l2,l3⟩:=h1;obtain ⟨no,nc,rfl,N1⟩:=n1.nth;have M1:=Hz n1;have L3:=Hz l3;clear r1 n1 N1 l3;go_enter Tryz.func20,Tryz.ntmps20;go_wp2_with fail;have hka:=(Kz w).alloc (.cells #[.slice ro V.1.length rc, .slice no V.2.length nc] 41);have hba:aj (w.alloc (.cells #[.slice ro V.1.length rc, .slice no V.2.length nc] 41)) w.heap.size [.slice ro V.1.length rc, .slice no V.2.length nc] 41:=aj.newAt _ rfl rfl;generalize w.alloc (.cells #[.slice ro V.1.length rc, .slice no V.2.length nc] 41)=wa at *;generalize w.heap.size=b at *;have KA:=Hz hka;have BA:=Hz hba;clear hka hba;go_loopw [3,4] (fun nn i wr=>∃ k:Nat,k≤V.2.length∧i=.int .i64 k∧nn=.int .i64 (gw (V.2.take k))∧aa (fun _=>False) w wr∧aj wr b [.slice ro V.1.length rc, .slice no V.2.length nc] 41) (fun _ i _=>V.2.length-(intOf i).toNat)
 case atStart=>exact ⟨0,Nat.zero_le _,rfl,rfl,KA.out,BA.out⟩
 case round=>
  obtain ⟨k,hk,rfl,rfl,hkk,ax⟩:=hrel;have HK:=Hz hkk;have HX1:=Hz ax;clear KA BA hkk ax;have c1:=HX1.out.cell 1;have cl:=HX1.out.lt;simp only [Lz,aC] at c1;by_cases hlt:k<V.2.length
  ·obtain ⟨no',nc',e',N1⟩:=(M1.out.ab HK.out (fun _ _ _ h=>h) (fun _ _ h=>h)).nth;cases e';obtain ⟨g,o,ao,ac,rfl,hgl,x0,x1,-,-⟩:=N1 k hlt;have hnl:(V.2.getD k (0,[])).2.length≤1000000:=by
    rw [Ld,Le hlt];exact L3.out _ (List.getElem_mem _)
   have hst:=qQ hlt;have hbd:=pb L3.out k hk;generalize gw (V.2.take k)=s at *;generalize V.2.getD k (0,[])=nd at *;have HST:=Hz hst;clear N1 hst;by_cases h5:nd.1=5
   ·have HS:=Hz (show gw (V.2.take (k+1))=s+1 by rw [HST.out,if_pos h5];omega);rw [h5] at x0;clear h5 HST;go_wp2_with fail;go_roundw
    case rel=>exact ⟨k+1,hlt,by go_num,by rw [HS.out],HK.out,HX1.out⟩
    case measure=>simp [intOf];omega
   ·have HS:=Hz (show gw (V.2.take (k+1))=s+1+nd.2.length by rw [HST.out,if_neg h5];omega);have hd:(nd.1 != 5)=true:=by simpa using h5
    clear h5 HST;go_wp2_with fail;go_roundw
    case rel=>exact ⟨k+1,hlt,by go_num,by rw [HS.out],HK.out,HX1.out⟩
    case measure=>simp [intOf];omega
  ·obtain rfl:k=V.2.length:=by omega
   rw [List.take_length];go_wp2_with fail;go_ret;exact ⟨rfl,HK.out⟩
end
section
open Go.RowKit
structure Bo where
 mb:Nat
 wb:Nat
 vb:Nat
 fb:Nat
section
variable {w w':World} {g:Bo} {h:RW} {W:Wd} {rv mv nv:Value} {F:Nat→Prop} {s:VS}
end
end
section
open Go.RowKit
section
variable {w w':World} {g:Bo} {h:RW} {W:Wd} {rv mv nv:Value} {F:Nat→Prop} {s:VS}
theorem aa.cellAt {S:Nat→Prop} {w w':World} (k:aa S w w') {b:Nat} (hb:b<w.heap.size) (hn:¬ S b) (i:Nat):w'.cell? ⟨b,i,none⟩=w.cell? ⟨b,i,none⟩:=
 World.cell?_of_block (w:=w) (a:=⟨b,i,none⟩) (k.block b hb hn)
section
variable {ao:Option Addr} {fs:List Vl} {w1 wr w2 wa:World} {xb rb tb:Nat} {tc xc rc:List Value} {lv lv2 mv' nv':Value} {l:List Vl} {F':Nat→Prop} {s2:VS} {v:Vl}
end
theorem Bp {G:Gr} {U:List Int} (I:uU G U) {n:Nat} {x:Int} {s:VS} (hx:x ∈ U) (j:Nat) (h:dA U (s.1 ++ [x])≤n) (hc:(s.1 ++ [x]).length+dA U (s.1 ++ [x])≤5000) :
  dA U (NS G n x s j).2.1≤n∧(NS G n x s j).2.1.length+dA U (NS G n x s j).2.1≤5000:=by
 unfold NS;obtain ⟨m,hm⟩:=kY (kZ G n) ((G x).2.take j) (s.1 ++ [x],s.2 ++ [((G x).1,[])]);have h1:=rk U (s.1 ++ [x]) m;have h2:=ir (f:=valM G n) (U:=U) (kz I n) ((G x).2.take j) (s.1 ++ [x],s.2 ++ [((G x).1,[])]) (fun v hv=>I.shut x hx v (List.mem_of_mem_take hv));rw [hm] at h2 ⊢;dsimp only at h2 ⊢;exact ⟨by omega,by omega⟩
end
end
section
open Go.RowKit
section
variable {w:World} {g:Bo} {h:RW} {W:Wd} {tb:Nat}
variable {wr w2:World} {rv mv nv:Value} {F:Nat→Prop} {s s2:VS} {l:List Vl}
end
def TR (W:Wd) (k:Nat):List Vl × VS:=fldM (valM W.gr 5000) (W.roots.take k) ([],[])
theorem Ag {W:Wd} {k:Nat} (h:k<W.roots.length):TR W (k+1)=((TR W k).1 ++ [(valM W.gr 5000 (W.roots.getD k (0,0)) (TR W k).2).1],(valM W.gr 5000 (W.roots.getD k (0,0)) (TR W k).2).2):=by
 unfold TR;have e:W.roots[k]? = some (W.roots.getD k (0,0)):=by rw [Le h];simp [List.getD,h]
 rw [List.take_add_one,e,Option.toList_some,mE]
 rfl
theorem Bq {W:Wd} {k:Nat} (h:k≤W.roots.length):(TR W k).1.length=k:=by
 unfold TR;rw [mF,List.length_take];omega
theorem zy {W:Wd} (h:W.ok) (k:Nat):dA W.all (TR W k).2.1≤5000∧(TR W k).2.1.length+dA W.all (TR W k).2.1≤5000:=by
 have I:=Wd.rS h;unfold TR;have h1:=Wd.rB h;have h2:=rm W.all;have h3:=ir (f:=valM W.gr 5000) (U:=W.all) (kz I 5000) (W.roots.take k) ([],[]) (fun v hv h3=>Wd.i7.2 (Wd.aY (h.rv v (List.mem_of_mem_take hv)) h3));simp only [List.length_nil] at h3;exact ⟨by omega,by omega⟩
end
section
open Go.RowKit
structure GX where
 l:Value
 ro:Value
 y:Value
 o:Value
 m:Value
 g:Value
variable {gx:GX}
structure bR (gx:GX) (w:World) (p:Nat) (rv wv:Value) (ah wait:List (Int × Int)):Prop where
 hp:aj w p [gx.l,gx.ro,rv,wv,gx.y,gx.o,gx.m,gx.g] 191
 hr:Sl w 101 2 rv ah.length (aE ah)
 hw:Sl w 101 2 wv wait.length (aE wait)
 ap:∀ k,¬ (ak rv k∧ak wv k)
theorem bR.pr {w:World} {p:Nat} {rv wv:Value} {ah wait:List (Int × Int)} (h:bR gx w p rv wv ah wait):¬ ak rv p:=fun hk=>by
 obtain ⟨_,cur,hc⟩:=h.hr.own hk;exact (hc.ne h.hp (by decide)) rfl
theorem bR.pw {w:World} {p:Nat} {rv wv:Value} {ah wait:List (Int × Int)} (h:bR gx w p rv wv ah wait):¬ ak wv p:=fun hk=>by
 obtain ⟨_,cur,hc⟩:=h.hw.own hk;exact (hc.ne h.hp (by decide)) rfl
theorem bR.jN {w:World} {p:Nat} {rv wv:Value} {ah wait:List (Int × Int)} (h:bR gx w p rv wv ah wait) {k:Nat} (hk:aF p rv wv k):k<w.heap.size:=by
 rcases hk with rfl | hk | hk
 ·exact h.hp.lt
 ·exact (h.hr.own hk).1
 ·exact (h.hw.own hk).1
theorem bR.ab {w w':World} {p:Nat} {rv wv:Value} {ah wait:List (Int × Int)} {S:Nat→Prop} (h:bR gx w p rv wv ah wait) (k:aa S w w') (hn:∀ b,aF p rv wv b→¬ S b):bR gx w' p rv wv ah wait:=
 ⟨k.aq h.hp (hn p (.inl rfl)),h.hr.ab k (fun g hg=>hn g (.inr (.inl hg))),h.hw.ab k (fun g hg=>hn g (.inr (.inr hg))),h.ap⟩
def rE (gx:GX) (w:World) (p:Nat) (rv wv:Value) (w':World) (ah wait:List (Int × Int)):Prop:=
 ∃ rv' wv',bR gx w' p rv' wv' ah wait∧aa (aF p rv wv) w w'∧∀ k,aF p rv' wv' k→aF p rv wv k∨w.heap.size≤k
theorem vt (p:Nat) (rv wv:Value) (ah wait:List (Int × Int)) (w:World) (h:bR gx w p rv wv ah wait) (h1:ah.length≤1000000) (h2:wait.length≤1000000) :
  Calls Tryz.prog 117 #[.pointer (some ⟨p,2,none⟩)] w fun e w'=>e=.returned (.bool (decide (24≤ah.length+wait.length)))∧aa (fun _=>False) w w':=by
 obtain ⟨ro,rc,rfl,_,_,_⟩:=h.hr.rd;obtain ⟨wo,wc,rfl,_,_,_⟩:=h.hw.rd;have c0:w.cell? ⟨p,2,none⟩=_:=h.hp.cell 2;have c1:w.cell? ⟨p,3,none⟩=_:=h.hp.cell 3;simp only [Lz,aC] at c0 c1;have hw:IntKind.i64.wrap ((ah.length:Int)+(wait.length:Int))=(ah.length:Int)+(wait.length:Int):=IntWalk.i64_in _ (by omega);go_enter Tryz.func117,Tryz.ntmps117;go_wp2_with fail;refine ct [(0,0),(1,0),(2,0),(5,0),(6,0),(7,0),(3,0),(4,0),(8,0),(9,0),(10,0),(11,0),(12,0)] (fun w'=>w'.cell? ⟨p,2,none⟩=some (.slice ro ah.length rc)∧w'.cell? ⟨p,3,none⟩=some (.slice wo wait.length wc)) (by kernel_rfl) (by kernel_rfl) ⟨c0,c1⟩ ?_
 iterate 13 (refine bj rfl rfl _ (fun w' hG=>by obtain ⟨g0,g1⟩:=hG;go_simp;exact bu.mk _ _) (fun K hK=>?_);go_simp;refine hK _ ?_;clear hK K)
 refine dv ?_;go_wp2_with fail;go_ret;refine ⟨db ?_,(aa.refl _ _).drew⟩;congr 1;simp only [eq_iff_iff];omega
theorem xF (p:Nat) (rv wv:Value) (ah wait:List (Int × Int)) (g t:Int) (w:World) (h:bR gx w p rv wv ah wait) (h1:ah.length≤1000000) (h2:wait.length≤1000000) (hf:24≤ah.length+wait.length) :
  Calls Tryz.prog 51 #[.pointer (some ⟨p,2,none⟩), .agg #[.int .i64 g, .int .i64 t]] w fun e w'=>e=.returned (.bool false)∧aa (fun _=>False) w w':=by
 have H:=Hz (h.ab ((Kz w).alloc (.cells #[.int .i64 g, .int .i64 t] 101)) (fun _ _ h=>h));clear h;have hd:decide (24≤ah.length+wait.length)=true:=by simpa using hf
 go_enter Tryz.func51,Tryz.ntmps51;go_wp2_with fail;refine (vt p rv wv ah wait _ H.out h1 h2).mono ?_;rintro e w1 ⟨rfl,hk⟩;rw [hd];go_wp2_with fail;go_ret;exact ⟨rfl,((aa.refl _ _).alloc _).trans hk⟩
theorem xG (p:Nat) (rv wv:Value) (ah wait:List (Int × Int)) (g t:Int) (w:World) (h:bR gx w p rv wv ah wait) (h1:ah.length≤1000000) (h2:wait.length≤1000000) (hf:¬ 24≤ah.length+wait.length) :
  Calls Tryz.prog 51 #[.pointer (some ⟨p,2,none⟩), .agg #[.int .i64 g, .int .i64 t]] w fun e w'=>e=.returned (.bool true)∧rE gx w p rv wv w' (ah ++ [(g,t)]) wait:=by
 obtain ⟨i0,hi,hz0,hz1,hz2⟩:=info_parts iq;have Hi:=Hz hi;have Hz0:=Hz hz0;have Hz1:=Hz hz1;have Hz2:=Hz hz2;clear hi hz0 hz1 hz2;have HW:=Hz h;have H:=Hz (h.ab ((Kz w).alloc (.cells #[.int .i64 g, .int .i64 t] 101)) (fun _ _ h=>h));have HB:=Hz (aj.newAt (w:=w) (b:=w.heap.size) (T:=101) #[.int .i64 g, .int .i64 t] rfl rfl);clear h;have hd:decide (24≤ah.length+wait.length)=false:=by simpa using hf
 obtain ⟨ro,rc,rfl,_,_,_⟩:=HW.out.hr.rd;go_enter Tryz.func51,Tryz.ntmps51;go_wp2_with fail;refine (vt p _ wv ah wait _ H.out h1 h2).mono ?_;rintro e w1 ⟨rfl,hk⟩;rw [hd];have HB1:=Hz (hk.aq HB.out (fun h=>h));have HW1:=Hz (H.out.ab hk (fun _ _ h=>h));have HK1:=Hz (((aa.refl (aF p (.slice ro ah.length rc) wv) w).alloc (.cells #[.int .i64 g, .int .i64 t] 101)).trans (hk.mono fun _ _ h=>h.elim));clear hk;have c0:=HW1.out.hp.cell 2;have b0:=HB1.out.cell 0;have b1:=HB1.out.cell 1;have f0:=HW1.out.hp.free 2;simp only [Lz,aC] at c0 b0 b1;go_wp2_with fail;refine ct [(0,0),(1,0),(2,0),(3,0),(4,0),(5,0),(6,1),(7,1),(8,0),(9,0),(10,2)] (fun w'=>w'.cell? ⟨p,2,none⟩=some (.slice ro ah.length rc)∧w'.cell? ⟨w.heap.size,0,none⟩=some (.int .i64 g)∧w'.cell? ⟨w.heap.size,1,none⟩=some (.int .i64 t)) (by kernel_rfl) (by kernel_rfl) ⟨c0,b0,b1⟩ ?_
 iterate 6 (refine bj rfl rfl _ (fun w' hG=>by obtain ⟨g0,g1,g2⟩:=hG;go_simp;exact bu.mk _ _) (fun K hK=>?_);go_simp;refine hK _ ?_;clear hK K)
 refine bx rfl rfl (fun K hK=>?_);unfold aw;go_simp;refine hK _ _ ?_ ?_
 ·have k:=(Kz w1).alloc (.cells #[.int .i64 g, .int .i64 t] 101);have b:=k.aq HW1.out.hp (fun h=>h);have b':=k.aq HB1.out (fun h=>h);exact ⟨b.cell 2,b'.cell 0,b'.cell 1⟩
 clear hK K;refine bx rfl rfl (fun K hK=>?_);refine dF (.tmp 11) (.tmp 13) 131 rfl 101 i0 (.agg #[.int .i64 0, .int .i64 0]) 2 16 Tryz.underlying131 Hi.out Hz0.out Hz1.out Hz2.out rfl (by decide) _ ah.length (aE ah) rfl ?ha ⟨w1.heap.size,0,none⟩ 1 1 [.int .i64 g, .int .i64 t] rfl rfl ?hb ?hc ?hd ?he ?hf
 case ha=>exact HW1.out.hr.ab (((Kz w1).alloc _).drew) (fun _ _ h=>h)
 case hb=>exact bX w1 101 #[.int .i64 g, .int .i64 t]
 case hc=>intro u hu;simp at hu;rcases hu with rfl | rfl <;> rfl
 case hd=>unfold maxLen;omega
 case he=>omega
 case hf=>
  intro v2 w2 hs2 hk2 ho2;have hka:aa (fun _=>False) w1 ((w1.alloc (.cells #[.int .i64 g, .int .i64 t] 101)).drew):=((Kz w1).alloc _).drew;have hp2:=hk2.aq (hka.aq HW1.out.hp (fun h=>h)) HW1.out.pr;have hw2:=(HW1.out.hw.ab hka (fun _ _ h=>h)).ab hk2 (fun b hb hr=>HW1.out.ap b ⟨hr,hb⟩);have bH:=hk2.aq (hka.aq HB1.out (fun h=>h)) (fun hr=>by have:=(HW.out.hr.own hr).1;omega);refine hK _ _ ⟨hp2.cell 2,bH.cell 0,bH.cell 1⟩ ?_;clear hK K;have hs3:Sl w2 101 2 v2 (ah ++ [(g,t)]).length (aE (ah ++ [(g,t)])):=by simpa [aE] using hs2
  obtain ⟨vo,vc,rfl,_,_,_⟩:=hs3.rd;have HK2:Hid (aa (aF p (.slice ro ah.length rc) wv) w w2):=(HK1.out.trans (hka.mono fun _ _ h=>h.elim)).trans (hk2.mono fun k _ hk=>.inr (.inl hk));have HO:Hid (∀ k,ak (.slice vo (ah ++ [(g,t)]).length vc) k→ak (.slice ro ah.length rc) k∨w.heap.size≤k):=fun k hk=>by
   rcases ho2 k hk with h | h
   ·exact .inl h
   ·have:=HK1.out.size;simp at h;exact .inr (by omega)
  have HP:=Hz hp2;have HW2:=Hz hw2;have HS:=Hz hs3;have HWL:Hid (∀ k,ak wv k→k<w.heap.size):=fun k hk=>(HW.out.hw.own hk).1;clear hs2 hk2 ho2 hka hp2 hw2 bH hs3;have d0:=HP.out.cell 2;have e0:=HP.out.free 2;simp only [Lz,aC] at d0
  iterate 2 (refine bj rfl rfl _ (fun w' hG=>by obtain ⟨g0,g1,g2⟩:=hG;go_simp;exact bu.mk _ _) (fun K hK=>?_);go_simp;refine hK _ ?_;clear hK K)
  refine kr rfl rfl (fun K hK=>?_);unfold aw;go_simp;refine hK _ _ ?_;clear hK K;refine dv ?_;go_wp2_with fail;go_ret;refine ⟨rfl,_,_,⟨by simpa using HP.out.aG 2 _,HS.out.ab ((aa.refl (·=p) w2).setCell (p:=⟨p,2,none⟩) (.inl rfl) _) ?_,HW2.out.ab ((aa.refl (·=p) w2).setCell (p:=⟨p,2,none⟩) (.inl rfl) _) ?_,?_⟩,HK2.out.setCell (p:=⟨p,2,none⟩) (.inl (.inl rfl)) _,?_⟩
  ·rintro b hb rfl;obtain ⟨_,cur,hc⟩:=HS.out.own hb;exact (hc.ne HP.out (by decide)) rfl
  ·rintro b hb rfl;obtain ⟨_,cur,hc⟩:=HW2.out.own hb;exact (hc.ne HP.out (by decide)) rfl
  ·rintro k ⟨h1,h2⟩;rcases HO.out k h1 with h | h
   ·exact HW.out.ap k ⟨h,h2⟩
   ·have:=HWL.out k h2;omega
  ·rintro k (h | h | h)
   ·exact .inl (.inl h)
   ·rcases HO.out k h with h | h
    ·exact .inl (.inr (.inl h))
    ·exact .inr h
   ·exact .inl (.inr (.inr h))
end
section
open Go.RowKit
variable {gx:GX}
theorem xH (p:Nat) (rv wv:Value) (ah wait:List (Int × Int)) (x:Int) (w:World) (h:bR gx w p rv wv ah wait) (h2:wait.length≤1000000) (hf:¬ findG x wait<wait.length) :
  Calls Tryz.prog 146 #[.pointer (some ⟨p,2,none⟩), .int .i64 x] w fun e w'=>e=.returned (.tuple #[.int .i64 0, .bool false])∧aa (fun _=>False) w w':=by
 obtain ⟨wo,wc,rfl,hrd,_,_⟩:=h.hw.rd;have hka:=(Kz w).alloc (.cells #[.int .i64 x] 2);have H:=Hz (h.ab hka (fun _ _ h=>h));have c1:=H.out.hp.cell 3;simp only [Lz,aC] at c1;have HR:=Hz (hrd.ab hka (fun _ _ _ h=>h));have HE:=Hz (show kV x wait=-1 by unfold kV;rw [if_neg hf]);have hbx:(w.alloc (.cells #[.int .i64 x] 2)).cell? ⟨w.heap.size,0,none⟩=some (.int .i64 x):=by simp
 have HBX:=Hz hbx;clear h hrd hka hf hbx;go_enter Tryz.func146,Tryz.ntmps146;go_wp2_with fail;refine (jO wo wc w.heap.size x wait _ HR.out HBX.out (by omega) (by simp)).mono ?_;rintro e w1 ⟨rfl,hk⟩;rw [HE.out];go_wp2_with fail;go_ret2;exact ⟨rfl,((aa.refl _ _).alloc _).trans hk⟩
theorem xI (p:Nat) (rv wv:Value) (ah wait:List (Int × Int)) (x:Int) (i m:Nat) (w:World) (h:bR gx w p rv wv ah wait) (h2:wait.length≤1000000) (hf:findG x wait=i) (hm:wait.length=i+1+m) :
  Calls Tryz.prog 146 #[.pointer (some ⟨p,2,none⟩), .int .i64 x] w fun e w'=>e=.returned (.tuple #[.int .i64 (wait.getD i (0,0)).2, .bool true])∧rE gx w p rv wv w' ah (wait.eraseIdx i):=by
 have HW:=Hz h;have hka:=(Kz w).alloc (.cells #[.int .i64 x] 2);have h1:=h.ab hka (fun _ _ h=>h);obtain ⟨g,o,cap,cur,rfl,hb,hnc,hcm,hoc,hx⟩:=h1.hw.laid (by omega);obtain ⟨_,_,e,hrd,_,_⟩:=h1.hw.rd;cases e;have H:=Hz h1;have c1:=H.out.hp.cell 3;simp only [Lz,aC] at c1;have HR:=Hz hrd;have HE:=Hz (show kV x wait=(i:Int) by unfold kV;rw [hf,if_pos (by omega)]);have hbx:(w.alloc (.cells #[.int .i64 x] 2)).cell? ⟨w.heap.size,0,none⟩=some (.int .i64 x):=by simp
 have HBX:=Hz hbx;have HM:=Hz hm;have hcm':cap≤9223372036854775807:=by simpa [maxLen] using hcm
 have HX:=Hz hx;have HB:=Hz hb;have hlo:i+1+m≤wait.length:=by omega
 have h2':i+1+m≤1000000:=by omega
 have hlt:i<wait.length:=by omega
 clear h hrd hf hbx hm h1 hka hx hb hcm;go_enter Tryz.func146,Tryz.ntmps146;go_wp2_with fail;refine (jO (some ⟨g,o,none⟩) cap w.heap.size x wait _ HR.out HBX.out (by omega) (by simp)).mono ?_;rintro e w1 ⟨rfl,hk⟩;rw [HE.out];have HK1:=Hz (((aa.refl (aF p rv (.slice (some ⟨g,o,none⟩) wait.length cap)) w).alloc (.cells #[.int .i64 x] 2)).trans (hk.mono fun _ _ h=>h.elim));have H1:=Hz (H.out.ab hk (fun _ _ h=>h));have HB1:=Hz (hk.aq HB.out (fun h=>h));obtain ⟨g',o',e',_,d0,d1⟩:=((HR.out.ab hk (fun _ _ _ h=>h))).fP i (by omega);cases e';clear hk c1;have c1:=H1.out.hp.cell 3;simp only [Lz,aC] at c1;have ht:(i:Int)<((wait.length:Nat):Int):=by omega
 generalize hv:wait.getD i (0,0)=v at *;have HV:=Hz hv;clear hv;go_wp2_with fail;rw [HM.out];refine (sR g o cap i m wait cur _ HB1.out HM.out (by omega) hcm' hoc HX.out).mono ?_;rintro e w2 ⟨rfl,hs2,hk2⟩;have hpg:p≠g:=fun e=>by subst e;exact (HB1.out.ne H1.out.hp (by decide)) rfl
 have HP2:=Hz (hk2.aq H1.out.hp hpg);have HR2:=Hz (H1.out.hr.ab hk2 (by rintro b hb rfl;exact H1.out.ap b ⟨hb,rfl⟩));have HK2:Hid (aa (aF p rv (.slice (some ⟨g,o,none⟩) wait.length cap)) w w2):=HK1.out.trans (hk2.mono (by rintro k _ rfl;exact .inr (.inr rfl)));have HS2:=Hz hs2;have e1:=HP2.out.cell 3;have f1:=HP2.out.free 3;simp only [Lz,aC] at e1;clear hs2 hk2 c1 d0 d1;go_wp2_with fail;go_ret2;have hlen:(wait.eraseIdx i).length=i+m:=by rw [List.length_eraseIdx_of_lt hlt,HM.out];omega
 refine ⟨by rw [HV.out];rfl,rv, .slice (some ⟨g,o,none⟩) (i+m) cap,⟨by simpa using HP2.out.aG 3 _,HR2.out.ab ((aa.refl (·=p) w2).setCell (p:=⟨p,3,none⟩) (.inl rfl) _) ?_,?_,?_⟩,HK2.out.setCell (p:=⟨p,3,none⟩) (.inl (.inl rfl)) _,?_⟩
 ·rintro b hb rfl;exact HW.out.pr hb
 ·rw [hlen];exact HS2.out.ab ((aa.refl (·=p) w2).setCell (p:=⟨p,3,none⟩) (.inl rfl) _) (by rintro b hb rfl;simp [ak,Value.ownBlock] at hb;exact hpg hb.symm)
 ·rintro k ⟨a1,a2⟩;exact HW.out.ap k ⟨a1,a2⟩
 ·rintro k (a | a | a)
  ·exact .inl (.inl a)
  ·exact .inl (.inr (.inl a))
  ·exact .inl (.inr (.inr a))
theorem Cm (p:Nat) (rv wv:Value) (ah wait:List (Int × Int)) (x:Int) (w:World) (h:bR gx w p rv wv ah wait) (h2:wait.length≤1000000) :
  Calls Tryz.prog 157 #[.pointer (some ⟨p,2,none⟩), .int .i64 x] w fun e w'=>sT w e w' (gD x wait):=by
 obtain ⟨i0,hi,hz0,hz1,hz2⟩:=info_parts qm;have Hi:=Hz hi;have Hz0:=Hz hz0;have Hz1:=Hz hz1;have Hz2:=Hz hz2;clear hi hz0 hz1 hz2;obtain ⟨wo,wc,rfl,hrd,_,_⟩:=h.hw.rd;have c1:=h.hp.cell 3;simp only [Lz,aC] at c1;have H:=Hz h;have HR:=Hz hrd;clear h hrd;go_enter Tryz.func157,Tryz.ntmps157;go_wp2_with fail;go_loopw [5,13] (fun v i wr=>∃ k:Nat,k≤wait.length∧i=.int .i64 k∧Sl wr 2 1 v (gD x (wait.take k)).length ((gD x (wait.take k)).map (Value.int .i64))∧aa (fun _=>False) w wr∧∀ k,ak v k→w.heap.size≤k) (fun _ i _=>wait.length-(intOf i).toNat)
 case atStart=>exact ⟨0,Nat.zero_le _,rfl,by simpa [gD] using Sl.nil w 2 1,aa.refl _ _,by intro k hk;simp [ak,Value.ownBlock] at hk⟩
 case round=>
  obtain ⟨k,hk,rfl,hs,hkk,how⟩:=hrel;have HK:=Hz hkk;have HS:=Hz hs;have HO:=Hz how;clear hkk hs how;have hal:(gD x (wait.take k)).length≤k:=Nat.le_trans (qn _ _) (List.length_take_le _ _);by_cases hlt:k<wait.length
  ·obtain ⟨g,o,rfl,_,d0,d1⟩:=((HR.out.ab HK.out (fun _ _ _ h=>h))).fP k hlt;have HST:=Hz (sS (x:=x) hlt);generalize wait.getD k (0,0)=v at *;cases hv:(v.1 == x)
   ·go_wp2_with fail;go_roundw
    case rel=>exact ⟨k+1,by omega,by go_num,by rw [HST.out,hv];simpa using HS.out.ab ((Kz wr).alloc _) (fun _ _ h=>h),HK.out.alloc _,HO.out⟩
    case measure=>simp [intOf];omega
   ·go_wp2_with (at_builtin;refine da rfl (.tmp 21) (.tmp 24) 50 rfl 2 i0 (.int .i64 0) 1 8 Tryz.underlying50 Hi.out Hz0.out Hz1.out Hz2.out rfl (by decide) _ (gD x (wait.take k)).length ((gD x (wait.take k)).map (Value.int .i64)) rfl ?ha ⟨wr.heap.size+1,0,none⟩ 1 1 [.int .i64 v.2] rfl rfl ?hb ?hc ?hd ?he ?hf)
    case ha=>exact HS.out.ab (((Kz wr).alloc _).alloc _) (fun _ _ h=>h)
    case hb=>
     have:=bX (wr.alloc (Obj.cells #[.int .i64 v.1, .int .i64 v.2] 101)) 2 #[.int .i64 v.2];simpa using this
    case hc=>intro u hu;simp at hu;subst hu;rfl
    case hd=>unfold maxLen;omega
    case he=>omega
    case hf=>
     intro v2 w2 hs2 hk2 ho2;have HK2:=Hz (((HK.out.alloc (Obj.cells #[.int .i64 v.1, .int .i64 v.2] 101)).alloc (Obj.cells #[.int .i64 v.2] 2)).then hk2 (fun j hj=>.inr (HO.out j hj)));have HO2:Hid (∀ j,ak v2 j→w.heap.size≤j):=fun j hj=>by
      rcases ho2 j hj with h | h
      ·exact HO.out j h
      ·have:=HK.out.size;first | omega | (simp at h;omega)
     have HS2:=Hz hs2;clear hs2 hk2 ho2;go_wp2_with fail;go_roundw
     case rel=>exact ⟨k+1,by omega,by go_num,by rw [HST.out,if_pos hv];simpa using HS2.out,HK2.out,HO2.out⟩
     case measure=>simp [intOf];omega
  ·obtain rfl:k=wait.length:=by omega
   go_wp2_with fail;go_ret;have hs:=HS.out;rw [List.take_length] at hs;obtain ⟨ao,cap,rfl,_,_,_⟩:=hs.rd;exact ⟨ao,cap,rfl,hs,HK.out,HO.out⟩
end
section
open Go.RowKit
variable {gx:GX}
theorem Ah (p:Nat) (rv wv:Value) (ah wait:List (Int × Int)) (w:World) (h:bR gx w p rv wv ah wait) (h1:ah.length≤1000000) (h2:wait.length≤1000000) :
  Calls Tryz.prog 68 #[.pointer (some ⟨p,2,none⟩)] w fun e w'=>uT w e w' ah wait:=by
 obtain ⟨ro,rc,rfl,_,_,_⟩:=h.hr.rd;obtain ⟨wo,wc,rfl,_,_,_⟩:=h.hw.rd;have c0:=h.hp.cell 2;have c1:=h.hp.cell 3;simp only [Lz,aC] at c0 c1;have H:=Hz h;clear h;go_enter Tryz.func68,Tryz.ntmps68;go_wp2_with fail;refine ct [(0,0),(1,0),(2,0),(5,0),(6,0),(7,0),(3,0),(8,0),(4,1),(9,1),(10,0),(11,1),(12,0)] (fun w'=>w'.cell? ⟨p,2,none⟩=some (.slice ro ah.length rc)∧w'.cell? ⟨p,3,none⟩=some (.slice wo wait.length wc)) (by kernel_rfl) (by kernel_rfl) ⟨c0,c1⟩ ?_
 iterate 8 (refine bj rfl rfl _ (fun w' hG=>by obtain ⟨g0,g1⟩:=hG;go_simp;exact bu.mk _ _) (fun K hK=>?_);go_simp;refine hK _ ?_;clear hK K)
 refine bx rfl rfl (fun K hK=>?_);unfold aw;go_simp;refine (oM _ ah _ (H.out.hr.ab ((Kz w).drew) (fun _ _ h=>h)) h1).mono ?_;rintro e w1 ⟨ao,ac,rfl,hs,hk,ho⟩;have HK1:=Hz (((Kz w).drew).trans hk);have H1:=Hz (H.out.ab HK1.out (fun _ _ h=>h));have HS:=Hz hs;have HO:=Hz ho;have HSL:Hid (∀ k,ak (.slice ao ah.length ac) k→k<w1.heap.size):=fun k hk=>(HS.out.own hk).1;clear hs hk ho;refine hK _ _ ⟨H1.out.hp.cell 2,H1.out.hp.cell 3⟩ ?_;clear hK K;refine bx rfl rfl (fun K hK=>?_);unfold aw;go_simp;refine (oM _ wait _ H1.out.hw h2).mono ?_;rintro e w2 ⟨bo,bc,rfl,hs,hk,ho⟩;have HK2:=Hz (HK1.out.trans hk);have H2:=Hz (H1.out.ab hk (fun _ _ h=>h));have HS1:=Hz (HS.out.ab hk (fun _ _ h=>h));have HS2:=Hz hs;have HO2:=Hz ho;have hsz:=HK1.out.size;clear hs hk ho HS;refine hK _ _ ⟨H2.out.hp.cell 2,H2.out.hp.cell 3⟩ ?_;clear hK K
 iterate 1 (refine bj rfl rfl _ (fun w' hG=>by obtain ⟨g0,g1⟩:=hG;go_simp;exact bu.mk _ _) (fun K hK=>?_);go_simp;refine hK _ ?_;clear hK K)
 refine bx rfl rfl (fun K hK=>?_);unfold aw;go_simp;refine hK _ _ ?_ ?_
 ·have:=H2.out.hp.alloc (Obj.cells #[Value.slice ao ah.length ac,Value.slice bo wait.length bc] 133);exact ⟨this.cell 2,this.cell 3⟩
 clear hK K
 iterate 1 (refine bj rfl rfl _ (fun w' hG=>by obtain ⟨g0,g1⟩:=hG;go_simp;exact bu.mk _ _) (fun K hK=>?_);go_simp;refine hK _ ?_;clear hK K)
 refine dv ?_;go_wp2_with fail;go_ret;refine ⟨w2.heap.size, .slice ao ah.length ac, .slice bo wait.length bc,rfl,⟨.newAt _ rfl rfl,HS1.out.ab ((Kz w2).alloc _) (fun _ _ h=>h),HS2.out.ab ((Kz w2).alloc _) (fun _ _ h=>h),?_⟩,HK2.out.alloc _,?_⟩
 ·rintro k ⟨a1,a2⟩;have:=HO2.out k a2;have:=HSL.out k a1;omega
 ·rintro k (a | a | a)
  ·subst a;exact HK2.out.size
  ·exact HO.out k a
  ·exact Nat.le_trans hsz (HO2.out k a)
end
section
open Go.RowKit
variable {gx:GX}
structure eU (gx:GX) (P:Program) (p:Nat) (τ:Type) where
 J:World→τ→(Nat→Prop)→Prop
 D:τ→Int→Prop
 DK:τ→Int→Prop
 Q:Int × Int→Prop
 alive:τ→Int→Bool
 ab:τ→List (Int × Int)→Int→τ × List (Int × Int) × Int
 now:τ→Int→Int
 fa:FuncId
 fk:FuncId
 fn:FuncId
 a1:Array Value
 a2:Array Value
 k1:Array Value
 k2:Array Value
 n1:Array Value
 n2:Array Value
 ea:∀ (args:Array Value) (w:World),(callFunc fa args).run P w=.ok (.enter fa args) w
 ek:∀ (args:Array Value) (w:World),(callFunc fk args).run P w=.ok (.enter fk args) w
 en:∀ (args:Array Value) (w:World),(callFunc fn args).run P w=.ok (.enter fn args) w
 J_keep:∀ {w w' t F S},J w t F→aa S w w'→(∀ k,F k→¬ S k)→J w' t F
 J_lt:∀ {w t F k},J w t F→F k→k<w.heap.size
 cS:∀ (w t F x),J w t F→D t x→Calls P fa (a1.push (.int .i64 x) ++ a2) w fun e w'=>e=.returned (.bool (alive t x))∧aa (fun _=>False) w w'
 now_c:∀ (w t F x),J w t F→D t x→Calls P fn (n1.push (.int .i64 x) ++ n2) w fun e w'=>e=.returned (.int .i64 (now t x))∧aa (fun _=>False) w w'
 keep_c:∀ (w t F rv wv ah wait x),J w t F→bR gx w p rv wv ah wait→ez F p rv wv→DK t x→(∀ e ∈ wait,(D t e.1∧D t e.2)∧Q e)→wait.length≤1000000 →
  Calls P fk (k1.push (.int .i64 x) ++ k2) w fun e w'=>e=.returned (.int .i64 (ab t wait x).2.2)∧∃ F',J w' (ab t wait x).1 F'∧bR gx w' p rv wv ah (ab t wait x).2.1∧ez F' p rv wv ∧
   aa (fun k=>F k∨aF p rv wv k) w w'∧∀ k,F' k→F k∨w.heap.size≤k
 DK_D:∀ {t x},DK t x→D t x
 DK_keep:∀ {t wait x y},DK t x→DK t y→DK (ab t wait x).1 y
 D_keep:∀ {t wait x y},DK t x→D t y→D (ab t wait x).1 y
 D_new:∀ {t wait x},DK t x→D (ab t wait x).1 (ab t wait x).2.2
 D_wait:∀ {t wait x},DK t x→(∀ e ∈ wait,D t e.1∧D t e.2)→∀ e ∈ (ab t wait x).2.1,D (ab t wait x).1 e.1∧D (ab t wait x).1 e.2
 Q_new:∀ {t wait e},DK t e.2→Q e→Q (e.1,(ab t wait e.2).2.2)
 Q_wait:∀ {t wait x},(∀ e ∈ wait,Q e)→∀ e ∈ (ab t wait x).2.1,Q e
 keep_len:∀ {t wait x},(ab t wait x).2.1.length=wait.length
def eU.val {P:Program} {p:Nat} {τ:Type} (L:eU gx P p τ):Value:=
 .agg #[.func (.func L.fa) L.a1 L.a2, .func (.func L.fk) L.k1 L.k2, .func (.func L.fn) L.n1 L.n2]
end
section
open Go.RowKit
variable {gx:GX}
variable {τ:Type}
def eU.cells {P:Program} {p:Nat} (L:eU gx P p τ):List Value:=[.func (.func L.fa) L.a1 L.a2, .func (.func L.fk) L.k1 L.k2, .func (.func L.fn) L.n1 L.n2]
structure ij {P:Program} {p:Nat} (L:eU gx P p τ) (w:World) (F:Nat→Prop) (rv wv:Value) (b0 b1 b2:Nat) (items:List It) (q:List (Int × Int)) (t':τ) (F':Nat→Prop) (wv':Value) (wr:World):Prop where
 hJ:L.J wr t' F'
 hS:bR gx wr p rv wv' (items.map (·.1)) q
 hA:ez F' p rv wv'
 hK:aa (fun b=>F b∨aF p rv wv b) w wr
 hF:∀ b,F' b→F b∨w.heap.size≤b
 hO:∀ b,ak wv' b→ak wv b∨w.heap.size≤b
 h0:aj wr b0 L.cells 113
 h1:aj wr b1 (items.map fun i=>.bool i.2.1) 4
 h2:aj wr b2 (items.map fun i=>.bool i.2.2) 4
 n0:¬ F' b0
 n1:¬ F' b1
 n2:¬ F' b2
 g0:w.heap.size≤b0
 g1:w.heap.size≤b1
 g2:w.heap.size≤b2
 b12:b1≠b2
 hq:∀ e ∈ q,(L.D t' e.1∧L.D t' e.2)∧L.Q e
 hr:∀ i ∈ items,(L.D t' i.1.1∧L.DK t' i.1.2)∧L.Q i.1
theorem bR.nI {w:World} {p b:Nat} {rv wv:Value} {ah wait:List (Int × Int)} {c:List Value} {T:TypeId} (h:bR gx w p rv wv ah wait) (hb:aj w b c T) (h1:T≠191) (h2:T≠101):¬ aF p rv wv b:=by
 rintro (rfl | h' | h')
 ·exact hb.ne h.hp h1 rfl
 ·obtain ⟨_,cur,hc⟩:=h.hr.own h';exact hb.ne hc h2 rfl
 ·obtain ⟨_,cur,hc⟩:=h.hw.own h';exact hb.ne hc h2 rfl
section
variable {P:Program} {p:Nat} {L:eU gx P p τ} {w:World} {F:Nat→Prop} {rv wv:Value} {b0 b1 b2:Nat} {items:List It} {q:List (Int × Int)} {t':τ} {F':Nat→Prop} {wv':Value} {wr:World}
theorem ij.ab {w2:World} (h:ij L w F rv wv b0 b1 b2 items q t' F' wv' wr) (k:aa (fun _=>False) wr w2):ij L w F rv wv b0 b1 b2 items q t' F' wv' w2:=
 ⟨L.J_keep h.hJ k (fun _ _ h=>h),h.hS.ab k (fun _ _ h=>h),h.hA,h.hK.trans (k.mono fun _ _ h=>h.elim),h.hF,h.hO,k.aq h.h0 (fun h=>h),k.aq h.h1 (fun h=>h),k.aq h.h2 (fun h=>h),h.n0,h.n1,h.n2,h.g0,h.g1,h.g2,h.b12,h.hq,h.hr⟩
theorem ij.move {i:It} {a b:List It} (h:ij L w F rv wv b0 b1 b2 (a ++ i :: b) q t' F' wv' wr):ij L w F rv wv b0 b1 b2 (a ++ (i.1,i.2.1,true) :: b) q t' F' wv' (wr.setCell ⟨b2,a.length,none⟩ (.bool true)):=by
 have k:=(aa.refl (·=b2) wr).setCell (p:=⟨b2,a.length,none⟩) (.inl rfl) (.bool true);have hn:¬ aF p rv wv' b2:=h.hS.nI h.h2 (by decide) (by decide);refine ⟨L.J_keep h.hJ k (by rintro b hb rfl;exact h.n2 hb),?_,h.hA,h.hK.setCell (p:=⟨b2,a.length,none⟩) (.inr h.g2) _,h.hF,h.hO,k.aq h.h0 (fun e=>?_),?_,?_,h.n0,h.n1,h.n2,h.g0,h.g1,h.g2,h.b12,h.hq,?_⟩
 ·have:=h.hS.ab k (by rintro b hb rfl;exact hn hb);simpa using this
 ·subst e;exact h.h0.ne h.h2 (by decide) rfl
 ·have:=k.aq h.h1 h.b12;simpa using this
 ·have:=h.h2.aG a.length (.bool true);simpa using this
 ·intro j hj;simp only [List.mem_append,List.mem_cons] at hj;rcases hj with hj | rfl | hj
  ·exact h.hr j (by simp [hj])
  ·exact h.hr i (by simp)
  ·exact h.hr j (by simp [hj])
theorem ij.kept {x:Int} {w2:World} {F2:Nat→Prop} (h:ij L w F rv wv b0 b1 b2 items q t' F' wv' wr) (hx:L.DK t' x)
  (hJ:L.J w2 (L.ab t' q x).1 F2) (hS:bR gx w2 p rv wv' (items.map (·.1)) (L.ab t' q x).2.1) (hA:ez F2 p rv wv') (hk:aa (fun k=>F' k∨aF p rv wv' k) wr w2) (hF2:∀ k,F2 k→F' k∨wr.heap.size≤k) :
  ij L w F rv wv b0 b1 b2 items (L.ab t' q x).2.1 (L.ab t' q x).1 F2 wv' w2:=by
 have out:∀ {b:Nat} {c:List Value} {T:TypeId},aj wr b c T→¬ F' b→T≠191→T≠101→aj w2 b c T∧¬ F2 b:=fun {b c T} hb hn h1 h2=>
  ⟨hk.aq hb (by rintro (h3 | h3);exact hn h3;exact h.hS.nI hb h1 h2 h3),fun h3=>by
   rcases hF2 _ h3 with h4 | h4
   ·exact hn h4
   ·have:=hb.lt;omega⟩
 refine ⟨hJ,hS,hA,h.hK.then hk ?_,?_,h.hO,(out h.h0 h.n0 (by decide) (by decide)).1,(out h.h1 h.n1 (by decide) (by decide)).1,(out h.h2 h.n2 (by decide) (by decide)).1,
  (out h.h0 h.n0 (by decide) (by decide)).2,(out h.h1 h.n1 (by decide) (by decide)).2,(out h.h2 h.n2 (by decide) (by decide)).2,h.g0,h.g1,h.g2,h.b12,fun e he=>⟨L.D_wait hx (fun e he=>(h.hq e he).1) e he,L.Q_wait (fun e he=>(h.hq e he).2) e he⟩,fun i hi=>⟨⟨L.D_keep hx (h.hr i hi).1.1,L.DK_keep hx (h.hr i hi).1.2⟩,(h.hr i hi).2⟩⟩
 ·rintro b (hb | hb | hb | hb)
  ·rcases h.hF b hb with h1 | h1
   ·exact .inl (.inl h1)
   ·exact .inr h1
  ·exact .inl (.inr (.inl hb))
  ·exact .inl (.inr (.inr (.inl hb)))
  ·rcases h.hO b hb with h1 | h1
   ·exact .inl (.inr (.inr (.inr h1)))
   ·exact .inr h1
 ·intro b hb;rcases hF2 b hb with h1 | h1
  ·exact h.hF b h1
  ·exact .inr (Nat.le_trans h.hK.size h1)
theorem ij.app {e:Int × Int} {w2:World} {v2:Value} (h:ij L w F rv wv b0 b1 b2 items q t' F' wv' wr) (he:(L.D t' e.1∧L.D t' e.2)∧L.Q e)
  (hs:Sl w2 101 2 v2 (q ++ [e]).length (aE (q ++ [e]))) (hk:aa (ak wv') wr w2) (ho:∀ k,ak v2 k→ak wv' k∨wr.heap.size≤k) :
  ij L w F rv wv b0 b1 b2 items (q ++ [e]) t' F' v2 (w2.setCell ⟨p,3,none⟩ v2):=by
 have hkp:=(aa.refl (·=p) w2).setCell (p:=⟨p,3,none⟩) (.inl rfl) v2;have hpw:=h.hS.pw;have hp2:=hk.aq h.hS.hp hpw;have hFp:¬ F' p:=fun hb=>h.hA p ⟨hb, .inl rfl⟩;have out:∀ {b:Nat} {c:List Value} {T:TypeId},aj wr b c T→T≠191→T≠101→aj (w2.setCell ⟨p,3,none⟩ v2) b c T:=fun {b c T} hb h1 h2=>by
  have hn:=h.hS.nI hb h1 h2;exact hkp.aq (hk.aq hb (fun h3=>hn (.inr (.inr h3)))) (fun h3=>hn (.inl h3))
 have hv2p:¬ ak v2 p:=fun hb=>by
  obtain ⟨_,cur,hc⟩:=hs.own hb;exact hp2.ne hc (by decide) rfl
 refine ⟨L.J_keep (L.J_keep h.hJ hk (fun b hb h1=>h.hA b ⟨hb, .inr (.inr h1)⟩)) hkp (by rintro b hb rfl;exact hFp hb),⟨by simpa using hp2.aG 3 v2,?_,?_,?_⟩,?_,?_,h.hF,?_,out h.h0 (by decide) (by decide),out h.h1 (by decide) (by decide),out h.h2 (by decide) (by decide),
  h.n0,h.n1,h.n2,h.g0,h.g1,h.g2,h.b12,?_,h.hr⟩
 ·exact (h.hS.hr.ab hk (fun b hb h1=>h.hS.ap b ⟨hb,h1⟩)).ab hkp (by rintro b hb rfl;exact h.hS.pr hb)
 ·exact hs.ab hkp (by rintro b hb rfl;exact hv2p hb)
 ·rintro b ⟨h1,h2⟩;rcases ho b h2 with h3 | h3
  ·exact h.hS.ap b ⟨h1,h3⟩
  ·have:=(h.hS.hr.own h1).1;omega
 ·rintro b ⟨h1,h2 | h2 | h2⟩
  ·exact h.hA b ⟨h1, .inl h2⟩
  ·exact h.hA b ⟨h1, .inr (.inl h2)⟩
  ·rcases ho b h2 with h3 | h3
   ·exact h.hA b ⟨h1, .inr (.inr h3)⟩
   ·have:=L.J_lt h.hJ h1;omega
 ·refine (h.hK.then hk (fun b hb=>?_)).setCell (p:=⟨p,3,none⟩) (.inl (.inr (.inl rfl))) _;rcases h.hO b hb with h1 | h1
  ·exact .inl (.inr (.inr (.inr h1)))
  ·exact .inr h1
 ·intro b hb;rcases ho b hb with h1 | h1
  ·exact h.hO b h1
  ·exact .inr (Nat.le_trans h.hK.size h1)
 ·intro e' he';simp only [List.mem_append,List.mem_singleton] at he';rcases he' with he' | rfl
  ·exact h.hq _ he'
  ·exact he
end
def gM {P:Program} {p:Nat} (L:eU gx P p τ) (w:World) (F:Nat→Prop) (rv wv:Value) (b0 b1 b2:Nat) (t1:τ) (q1:List (Int × Int)) (items:List It) (N:Nat) (wr:World) (k:Nat) (more:Bool):Prop:=
 ∃ t' q' F' wv' done,done.length=k∧ij L w F rv wv b0 b1 b2 (done ++ items.drop k) q' t' F' wv' wr∧q'.length+cH (done ++ items.drop k)≤N ∧
  scanM L.alive L.ab t1 q1 items=((scanM L.alive L.ab t' q' (items.drop k)).1,(scanM L.alive L.ab t' q' (items.drop k)).2.1,done ++ (scanM L.alive L.ab t' q' (items.drop k)).2.2.1,more || (scanM L.alive L.ab t' q' (items.drop k)).2.2.2)
theorem gM.skip {P:Program} {p:Nat} {L:eU gx P p τ} {w:World} {F:Nat→Prop} {rv wv:Value} {b0 b1 b2:Nat} {t1:τ} {q1:List (Int × Int)} {items:List It} {N:Nat} {wr w2:World} {k:Nat} {more:Bool}
  {t':τ} {q':List (Int × Int)} {F':Nat→Prop} {wv':Value} {done:List It} {i:It} (hd:done.length=k) (hdr:items.drop k=i :: items.drop (k+1)) (hm:ij L w F rv wv b0 b1 b2 (done ++ i :: items.drop (k+1)) q' t' F' wv' wr) (hN:q'.length+cH (done ++ i :: items.drop (k+1))≤N)
  (he:scanM L.alive L.ab t1 q1 items=((scanM L.alive L.ab t' q' (i :: items.drop (k+1))).1,(scanM L.alive L.ab t' q' (i :: items.drop (k+1))).2.1,done ++ (scanM L.alive L.ab t' q' (i :: items.drop (k+1))).2.2.1,more || (scanM L.alive L.ab t' q' (i :: items.drop (k+1))).2.2.2))
  (hk2:aa (fun _=>False) wr w2) (hc:((i.2.1 && !i.2.2) && L.alive t' i.1.1)=false):gM L w F rv wv b0 b1 b2 t1 q1 items N w2 (k+1) more:=by
 have e:done ++ i :: items.drop (k+1)=(done ++ [i]) ++ items.drop (k+1):=by simp
 refine ⟨t',q',F',wv',done ++ [i],by simp [hd],?_,?_,?_⟩
 ·rw [←e];exact hm.ab hk2
 ·rw [←e];exact hN
 ·rw [he];simp only [scanM,hc,if_neg (show ¬ (false=true) by decide),List.append_assoc,List.cons_append,List.nil_append]
theorem gM.yI {P:Program} {p:Nat} {L:eU gx P p τ} {w:World} {F:Nat→Prop} {rv wv:Value} {b0 b1 b2:Nat} {t1:τ} {q1:List (Int × Int)} {items:List It} {N:Nat} {w2:World} {k:Nat} {more:Bool}
  {t':τ} {q':List (Int × Int)} {F2:Nat→Prop} {v2:Value} {done:List It} {i:It} (hd:done.length=k) (hN:q'.length+cH (done ++ i :: items.drop (k+1))≤N)
  (he:scanM L.alive L.ab t1 q1 items=((scanM L.alive L.ab t' q' (i :: items.drop (k+1))).1,(scanM L.alive L.ab t' q' (i :: items.drop (k+1))).2.1,done ++ (scanM L.alive L.ab t' q' (i :: items.drop (k+1))).2.2.1,more || (scanM L.alive L.ab t' q' (i :: items.drop (k+1))).2.2.2))
  (hm:ij L w F rv wv b0 b1 b2 (done ++ (i.1,i.2.1,true) :: items.drop (k+1)) ((L.ab t' q' i.1.2).2.1 ++ [(i.1.1,(L.ab t' q' i.1.2).2.2)]) (L.ab t' q' i.1.2).1 F2 v2 w2)
  (hc:((i.2.1 && !i.2.2) && L.alive t' i.1.1)=true):gM L w F rv wv b0 b1 b2 t1 q1 items N w2 (k+1) true:=by
 have e:done ++ (i.1,i.2.1,true) :: items.drop (k+1)=(done ++ [(i.1,i.2.1,true)]) ++ items.drop (k+1):=by simp
 refine ⟨(L.ab t' q' i.1.2).1,(L.ab t' q' i.1.2).2.1 ++ [(i.1.1,(L.ab t' q' i.1.2).2.2)],F2,v2,done ++ [(i.1,i.2.1,true)],by simp [hd],?_,?_,?_⟩
 ·rw [←e];exact hm
 ·rw [←e];simp only [Bool.and_eq_true,Bool.not_eq_true'] at hc;simp only [List.length_append,L.keep_len,vd,iL,hc.1.2] at hN ⊢;simp at hN ⊢;omega
 ·rw [he];simp only [scanM,hc,if_true,List.append_assoc,List.cons_append,List.nil_append,Bool.or_true,Bool.true_or]
end
section
def bW (t:List Bool × List Nat) (v:Vl):List Bool × List Nat:=if v.1=3∧au t.1 v.2=false then (t.1.set v.2.toNat true,t.2 ++ [v.2.toNat]) else t
def cE (l:List Bool):Nat:=(l.map fun b=>if b then 0 else 1).sum
theorem tN:∀ {l:List Bool} {i:Nat},i<l.length→l.getD i false=false→cE (l.set i true)+1=cE l
 | [],i,h,_=>by simp at h
 | b :: l,0,_,h=>by
  have hb:b=false:=by simpa using h
  subst hb;simp [cE];omega
 | b :: l,i+1,h,h2=>by
  have ih:=tN (l:=l) (i:=i) (by simpa using h) (by simpa using h2);have e1:cE ((b :: l).set (i+1) true)=(if b then 0 else 1)+cE (l.set i true):=by simp [cE]
  have e2:cE (b :: l)=(if b then 0 else 1)+cE l:=by simp [cE]
  omega
def iz (W:Wd) (is:List Bool) (i:Int):Prop:=
 (((W.th i).k=1∨(W.th i).k=2)→∀ v ∈ (W.th i).fs,v.1=3→au is v.2=true)∧((W.th i).k=3→∀ v,(W.th i).fs[1]? = some v→v.1=3→au is v.2=true)
def jT (W:Wd) (is:List Bool) (i:Int):Prop:=
 au is i=true→(W.th i).k=4→bS is ((W.th i).fs.getD 0 (0,0))=true→∀ v,(W.th i).fs[1]? = some v→v.1=3→au is v.2=true
def qR (is:List Bool) (e:Int × Int):Prop:=au is e.1=true→au is e.2=true
structure GI (W:Wd) (q:List (Int × Int)) (s0:List Bool) (E:Int→Prop) (t:List Bool × List Nat):Prop where
 len:t.1.length=W.T.length
 up:∀ i,au s0 i=true→au t.1 i=true
 al:∀ i,au t.1 i=true→cI W.nd q (fun k=>au s0 k=true) i
 lv:∀ i,au t.1 i=true→W.live i
 nx:∀ k ∈ t.2,au t.1 ((k:Nat):Int)=true
 nd:t.2.Nodup
 lk:∀ i,au t.1 i=true→i.toNat ∉ t.2→¬ E i→iz W t.1 i
theorem iz.mono {W:Wd} {is is':List Bool} {i:Int} (h:iz W is i) (hs:∀ k,au is k=true→au is' k=true):iz W is' i:=
 ⟨fun hk v hv h3=>hs _ (h.1 hk v hv h3),fun hk v hv h3=>hs _ (h.2 hk v hv h3)⟩
section
variable {W:Wd} {q:List (Int × Int)} {s0:List Bool} {E:Int→Prop} {t:List Bool × List Nat}
theorem pO (hl:t.1.length=W.T.length) (v:Vl) (hv:v.1=3→W.live v.2):∀ i,au t.1 i=true→au (bW t v).1 i=true:=by
 intro i hi;unfold bW;split
 ·rename_i h;have hlv:=hv h.1;exact (gL hlv.1 (by rw [hl];exact hlv.2.1)).2 (.inr hi)
 ·exact hi
theorem kJ {v:Vl} (h:(bW t v).2=[]):bW t v=t:=by
 unfold bW at h ⊢;split
 ·rename_i hc;rw [if_pos hc] at h;simp at h
 ·rfl
theorem lM {v:Vl} (h:(bW t v).2=[]):t.2=[]:=by rw [kJ h] at h;exact h
theorem jH (hl:t.1.length=W.T.length) (v:Vl) (hv:v.1=3→W.live v.2) (h3:v.1=3):au (bW t v).1 v.2=true:=by
 have hlv:=hv h3;unfold bW;split
 ·exact (gL hlv.1 (by rw [hl];exact hlv.2.1)).2 (.inl rfl)
 ·rename_i hc;cases h:au t.1 v.2
  ·exact absurd ⟨h3,h⟩ hc
  ·rfl
theorem kK (hl:t.1.length=W.T.length) (v:Vl) (hv:v.1=3→W.live v.2):2*cE (bW t v).1+(bW t v).2.length≤2*cE t.1+t.2.length∧cE (bW t v).1≤cE t.1∧((bW t v).2=t.2∨cE (bW t v).1<cE t.1)∧t.2.length≤(bW t v).2.length:=by
 unfold bW;split
 ·rename_i h;have hlv:=hv h.1;have hlt:v.2.toNat<t.1.length:=by rw [hl];have:=hlv.1;have:=hlv.2.1;omega
  have hf:t.1.getD v.2.toNat false=false:=by rw [dh hlv.1];exact h.2
  have:=tN hlt hf;simp only [List.length_append,List.length_singleton];exact ⟨by omega,by omega, .inr (by omega),by omega⟩
 ·exact ⟨Nat.le_refl _,Nat.le_refl _, .inl rfl,Nat.le_refl _⟩
theorem GI.mark (G:GI W q s0 E t) {v:Vl} (hv:v.1=3→W.live v.2∧cI W.nd q (fun k=>au s0 k=true) v.2):GI W q s0 E (bW t v):=by
 have hup:=pO G.len v (fun h=>(hv h).1);unfold bW at hup ⊢;split
 ·rename_i h;rw [if_pos h] at hup;obtain ⟨hlv,hal⟩:=hv h.1;have hset:=fun i=>gL (is:=t.1) (x:=v.2) (i:=i) hlv.1 (by rw [G.len];exact hlv.2.1);have hnm:v.2.toNat ∉ t.2:=fun hm=>by
   have:=G.nx _ hm;rw [show ((v.2.toNat:Nat):Int)=v.2 by have:=hlv.1;omega,h.2] at this;cases this
  refine ⟨by simp [G.len],fun i hi=>hup i (G.up i hi),fun i hi=>?_,fun i hi=>?_,fun k hk=>?_,?_,fun i hi hn he=>?_⟩
  ·rcases (hset i).1 hi with rfl | h1
   ·exact hal
   ·exact G.al i h1
  ·rcases (hset i).1 hi with rfl | h1
   ·exact hlv
   ·exact G.lv i h1
  ·rcases List.mem_append.1 hk with h1 | h1
   ·exact hup _ (G.nx k h1)
   ·simp at h1;subst h1;exact (hset _).2 (.inl (by have:=hlv.1;omega))
  ·rw [List.nodup_append];exact ⟨G.nd,by simp,fun a ha b hb=>by simp at hb;subst hb;rintro rfl;exact hnm ha⟩
  ·simp only [List.mem_append,List.mem_singleton,not_or] at hn;rcases (hset i).1 hi with rfl | h1
   ·exact absurd rfl hn.2
   ·exact (G.lk i h1 hn.1 he).mono hup
 ·exact G
theorem GI.mn (G:GI W q s0 E t):t.2.length≤W.T.length:=by
 have h:∀ k ∈ t.2,k<W.T.length:=fun k hk=>by have:=(G.lv _ (G.nx k hk)).2.1;omega
 have:=List.Nodup.length_le_of_subset (l₁:=t.2) (l₂:=List.range W.T.length) G.nd (fun k hk=>List.mem_range.2 (h k hk));simpa using this
theorem GI.pop {is:List Bool} {k:Nat} {r:List Nat} (G:GI W q s0 (fun _=>False) (is,k :: r)):GI W q s0 (fun i=>i=(k:Int)) (is,r):=
 ⟨G.len,G.up,G.al,G.lv,fun j hj=>G.nx j (by simp [hj]),(List.nodup_cons.1 G.nd).2,fun i hi hn he=>G.lk i hi (by
  simp only [List.mem_cons,not_or];refine ⟨fun e=>he ?_,hn⟩
  have:=(G.lv i hi).1;omega) (fun h=>h)⟩
theorem GI.done {k:Nat} (G:GI W q s0 (fun i=>i=(k:Int)) t) (h:iz W t.1 (k:Int)):GI W q s0 (fun _=>False) t:=
 ⟨G.len,G.up,G.al,G.lv,G.nx,G.nd,fun i hi hn _=>by
  by_cases e:i=(k:Int)
  ·subst e;exact h
  ·exact G.lk i hi hn e⟩
theorem GI.closed {is:List Bool} (hok:W.ok) (G:GI W q s0 (fun _=>False) (is,[])) (hs:s0.length=W.T.length) (he:∀ i:Nat,i<W.T.length→jT W is (i:Int)) (hw:∀ e ∈ q,qR is e):is=W.cT q s0:=by
 refine zY (by rw [hs];exact G.len) G.up G.al (fun a b ha hl=>?_);have hlk:=G.lk a ha (by simp) (fun h=>h);have hlv:=G.lv a ha;rcases hl with ⟨h1,h2⟩ | ⟨h1,h2⟩ | ⟨h1,h2,h3⟩ | ⟨h1,h2⟩
 ·exact hlk.1 h1 (3,b) h2 rfl
 ·exact hlk.2 h1 (3,b) h2 rfl
 ·have:=he a.toNat (by have:=hlv.1;have:=hlv.2.1;omega);rw [show ((a.toNat:Nat):Int)=a by have:=hlv.1;omega] at this;refine this ha h1 ?_ (3,b) h2 rfl;have h2':(W.th a).fs[1]? = some (3,b):=h2;have h0:1<(W.th a).fs.length:=(List.getElem?_eq_some_iff.1 h2').1;have e0:(W.th a).fs[0]? = some (W.th a).fs[0]:=Le (by omega);unfold bS;rw [Ld,e0];dsimp only [Option.getD_some];by_cases h4:((W.th a).fs[0]).1=3
  ·simp [h3 _ e0 h4]
  ·simp [h4]
 ·exact hw (a,b) h2 ha
end
end
section
structure MI (W:Wd) (X:Int→Prop) (t:List Bool × List Nat):Prop where
 len:t.1.length=W.T.length
 eq:∀ i,au t.1 i=true↔X i
 lv:∀ i,au t.1 i=true→W.live i
 nx:∀ k ∈ t.2,au t.1 ((k:Nat):Int)=true
 nd:t.2.Nodup
 al:∀ i,au t.1 i=true→i.toNat ∈ t.2
section
variable {W:Wd} {X Y:Int→Prop} {t:List Bool × List Nat} {is:List Bool} {q:List (Int × Int)} {major:Bool}
theorem MI.congr (M:MI W X t) (h:∀ i,X i↔Y i):MI W Y t:=⟨M.len,fun i=>(M.eq i).trans (h i),M.lv,M.nx,M.nd,M.al⟩
theorem MI.mark (M:MI W X t) {v:Vl} (hv:v.1=3→W.live v.2):MI W (fun i=>X i∨(v.1=3∧i=v.2)) (bW t v):=by
 unfold bW;split
 ·rename_i h;have hlv:=hv h.1;have hset:=fun i=>gL (is:=t.1) (x:=v.2) (i:=i) hlv.1 (by rw [M.len];exact hlv.2.1);have hnm:v.2.toNat ∉ t.2:=fun hm=>by
   have:=M.nx _ hm;rw [show ((v.2.toNat:Nat):Int)=v.2 by have:=hlv.1;omega,h.2] at this;cases this
  refine ⟨by simp [M.len],fun i=>?_,fun i hi=>?_,fun k hk=>?_,?_,fun i hi=>?_⟩
  ·rw [hset i,M.eq i];constructor
   ·rintro (h1 | h1)
    ·exact .inr ⟨h.1,h1⟩
    ·exact .inl h1
   ·rintro (h1 | h1)
    ·exact .inr h1
    ·exact .inl h1.2
  ·rcases (hset i).1 hi with rfl | h1
   ·exact hlv
   ·exact M.lv i h1
  ·rcases List.mem_append.1 hk with h1 | h1
   ·exact (hset _).2 (.inr (M.nx k h1))
   ·simp at h1;subst h1;exact (hset _).2 (.inl (by have:=hlv.1;omega))
  ·rw [List.nodup_append];exact ⟨M.nd,by simp,fun a ha b hb=>by simp at hb;subst hb;rintro rfl;exact hnm ha⟩
  ·rcases (hset i).1 hi with rfl | h1
   ·simp
   ·exact List.mem_append.2 (.inl (M.al i h1))
 ·rename_i h;refine M.congr fun i=>⟨.inl,fun h1=>?_⟩;rcases h1 with h1 | ⟨h1,rfl⟩
  ·exact h1
  ·rw [←M.eq];cases e:au t.1 v.2
   ·exact absurd ⟨h1,e⟩ h
   ·rfl
theorem MI.gi (M:MI W X t):GI W q t.1 (fun _=>False) t:=
 ⟨M.len,fun i h=>h,fun i h=>cI.base h,M.lv,M.nx,M.nd,fun i hi hn _=>absurd (M.al i hi) hn⟩
theorem MI.mn (M:MI W X t):t.2.length≤W.T.length:=(M.gi (q:=[])).mn
def X1 (W:Wd) (major:Bool) (n:Nat) (i:Int):Prop:=0≤i∧i<n∧(W.th i).aI=true∧(W.th i).dead=false∧major=false
def X2 (W:Wd) (major:Bool) (k:Nat) (i:Int):Prop:=X1 W major W.T.length i∨((3,i):Vl) ∈ W.roots.take k
theorem MI.zero:MI W (X1 W major 0) (List.replicate W.T.length false,[]):=by
 have hf:∀ i,au (List.replicate W.T.length false) i=false:=fun i=>by
  unfold au;rw [Ld,List.getElem?_replicate];split <;> simp
 refine ⟨by simp,fun i=>?_,fun i hi=>?_,fun k hk=>?_,by simp,fun i hi=>?_⟩
 ·dsimp only;rw [hf];exact ⟨fun h=>(by cases h),fun h=>by have:=h.1;have:=h.2.1;omega⟩
 ·dsimp only at hi;rw [hf] at hi;cases hi
 ·simp at hk
 ·dsimp only at hi;rw [hf] at hi;cases hi
theorem MI.aI {n:Nat} (M:MI W (X1 W major n) t) (hn:n<W.T.length) (h:(W.th (n:Int)).aI=true∧(W.th (n:Int)).dead=false∧major=false):MI W (X1 W major (n+1)) (bW t (3,(n:Int))):=by
 refine (M.mark (v:=(3,(n:Int))) (fun _=>⟨by simp,by simpa using hn,h.2.1⟩)).congr fun i=>?_;unfold X1;constructor
 ·rintro (⟨h0,h1,h2⟩ | ⟨_,h1⟩)
  ·exact ⟨h0,by omega,h2⟩
  ·have h1:i=(n:Int):=h1;subst h1;exact ⟨by omega,by omega,h⟩
 ·rintro ⟨h0,h1,h2⟩;by_cases e:i=(n:Int)
  ·exact .inr ⟨rfl,e⟩
  ·exact .inl ⟨h0,by omega,h2⟩
theorem MI.az {n:Nat} (M:MI W (X1 W major n) t) (h:¬ ((W.th (n:Int)).aI=true∧(W.th (n:Int)).dead=false∧major=false)):MI W (X1 W major (n+1)) t:=by
 refine M.congr fun i=>?_;unfold X1;constructor
 ·rintro ⟨h0,h1,h2⟩;exact ⟨h0,by omega,h2⟩
 ·rintro ⟨h0,h1,h2⟩;refine ⟨h0,?_,h2⟩;by_cases e:i=(n:Int)
  ·subst e;exact absurd h2 h
  ·omega
theorem MI.Br (M:MI W (X1 W major W.T.length) t):MI W (X2 W major 0) t:=M.congr fun i=>by unfold X2;simp
theorem MI.root {k:Nat} (M:MI W (X2 W major k) t) (hok:W.ok) (hk:k<W.roots.length):MI W (X2 W major (k+1)) (bW t (W.roots.getD k (0,0))):=by
 have hm:W.roots.getD k (0,0) ∈ W.roots:=by rw [Ld,Le hk];exact List.getElem_mem hk
 refine (M.mark (v:=W.roots.getD k (0,0)) (fun h3=>Wd.aY (hok.rv _ hm) h3)).congr fun i=>?_;have e:W.roots.take (k+1)=W.roots.take k ++ [W.roots.getD k (0,0)]:=by rw [←List.take_append_getElem hk,Ld,Le hk];rfl
 unfold X2;rw [e,List.mem_append,List.mem_singleton];constructor
 ·rintro ((h | h) | ⟨h,h'⟩)
  ·exact .inl h
  ·exact .inr (.inl h)
  ·exact .inr (.inr (by rw [h',←h]))
 ·rintro (h | h | h)
  ·exact .inl (.inl h)
  ·exact .inl (.inr h)
  ·rw [←h];exact .inr ⟨rfl,rfl⟩
theorem MI.first {k:Nat} (M:MI W (X2 W major k) t) (hk:W.roots.length≤k):t.1=W.first major:=by
 refine ve (by rw [M.len,Wd.fU]) fun i h0 h1=>?_;rw [M.eq,Wd.iN];unfold X2 X1;rw [List.take_of_length_le hk];rw [M.len] at h1;constructor
 ·rintro (⟨_,_,h⟩ | h)
  ·exact ⟨h0,h1, .inl h⟩
  ·exact ⟨h0,h1, .inr h⟩
 ·rintro ⟨_,_,h | h⟩
  ·exact .inl ⟨h0,h1,h⟩
  ·exact .inr h
structure lN (W:Wd) (is:List Bool):Prop where
 len:is.length=W.T.length
 lv:∀ i,au is i=true→W.live i
 lk:∀ i,au is i=true→iz W is i
theorem iz.of_closed (hs:cj W.nd q fun k=>au is k=true) {i:Int} (hi:au is i=true):iz W is i:=by
 refine ⟨fun hk v hv h3=>hs i v.2 hi (.inl ⟨hk,?_⟩),fun hk v hv h3=>hs i v.2 hi (.inr (.inl ⟨hk,?_⟩))⟩
 ·rw [←h3];exact hv
 ·rw [←h3];exact hv
theorem lN.cT (hok:W.ok) (hq:∀ e ∈ q,W.dD e) (hl:is.length=W.T.length) (hv:∀ i,au is i=true→W.live i):lN W (W.cT q is):=by
 have hlv:∀ i,au (W.cT q is) i=true→W.live i:=fun i hi=>(cW.1 hi).2.2.least hv (Wd.iY hok hq);refine ⟨by unfold Wd.cT;rw [eW,hl],hlv,fun i hi=>iz.of_closed (q:=q) (fun i j hi hj=>?_) hi⟩;have hlv':=Wd.iY hok hq i j (hlv i hi) (hj.mono (fun k hk=>hlv k hk) (fun _ h=>h));refine cW.2 ⟨hlv'.1,by rw [hl];exact hlv'.2.1,?_⟩;exact cI.closed _ _ _ i j (cW.1 hi).2.2 (hj.mono (fun k hk=>(cW.1 hk).2.2) (fun _ h=>h))
theorem se:∀ {l:List Bool} {i:Nat},l.getD i false=true→l.set i true=l
 | [],i,h=>rfl
 | b :: l,0,h=>by
  have:b=true:=by simpa using h
  subst this;rfl
 | b :: l,i+1,h=>by simp [se (l:=l) (i:=i) (by simpa using h)]
theorem lN.mark (S:lN W is) {x:Int} (hx:W.live x):(bW (is,[]) (3,x)).1=is.set x.toNat true∧GI W q (is.set x.toNat true) (fun _=>False) (bW (is,[]) (3,x)):=by
 have hset:=fun i=>gL (is:=is) (x:=x) (i:=i) hx.1 (by rw [S.len];exact hx.2.1);unfold bW;dsimp only;cases h:au is x
 ·rw [if_pos ⟨rfl,rfl⟩];refine ⟨rfl,by simp [S.len],fun i h=>h,fun i h=>cI.base h,fun i hi=>?_,fun k hk=>?_,by simp,fun i hi hn _=>?_⟩
  ·rcases (hset i).1 hi with rfl | h1
   ·exact hx
   ·exact S.lv i h1
  ·simp at hk;subst hk;exact (hset _).2 (.inl (by have:=hx.1;omega))
  ·rcases (hset i).1 hi with rfl | h1
   ·simp at hn
   ·exact (S.lk i h1).mono (fun k hk=>(hset k).2 (.inr hk))
 ·rw [if_neg (fun h=>by cases h.2)];have e:is.set x.toNat true=is:=se (by rw [dh hx.1];exact h);rw [e];exact ⟨rfl,S.len,fun i h=>h,fun i h=>cI.base h,S.lv,fun k hk=>by simp at hk,by simp,fun i hi _ _=>S.lk i hi⟩
def fO (is:List Bool) (br:Bool) (v:Vl):Vl:=if br=true∨bS is v=false then (2,0) else v
def iA (is:List Bool) (t:Th):Bool:=decide (t.k=4∧bS is (t.fs.getD 0 (0,0))=false)
theorem yO (h:W.ok) (hs:cj W.nd q fun k=>au is k=true) {i:Int} (hi:W.live i) (hb:au is i=true) :
  dM is i.toNat (W.th i)=⟨(W.th i).k,(W.th i).fs.map (fO is (iA is (W.th i))),true,false⟩:=by
 have hF:=oW h hs hi hb;have hf:=h.tk i hi;unfold dM at hF ⊢;rw [if_pos (by rw [dh hi.1];exact hb)] at hF ⊢;dsimp only at hF;rw [hi.2.2];congr 1;by_cases hc4:(W.th i).k=4∧bS is ((W.th i).fs.getD 0 (0,0))=false
 ·rw [if_pos hc4];have:iA is (W.th i)=true:=by unfold iA;simpa using hc4
  rw [this];rw [hc4.1] at hf;simp [bm] at hf;obtain ⟨a,b,e⟩:∃ a b,(W.th i).fs=[a,b]:=by
   match hx:(W.th i).fs,hf with
   | [a,b],_=>exact ⟨a,b,rfl⟩
  rw [e];simp [fO]
 have Cy:iA is (W.th i)=false:=by unfold iA;simpa using hc4
 rw [if_neg hc4] at hF ⊢;rw [Cy];by_cases hc3:(W.th i).k=3∧bS is ((W.th i).fs.getD 0 (0,0))=false
 ·rw [if_pos hc3] at hF ⊢;rw [hc3.1] at hf;simp [bm] at hf;obtain ⟨a,b,e⟩:∃ a b,(W.th i).fs=[a,b]:=by
   match hx:(W.th i).fs,hf with
   | [a,b],_=>exact ⟨a,b,rfl⟩
  have h0:=hc3.2;rw [e] at hF h0 ⊢;simp only [List.getD_cons_zero,List.getD_cons_succ] at hF h0 ⊢;have bH:=hF b (by simp);simp only [List.map_cons,List.map_nil,fO];rw [if_pos (.inr h0)];rcases bH with rfl | ⟨_,bH⟩
  ·split <;> rfl
  ·rw [if_neg (by rw [bH];simp)]
 ·rw [if_neg hc3] at hF ⊢;have e:(W.th i).fs.map (fO is false)=(W.th i).fs.map id:=List.map_congr_left fun v hv=>by
   unfold fO;rcases hF v hv with rfl | ⟨_,h⟩
   ·split <;> rfl
   ·rw [if_neg (by rw [h];simp)];rfl
  rw [e,List.map_id]
end
end
section
open Go.RowKit
theorem Ai (n:Nat) (hn:n≤12) (w:World):Calls Tryz.prog 174 #[.int .u64 1, .int .u64 n] w fun e w'=>e=.returned (.tuple #[.int .u64 0, .int .u64 n])∧w=w':=by
 have h:n=0∨n=1∨n=2∨n=3∨n=4∨n=5∨n=6∨n=7∨n=8∨n=9∨n=10∨n=11∨n=12:=by omega
 rcases h with rfl | rfl | rfl | rfl | rfl | rfl | rfl | rfl | rfl | rfl | rfl | rfl | rfl <;>
 ·go_enter Tryz.func174,Tryz.ntmps174;go_wp2_with fail;go_ret2;exact ⟨rfl,rfl⟩
theorem Cn (n:Nat) (hn:n≤12) (w:World):Calls Tryz.prog 164 #[.int .u64 1, .int .u64 n] w fun e w'=>e=.returned (.tuple #[.int .u64 0, .int .u64 n])∧w=w':=by
 have HM:=Hz (Ai n hn);have hnn:(n:Int)≤12:=by omega
 go_enter Tryz.func164,Tryz.ntmps164;go_wp2_with fail;refine (HM.out _).mono ?_;rintro e w1 ⟨rfl,rfl⟩;go_wp2_with fail;go_ret2;exact ⟨rfl,rfl⟩
theorem tO {P:Program} {w:World} {ops:Array Oper} {rest:List Oper} {o:Oper} {a:Act} {Q:Exit→Act→World→Prop} (hgd:o.guard=none) (d s:Operand) (t:TypeId)
  (ho:o.op=.call { callee:=.builtin .copy,args:=#[d,s],argTypes:=#[t,t] })
  (e:TypeId) (hu:P.underlying t=some (.slice e)) (hsz:(P.info? e).map (·.size)=some 1)
  (g off dLen dCap:Nat) (ad:Addr) (sLen sCap:Nat) (hd:a.eval d=.slice (some ⟨g,off,none⟩) dLen dCap) (hs:a.eval s=.slice (some ad) sLen sCap)
  (cur:List Value) (hb:aj w g cur e) (cs:List Value) (hn:cs.length=Nat.min sLen dLen)
  (hsrc:∀ j v,cs[j]? = some v→w.cell? (ad.add j)=some v) (hfit:off+cs.length≤cur.length) (h1:∀ v ∈ cs,v.oneCell'=true)
  (h:wpList P ops Q rest (a.put o.dst (goInt cs.length)) (w.setRow g (cur.take off ++ cs ++ cur.drop (off+cs.length)).toArray)):wpList P ops Q (o :: rest) a w:=by
 refine wpList_plain hgd fun _ hK=>?_;have hrun:=run_copy_row (P:=P) w t t o.type e g off dLen dCap ad sLen sCap cur.toArray e cs hu hsz hb hn hsrc (by simpa using hfit) h1;unfold Oper.wp execOp;simp only [ho,resolve,invoke,builtin,Sem.run_bind,Sem.run_pure,Result.andThen_ok,List.map_toArray,List.map_cons,List.map_nil,hd,hs,hrun];exact hK _ _ h
def dN (a:Int) (n k:Nat):List Value:=List.replicate k (.int .i64 a) ++ List.replicate (n-k) (.int .i64 0)
theorem pP {a:Int} {n k:Nat} (h:k≤n):(dN a n k).length=n:=by simp [dN];omega
theorem om {a:Int} {n k c:Nat} (h:k+c≤n):(dN a n k).take k ++ List.replicate c (.int .i64 a) ++ (dN a n k).drop (k+c)=dN a n (k+c):=by
 unfold dN;rw [List.take_append_of_le_length (by simp),List.take_of_length_le (by simp),List.drop_append,List.drop_eq_nil_of_le (by simp),List.nil_append,List.drop_replicate,List.replicate_append_replicate];congr 2;simp;omega
theorem Aj {a:Int} {n k j:Nat} (hk:k≤n) (h:j<k):(dN a n k)[j]? = some (.int .i64 a):=by
 unfold dN;rw [List.getElem?_append_left (by simpa using h),List.getElem?_replicate,if_pos h]
theorem yP (a:Int) (n g o cap:Nat) (hn:n≤12) (w:World) (hc:w.cell? ⟨g,o,none⟩=some (.int .i64 a)) (hg:g<w.heap.size) :
  Calls Tryz.prog 150 #[.slice (some ⟨g,o,none⟩) 1 cap, .int .i64 n] w fun e w'=>∃ b:Nat,e=.returned (.slice (some ⟨b,0,none⟩) n n)∧Sl w' 3 1 (.slice (some ⟨b,0,none⟩) n n) n (List.replicate n (.int .i64 a))∧aa (fun _=>False) w w'∧w.heap.size≤b:=by
 obtain ⟨i0,hi,hz0,hz1,hz2⟩:=info_parts iK;have hmk:=fun (wx:World)=>dP (P:=Tryz.prog) wx 83 3 i0 (.int .i64 0) Tryz.underlying83 hi hz0 rfl hz1 n (by rw [hz2];omega) (by omega);clear hi hz0 hz1 hz2;have HM:=Hz (Cn n hn);have hnn:(n:Int)≤12:=by omega
 have HMK:=Hz hmk;clear hmk;have hmk:=HMK.out;go_enter Tryz.func150,Tryz.ntmps150;go_wp2_with fail;refine (HM.out _).mono ?_;rintro e w1 ⟨rfl,rfl⟩;go_upto_region 7 with fail
 have hb:aj (w.alloc (.cells (Array.replicate n (.int .i64 0)) 3)) w.heap.size (dN a n 0) 3:=aj.newAt _ rfl (by simp [dN]);have ka:=(Kz w).alloc (.cells (Array.replicate n (.int .i64 0)) 3);have hc2:(w.alloc (.cells (Array.replicate n (.int .i64 0)) 3)).cell? ⟨g,o,none⟩=some (.int .i64 a):=by
  rw [←hc];exact World.cell?_of_block (w:=w) (a:=⟨g,o,none⟩) (ka.block g hg (fun h=>h))
 have HB:=Hz hb;have KA:=Hz ka;have HC:=Hz hc2;have HSZ:=Hz (show w.heap.size≤w.heap.size from Nat.le_refl _);clear hb ka hc hc2 hg hmk HMK HM;generalize w.alloc (.cells (Array.replicate n (.int .i64 0)) 3)=w2 at *;obtain ⟨b,hbb⟩:∃ b,w.heap.size=b:=⟨_,rfl⟩;rw [hbb] at HB;rw [hbb];have HBB:=Hz hbb;clear hbb;have hm1:(List.replicate (min 1 n) (Value.int .i64 a)).length=min 1 n:=by simp
 have HSRC:=Hz (show ∀ j v,(List.replicate (min 1 n) (Value.int .i64 a))[j]? = some v→w2.cell? ((⟨g,o,none⟩:Addr).add j)=some v from fun j v hj=>by
  rw [List.getElem?_replicate] at hj;split at hj
  ·have e:j=0:=by omega
   subst e;cases hj;exact HC.out
  ·cases hj)
 have HFIT:=Hz (show 0+(List.replicate (min 1 n) (Value.int .i64 a)).length≤(dN a n 0).length by rw [pP (Nat.zero_le _),hm1];omega);have HONE:=Hz (show ∀ v ∈ List.replicate (min 1 n) (Value.int .i64 a),v.oneCell'=true from fun v hv=>by rw [(List.mem_replicate.1 hv).2];rfl);have HLN:=Hz (show (List.replicate (min 1 n) (Value.int .i64 a)).length=Nat.min 1 n from hm1);have HROW:=Hz (show w2.setRow b ((dN a n 0).take 0 ++ List.replicate (min 1 n) (Value.int .i64 a) ++ (dN a n 0).drop (0+(List.replicate (min 1 n) (Value.int .i64 a)).length)).toArray=w2.setRow b (dN a n (0+min 1 n)).toArray by rw [hm1,om (by omega)]);clear hm1;go_upto_region 8 with (refine tO rfl (.tmp 31) (.tmp 32) 83 rfl 3 Tryz.underlying83 (by kernel_rfl) b 0 n n ⟨g,o,none⟩ 1 cap rfl rfl (dN a n 0) HB.out _ HLN.out HSRC.out HFIT.out HONE.out ?_)
 have e3:w2.setRow b (List.replicate (min 1 n) (Value.int .i64 a) ++ (dN a n 0).drop (min 1 n)).toArray=w2.setRow b (dN a n (min 1 n)).toArray:=by
  have:=om (a:=a) (n:=n) (k:=0) (c:=min 1 n) (by omega);simp only [List.take_zero,List.nil_append,Nat.zero_add] at this;rw [this]
 rw [e3];have HB3:=Hz (HB.out.setRow (dN a n (min 1 n)));have K3:=Hz (KA.out.setRow (g:=b) (.inr (by rw [HBB.out];exact Nat.le_refl _)) (dN a n (min 1 n)).toArray);clear e3 HROW HLN HONE HFIT HSRC HB KA HC;generalize w2.setRow b (dN a n (min 1 n)).toArray=w3 at *;go_loopw [8] (fun u wr=>∃ k:Nat,k≤n∧(n=0∨1≤k)∧u=.int .i64 k∧aj wr b (dN a n k) 3∧aa (fun _=>False) w wr) (fun u _=>n-(intOf u).toNat)
 case atStart=>exact ⟨min 1 n,by omega,by omega,rfl,HB3.out,K3.out⟩
 case round=>
  clear HB3 K3;obtain ⟨k,hk,hk1,rfl,hB,hK2⟩:=hrel;have BR:=Hz hB;have KR:=Hz hK2;clear hB hK2;by_cases hlt:k<n
  ·have hki:(k:Int)<n:=by omega
   have hk0:(0:Int)≤k:=by omega
   obtain ⟨c,hc⟩:∃ c,min k (n-k)=c:=⟨_,rfl⟩;have hc1:1≤c∧k+c≤n∧c≤k:=by omega
   have HM2:=Hz (show (List.replicate c (Value.int .i64 a)).length=Nat.min k (n-k) by rw [List.length_replicate];exact hc.symm);have HSRC:=Hz (show ∀ j v,(List.replicate c (Value.int .i64 a))[j]? = some v→wr.drew.cell? ((⟨b,0,none⟩:Addr).add j)=some v from fun j v hj=>by
    rw [List.getElem?_replicate] at hj;split at hj
    ·cases hj;rw [eY,BR.out.drew.cell,Nat.zero_add];exact Aj hk (by omega)
    ·cases hj)
   have HFIT:=Hz (show k+(List.replicate c (Value.int .i64 a)).length≤(dN a n k).length by rw [pP hk,List.length_replicate];omega);have HONE:=Hz (show ∀ v ∈ List.replicate c (Value.int .i64 a),v.oneCell'=true from fun v hv=>by rw [(List.mem_replicate.1 hv).2];rfl);have HROW:=Hz (show wr.drew.setRow b ((dN a n k).take k ++ List.replicate c (Value.int .i64 a) ++ (dN a n k).drop (k+(List.replicate c (Value.int .i64 a)).length)).toArray=wr.drew.setRow b (dN a n (k+c)).toArray by rw [List.length_replicate,om hc1.2.1]);have hnk:n-k≠0:=by omega
   have hwr:IntKind.i64.wrap ((k:Int)+c)=(k:Int)+c:=IntWalk.i64_in _ (by omega);go_wp2_with fail;refine Rz (.free 0 (.free 1 (.free 2 (.free 3 (.free 4 (.free 5 (.free 6 (.run 7 (.swi [] (.free 8 (.free 9 (.fin)))))))))))) [7,8,9] (fun _=>True) trivial ?_
   iterate 7 refine Wz ?_
   refine aA rfl rfl rfl (fun K hK=>?_);rw [if_neg (show ¬ n=k by omega)];refine nP (.tmp 41) (.tmp 44) 83 rfl 3 Tryz.underlying83 (by kernel_rfl) b k (n-k) (n-k) ⟨b,0,none⟩ k n rfl rfl (dN a n k) BR.out.drew (List.replicate c (.int .i64 a)) HM2.out HSRC.out HFIT.out HONE.out ?_;rw [HROW.out];have BN:=Hz (BR.out.drew.setRow (dN a n (k+c)));have KN:=Hz (KR.out.drew.setRow (g:=b) (.inr (by rw [HBB.out];exact Nat.le_refl _)) (dN a n (k+c)).toArray);clear HROW HONE HFIT HSRC HM2 BR KR;generalize wr.drew.setRow b (dN a n (k+c)).toArray=w4 at *;refine hK _ _ ?_;clear hK K;refine aB (fun _=>True) trivial ?_
   iterate 2 refine Wz ?_
   refine av ?_;go_wp2_with fail;go_roundw
   case rel=>exact ⟨k+c,hc1.2.1, .inr (by omega),by go_num,BN.out,KN.out⟩
   case measure=>simp [intOf];omega
  ·obtain rfl:k=n:=by omega
   go_wp2_with fail;go_ret;refine ⟨b,rfl,⟨by simp, .inr ⟨b,0,k,_,rfl,BR.out,Nat.le_refl _,by unfold maxLen;omega,by rw [pP (Nat.le_refl _)];omega,?_⟩⟩,KR.out,by rw [HBB.out];exact Nat.le_refl _⟩;unfold dN;simp
end
section
section
variable {W:Wd}
theorem Wd.xJ (hok:W.ok):gw W.view.2≤W.az+W.cm:=by
 rw [Wd.yM hok];have S:=Wd.seen hok;have h3:=mi (f:=fun i=>(W.th i).words) (fun i=>tM _) (l:=W.met) (m:=W.all) S.nd (fun i hi=>Wd.i7.2 (S.lv i hi));have h1:=Wd.iZ W false;have h2:=Wd.iZ W true;have e1:(dL W.T fun t=>!t.dead && (t.aI == false))=W.az:=by unfold Wd.az;congr 1;funext t;cases t.aI <;> rfl
 have e2:(dL W.T fun t=>!t.dead && (t.aI == true))=W.cm:=by unfold Wd.cm;congr 1;funext t;cases t.aI <;> rfl
 rw [e1] at h1;rw [e2] at h2;unfold Wd.all at h3;rw [List.map_append,List.sum_append] at h3;omega
end
end
section
section
variable {O:Wo} {W:Wd} {φ:Int→Int}
theorem Wd.oP (W:Wd) (x:St):(W.do x).2.most=W.most∧(W.do x).2.grow=W.grow:=by
 have hnew:∀ (r k:Int) (l:List Int),(W.bU r k l).2.most=W.most∧(W.bU r k l).2.grow=W.grow:=fun r k l=>by
  unfold Wd.bU;split
  ·show (W.room _).2.most=_∧(W.room _).2.grow=_
   unfold Wd.room;split
   ·exact Wd.mZ W _
   ·exact ⟨rfl,rfl⟩
  ·exact ⟨rfl,rfl⟩
 unfold Wd.do
 by_cases hc:bz x=0
 ·rw [if_pos hc];unfold Wd.step;by_cases h1:x.k=1;· rw [if_pos h1];exact ⟨rfl,rfl⟩
  rw [if_neg h1];by_cases h2:x.k=2;· rw [if_pos h2];exact ⟨rfl,rfl⟩
  rw [if_neg h2];by_cases h3:x.k=3;· rw [if_pos h3];exact ⟨rfl,rfl⟩
  rw [if_neg h3];by_cases h4:x.k=4;· rw [if_pos h4];exact hnew _ _ _
  rw [if_neg h4];by_cases h5:x.k=5;· rw [if_pos h5];exact hnew _ _ _
  rw [if_neg h5];by_cases h6:x.k=6;· rw [if_pos h6];exact hnew _ _ _
  rw [if_neg h6];by_cases h7:x.k=7;· rw [if_pos h7];exact hnew _ _ _
  rw [if_neg h7];by_cases h8:x.k=8;· rw [if_pos h8];exact hnew _ _ _
  rw [if_neg h8];by_cases h9:x.k=9
  ·rw [if_pos h9];unfold Wd.fT;split
   ·exact ⟨rfl,rfl⟩
   ·split <;> exact ⟨rfl,rfl⟩
  rw [if_neg h9];by_cases h10:x.k=10
  ·rw [if_pos h10];unfold Wd.pop;split
   ·exact ⟨rfl,rfl⟩
   ·split <;> exact ⟨rfl,rfl⟩
  rw [if_neg h10];by_cases h11:x.k=11;· rw [if_pos h11];unfold Wd.get;split <;> exact ⟨rfl,rfl⟩
  rw [if_neg h11];by_cases h12:x.k=12;· rw [if_pos h12];unfold Wd.set;split <;> exact ⟨rfl,rfl⟩
  rw [if_neg h12];by_cases h13:x.k=13;· rw [if_pos h13];unfold Wd.len;split <;> exact ⟨rfl,rfl⟩
  rw [if_neg h13];by_cases h14:x.k=14;· rw [if_pos h14];exact ⟨rfl,rfl⟩
  rw [if_neg h14];by_cases h15:x.k=15;· rw [if_pos h15];exact Wd.mZ W _
  rw [if_neg h15];exact Wd.mZ W _
 ·rw [if_neg hc];exact ⟨rfl,rfl⟩
end
end
end Go.Proofs.YtjifdalflepcoacGreat
