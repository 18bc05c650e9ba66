/-
  Parts of the proof, merged: what the functions do, and plain laws.
-/
import Derived.Test.YtjifdalflepcoabGGBP6
import Derived.Test.YtjifdalflepcoabGGBP3
import Derived.Test.YtjifdalflepcoabGGBP1
import Derived.Test.YtjifdalflepcoabGGBP0
set_option maxHeartbeats 16000000
set_option maxRecDepth 100000
set_option linter.unusedVariables false
set_option linter.unusedSimpArgs false

namespace Go.Proofs.Ytjifdalflepcoab
section
open Go.RowKit
theorem lC:∀ (l:List (Int × Int)) (g:Int),popW l g=if findG g l<l.length then some ((l.getD (findG g l) (0,0)).2,l.eraseIdx (findG g l)) else none
 | [],g=>rfl
 | e :: l,g=>by
  unfold popW findG;by_cases h:e.1=g
  ·simp [h]
  ·rw [if_neg h,if_neg h,lC l g];by_cases h2:findG g l<l.length
   ·rw [if_pos h2,if_pos (by simp;omega)];simp
   ·rw [if_neg h2,if_neg (by simp;omega)];rfl
section
variable {w w':World} {h:HH} {O O':Wo} {W:Wd} {φ:Int→Int}
end
end
section
open Go.RowKit
def bH (w:World) (h:bT) (r:Int × Wd):Ending→World→Prop:=fun e w'=>e=.returned (.int .i64 r.1)∧aI w h w' r.2
section
variable {w w':World} {h:bT} {W:Wd}
theorem aG.pD (H:aG w h W) {rg wt:List (Int × Int)} (T:kV (h.gx W) w h.p h.gv h.wv w' rg wt) (hok:({ W with regs:=rg,wait:=wt }:Wd).ok):aI w h w' { W with regs:=rg,wait:=wt }:=by
 obtain ⟨rv',wv',S,K,o⟩:=T;have ne:∀ {b:Nat} {c:List Value} {T:TypeId},ah w b c T→T≠146→T≠170→¬ aR h.p h.gv h.wv b:=fun hb h1 h2=>H.side.ky hb h1 h2;have aV:∀ b,aR h.p h.gv h.wv b→h.Own b:=fun b hb=>by
  rcases hb with rfl | hb | hb
  ·exact .inl rfl
  ·exact .inr (.inr (.inr (.inl hb)))
  ·exact .inr (.inr (.inr (.inr (.inl hb))))
 refine ⟨⟨h.p,h.tv,h.rv,rv',wv',h.fv⟩,⟨S.hp,H.ht.ae K (fun b hb=>?_) (fun i b hb=>?_),H.hr.ae K (fun b hb=>?_),S.hr,S.hw,S.ap,fun i b hb=>?_,H.fi,H.fl,hok⟩,rfl,K.mono (fun b _ hb=>aV b hb),fun b hb=>?_⟩
 ·obtain ⟨cs,hs,_⟩:=H.ht;obtain ⟨_,c,hc⟩:=hs.own hb;exact ne hc (by decide) (by decide)
 ·obtain ⟨_,⟨c,hc⟩,_⟩:=H.af i b hb;exact ne hc (by decide) (by decide)
 ·obtain ⟨_,c,hc⟩:=H.hr.own hb;exact ne hc (by decide) (by decide)
 ·obtain ⟨h1,⟨c,hc⟩,h3⟩:=H.af i b hb;exact ⟨Nat.lt_of_lt_of_le h1 K.size,⟨c,K.ai hc (ne hc (by decide) (by decide))⟩,h3⟩
 ·rcases hb with hb | hb | hb | hb | hb | hb
  ·exact .inl (.inl hb)
  ·exact .inl (.inr (.inl hb))
  ·exact .inl (.inr (.inr (.inl hb)))
  ·exact (o b (.inr (.inl hb))).imp (aV b) id
  ·exact (o b (.inr (.inr hb))).imp (aV b) id
  ·exact .inl (.inr (.inr (.inr (.inr (.inr hb)))))
theorem Wd.eB {k:Int}:W.guard k<0↔W.au k<0∨(W.th (W.au k)).k≠5:=by
 unfold Wd.guard;split
 ·rename_i h;exact ⟨fun _=>h,fun _=>by omega⟩
 ·rename_i h;constructor
  ·intro h2;exact absurd (.inl h2) h
  ·intro h2;exact absurd h2 h
theorem Wd.lD {k:Int} (h:¬ W.guard k<0):W.guard k=W.au k∧¬ W.au k<0∧(W.th (W.au k)).k=5:=by
 have h2:¬ (W.au k<0∨(W.th (W.au k)).k≠5):=fun e=>h (Wd.eB.2 e);refine ⟨by unfold Wd.guard;rw [if_neg h2],fun e=>h2 (.inl e),Classical.byContradiction fun e=>h2 (.inr e)⟩
theorem Wd.j4 {k:Int} (h:¬ W.au k<0):(W.rt k).2=W.au k∧(W.rt k).1=3:=by
 unfold Wd.au at h ⊢;by_cases e:(W.rt k).1=3
 ·rw [if_pos e];exact ⟨rfl,e⟩
 ·rw [if_neg e] at h;exact absurd (by omega) h
theorem sw (a b:Nat) (xr xi xn:Int) (H:aG w h W) (ha:a<12) (hb:b<12) :
  Calls Try.prog 98 #[.pointer (some ⟨h.p,0,none⟩), .agg #[.int .i64 9, .int .i64 xr, .int .i64 a, .int .i64 b, .int .i64 xi, .int .i64 xn]] w (bH w h (W.gP ⟨9,xr,a,b,xi,xn⟩)):=by
 unfold bH;have HRG:=Hz (show W.gP ⟨9,xr,a,b,xi,xn⟩=if W.au a<0∨W.guard b<0 then (2,W) else if 24≤W.regs.length+W.wait.length then (3,W) else (0, { W with regs:=W.regs ++ [(W.guard b,W.au a)] }) from rfl);have HB0:=Hz H;have hb1:ah (w.alloc (.cells #[.int .i64 9, .int .i64 xr, .int .i64 a, .int .i64 b, .int .i64 xi, .int .i64 xn] 98)) w.heap.size [.int .i64 9, .int .i64 xr, .int .i64 a, .int .i64 b, .int .i64 xi, .int .i64 xn] 98:=ah.newAt _ rfl rfl;have ka:=(Kz w).alloc (.cells #[.int .i64 9, .int .i64 xr, .int .i64 a, .int .i64 b, .int .i64 xi, .int .i64 xn] 98);have HB1:=Hz (H.same ka);have K1:=Hz ka;have SB1:=Hz hb1;have SOW:=Hz (show ¬ h.Own w.heap.size from fun e=>by have:=H.dE e;omega);clear hb1 ka H;go_enter Try.func98,Try.ntmps98;go_upto_region 1 with fail
 generalize w.alloc (.cells #[.int .i64 9, .int .i64 xr, .int .i64 a, .int .i64 b, .int .i64 xi, .int .i64 xn] 98)=w1 at *;generalize w.heap.size=sb at *;have s0:=SB1.out.cell 0;have s1:=SB1.out.cell 1;have s2:=SB1.out.cell 2;have s3:=SB1.out.cell 3;have s4:=SB1.out.cell 4;have s5:=SB1.out.cell 5;have sl:=SB1.out.lt;simp only [Lz,Ls] at s0 s1 s2 s3 s4 s5;have HOB:=Hz (fun w' (H:aG w' h W)=>kC b hb H);have HOA:=Hz (fun w' (H:aG w' h W)=>kC a ha H);by_cases hta:W.au a<0
 ·rw [fR hta] at HOA;have HE:=Hz (show W.gP ⟨9,xr,a,b,xi,xn⟩=(2,W) by rw [HRG.out,if_pos (.inl hta)]);clear hta;go_wp2_with fail;refine (HOB.out _ HB1.out).mono ?_;rintro e w2 ⟨rfl,hk⟩;have HB2:=Hz (HB1.out.same hk);have K2:=Hz (K1.out.trans hk);have SB2:=Hz (hk.ai SB1.out (fun h=>h));clear hk s0 s1 s2 s3 s4 s5 sl;have s0:=SB2.out.cell 0;have s2:=SB2.out.cell 2;have s3:=SB2.out.cell 3;have sl:=SB2.out.lt;simp only [Lz,Ls] at s0 s2 s3;go_wp2_with fail;refine (HOA.out _ HB2.out).mono ?_;rintro e w3 ⟨rfl,hk⟩;have HB3:=Hz (HB2.out.same hk);have K3:=Hz (K2.out.trans hk);have SB3:=Hz (hk.ai SB2.out (fun h=>h));clear hk s0 s2 s3 sl;have s0:=SB3.out.cell 0;have s2:=SB3.out.cell 2;have s3:=SB3.out.cell 3;have sl:=SB3.out.lt;simp only [Lz,Ls] at s0 s2 s3;go_wp2_with fail;go_ret;rw [HE.out];exact ⟨rfl,aI.same HB0.out K3.out⟩
 have hla:=Wd.bJ HB0.out.ok hta;obtain ⟨ga,oa,nca,-,-,etl,-⟩:=HB0.out.rowAt hla;rw [fS hta etl] at HOA;by_cases htb:W.au b<0
 ·rw [fR htb] at HOB;have HE:=Hz (show W.gP ⟨9,xr,a,b,xi,xn⟩=(2,W) by rw [HRG.out,if_pos (.inr (Wd.eB.2 (.inl htb)))]);clear htb hta hla etl;go_wp2_with fail;refine (HOB.out _ HB1.out).mono ?_;rintro e w2 ⟨rfl,hk⟩;have HB2:=Hz (HB1.out.same hk);have K2:=Hz (K1.out.trans hk);have SB2:=Hz (hk.ai SB1.out (fun h=>h));clear hk s0 s1 s2 s3 s4 s5 sl;have s0:=SB2.out.cell 0;have s2:=SB2.out.cell 2;have s3:=SB2.out.cell 3;have sl:=SB2.out.lt;simp only [Lz,Ls] at s0 s2 s3;go_wp2_with fail;refine (HOA.out _ HB2.out).mono ?_;rintro e w3 ⟨rfl,hk⟩;have HB3:=Hz (HB2.out.same hk);have K3:=Hz (K2.out.trans hk);have SB3:=Hz (hk.ai SB2.out (fun h=>h));clear hk s0 s2 s3 sl;have s0:=SB3.out.cell 0;have s2:=SB3.out.cell 2;have s3:=SB3.out.cell 3;have sl:=SB3.out.lt;simp only [Lz,Ls] at s0 s2 s3;go_wp2_with fail;go_ret;rw [HE.out];exact ⟨rfl,aI.same HB0.out K3.out⟩
 have hlb:=Wd.bJ HB0.out.ok htb;have HLB:=Hz hlb;rw [fS htb etl] at HOB;have ETL:=Hz etl;have HTA:=Hz (Wd.j4 hta);have HTB:=Hz (Wd.j4 htb);by_cases h5:(W.th (W.au b)).k=5
 case neg=>
  have HE:=Hz (show W.gP ⟨9,xr,a,b,xi,xn⟩=(2,W) by rw [HRG.out,if_pos (.inr (Wd.eB.2 (.inr h5)))]);have e5:((W.th (W.au b)).k != 5)=true:=by simpa using h5
  clear htb hta hla hlb etl h5;go_wp2_with fail;refine (HOB.out _ HB1.out).mono ?_;rintro e w2 ⟨rfl,hk⟩;have HB2:=Hz (HB1.out.same hk);have K2:=Hz (K1.out.trans hk);have SB2:=Hz (hk.ai SB1.out (fun h=>h));clear hk s0 s1 s2 s3 s4 s5 sl;have s0:=SB2.out.cell 0;have s2:=SB2.out.cell 2;have s3:=SB2.out.cell 3;have sl:=SB2.out.lt;simp only [Lz,Ls] at s0 s2 s3;go_wp2_with fail;refine (HOA.out _ HB2.out).mono ?_;rintro e w3 ⟨rfl,hk⟩;have HB3:=Hz (HB2.out.same hk);have K3:=Hz (K2.out.trans hk);have SB3:=Hz (hk.ai SB2.out (fun h=>h));clear hk s0 s2 s3 sl;have s0:=SB3.out.cell 0;have s2:=SB3.out.cell 2;have s3:=SB3.out.cell 3;have sl:=SB3.out.lt;simp only [Lz,Ls] at s0 s2 s3;obtain ⟨gb,ob,ncb,-,-,e',hg,t0,-⟩:=HB3.out.rowAt HLB.out;rw [ETL.out] at e';cases e';go_wp2_with fail;go_ret;rw [HE.out];exact ⟨rfl,aI.same HB0.out K3.out⟩
 have HG:=Hz (show W.gP ⟨9,xr,a,b,xi,xn⟩=if 24≤W.regs.length+W.wait.length then (3,W) else (0, { W with regs:=W.regs ++ [(W.au b,W.au a)] }) by
  have hg:¬ W.guard b<0:=fun e=>by rcases Wd.eB.1 e with h | h;exact htb h;exact h h5
  rw [HRG.out,if_neg (by rintro (h | h);exact hta h;exact hg h),(Wd.lD hg).1])
 have OKE:=Hz (show W.eY (W.au b,W.au a) from ⟨hlb,h5,hla⟩);have T0:=Hz (show ∀ w',aG w' h W→w'.cell? ⟨ga,oa+(W.au b).toNat*4,none⟩=some (.int .i64 5)∧ga<w'.heap.size from fun w' H'=>by
  obtain ⟨gb,ob,ncb,-,-,e',hg,t0,-⟩:=H'.rowAt HLB.out;rw [ETL.out] at e';cases e';rw [h5] at t0
  exact ⟨t0,hg⟩)
 clear htb hta hla hlb etl h5 HRG;go_wp2_with fail;refine (HOB.out _ HB1.out).mono ?_;rintro e w2 ⟨rfl,hk⟩;have HB2:=Hz (HB1.out.same hk);have K2:=Hz (K1.out.trans hk);have SB2:=Hz (hk.ai SB1.out (fun h=>h));clear hk s0 s1 s2 s3 s4 s5 sl;have s0:=SB2.out.cell 0;have s2:=SB2.out.cell 2;have s3:=SB2.out.cell 3;have sl:=SB2.out.lt;simp only [Lz,Ls] at s0 s2 s3;go_wp2_with fail;refine (HOA.out _ HB2.out).mono ?_;rintro e w3 ⟨rfl,hk⟩;have HB3:=Hz (HB2.out.same hk);have K3:=Hz (K2.out.trans hk);have SB3:=Hz (hk.ai SB2.out (fun h=>h));clear hk s0 s2 s3 sl;have s0:=SB3.out.cell 0;have s2:=SB3.out.cell 2;have s3:=SB3.out.cell 3;have sl:=SB3.out.lt;simp only [Lz,Ls] at s0 s2 s3;obtain ⟨t0,hg⟩:=T0.out _ HB3.out;obtain ⟨gr,orr,rc,-,hgr,q1,-,ra1,-⟩:=HB3.out.dt ha;obtain ⟨gr',or',rc',-,-,q1',-,rb1,-⟩:=HB3.out.dt hb;rw [q1] at q1';cases q1';rw [HTA.out.1] at ra1;rw [HTB.out.1] at rb1;have hai:(a:Int)<12:=by omega
 have hbi:(b:Int)<12:=by omega
 have h24l:=HB3.out.ok.hq;have hsd:=HB3.out.side;have hpl:=HB3.out.hp.lt;generalize W.au a=va at *;generalize W.au b=vb at *;by_cases h24:24≤W.regs.length+W.wait.length
 ·have HE:=Hz (show W.gP ⟨9,xr,a,b,xi,xn⟩=(3,W) by rw [HG.out,if_pos h24]);have hreg:=pf h.p h.gv h.wv W.regs W.wait vb va (w3.drew) (hsd.ae (Kz w3).drew (fun _ _ h=>h)) (by omega) (by omega) h24;have HREG:=Hz hreg;clear hreg hsd h24 h24l;go_wp2_with fail;refine aq (.free 0 (.free 1 (.free 2 (.free 3 (.free 4 (.free 5 (.free 7 (.free 11 (.free 12 (.free 13 (.free 15 (.pure 6 (.free 8 (.free 9 (.pure 10 (.pure 14 (.pure 16 (.free 17 (.free 18 (.pure 19 (.free 20 (.run 21 (.swi [] (.free 22 (.fin))))))))))))))))))))))))) [21,22] (fun w'=>w'.cell? ⟨h.p,1,none⟩=some (.slice (some ⟨gr,orr,none⟩) 12 rc)∧w'.cell? ⟨gr,orr+b*2+1,none⟩=some (.int .i64 vb)∧w'.cell? ⟨sb,2,none⟩=some (.int .i64 a)∧w'.cell? ⟨gr,orr+a*2+1,none⟩=some (.int .i64 va)) (by kernel_rfl) (by kernel_rfl) ⟨q1,rb1,s2,ra1⟩ ?_
  iterate 21 ((first | refine ak rfl rfl fun K hK=>?_ | refine aj rfl rfl fun K hK=>?_ | refine aB rfl rfl fun K hK=>?_ | refine aw rfl rfl fun K hK=>?_ | refine aA rfl rfl fun K hK=>?_);go_simp;refine hK _ ?_;clear hK K)
  refine aK rfl rfl rfl (fun K hK=>?_);unfold aM;go_simp;refine HREG.out.mono ?_;rintro e5 w5 ⟨rfl,hk⟩;refine hK _ _ ?_;clear hK K;refine aH (fun _=>True) trivial ?_
  iterate 1 ((first | refine ak rfl rfl fun K hK=>?_ | refine aj rfl rfl fun K hK=>?_);go_simp;refine hK _ ?_;clear hK K)
  refine aD ?_;have K4:=Hz (K3.out.trans ((Kz w3).drew.trans hk));clear hk q1 ra1 rb1 s0 s2 s3 sl t0 hg hgr hpl;go_wp2_with fail;go_ret;rw [HE.out];exact ⟨rfl,aI.same HB0.out K4.out⟩
 ·have HE:=Hz (show W.gP ⟨9,xr,a,b,xi,xn⟩=(0, { W with regs:=W.regs ++ [(vb,va)] }) by rw [HG.out,if_neg h24]);have HOK:=Hz (show ({ W with regs:=W.regs ++ [(vb,va)] }:Wd).ok from by
   have o:=HB3.out.ok;exact ⟨o.hr,o.rv,o.tk,o.tv,fun e he=>by
    rcases List.mem_append.1 he with h1 | h1
    ·exact o.gv e h1
    ·rw [List.mem_singleton.1 h1];exact OKE.out,o.wv,by simp;omega,o.m1,o.m2,o.g1,o.g2,o.uy,o.uo⟩)
  have hreg:=pg h.p h.gv h.wv W.regs W.wait vb va (w3.drew) (hsd.ae (Kz w3).drew (fun _ _ h=>h)) (by omega) (by omega) h24;have HREG:=Hz hreg;clear hreg hsd h24 h24l;go_wp2_with fail;refine aq (.free 0 (.free 1 (.free 2 (.free 3 (.free 4 (.free 5 (.free 7 (.free 11 (.free 12 (.free 13 (.free 15 (.pure 6 (.free 8 (.free 9 (.pure 10 (.pure 14 (.pure 16 (.free 17 (.free 18 (.pure 19 (.free 20 (.run 21 (.swi [] (.free 22 (.fin))))))))))))))))))))))))) [21,22] (fun w'=>w'.cell? ⟨h.p,1,none⟩=some (.slice (some ⟨gr,orr,none⟩) 12 rc)∧w'.cell? ⟨gr,orr+b*2+1,none⟩=some (.int .i64 vb)∧w'.cell? ⟨sb,2,none⟩=some (.int .i64 a)∧w'.cell? ⟨gr,orr+a*2+1,none⟩=some (.int .i64 va)) (by kernel_rfl) (by kernel_rfl) ⟨q1,rb1,s2,ra1⟩ ?_
  iterate 21 ((first | refine ak rfl rfl fun K hK=>?_ | refine aj rfl rfl fun K hK=>?_ | refine aB rfl rfl fun K hK=>?_ | refine aw rfl rfl fun K hK=>?_ | refine aA rfl rfl fun K hK=>?_);go_simp;refine hK _ ?_;clear hK K)
  refine aK rfl rfl rfl (fun K hK=>?_);unfold aM;go_simp;refine HREG.out.mono ?_;rintro e5 w5 ⟨rfl,hs5⟩;refine hK _ _ ?_;clear hK K;refine aH (fun _=>True) trivial ?_
  iterate 1 ((first | refine ak rfl rfl fun K hK=>?_ | refine aj rfl rfl fun K hK=>?_);go_simp;refine hK _ ?_;clear hK K)
  refine aD ?_;have TO:=Hz (aI.aY K3.out.drew ((HB3.out.same (Kz w3).drew).pD hs5 HOK.out));clear hs5 q1 ra1 rb1 s0 s2 s3 sl t0 hg hgr hpl;go_wp2_with fail;go_ret;rw [HE.out];exact ⟨rfl,TO.out⟩
end
end
section
open Go.RowKit
section
variable {w w':World} {h:bT} {W:Wd}
theorem aG.dv (H:aG w h W) {g o rc:Nat} (hrv:h.rv=.slice (some ⟨g,o,none⟩) 12 rc) {k:Nat} (hk:k<12) {v:Vl} (hv:W.dp v)
  (hs:Sl w' 78 2 (.slice (some ⟨g,o,none⟩) 12 rc) 12 (((aC W.roots).set (k*2) (.int .i64 v.1)).set (k*2+1) (.int .i64 v.2))) (K:aa (·=g) w w'):aI w h w' (W.aP k v):=by
 have e:=H.ok.hr;exact H.rr (by rw [e];exact hrv) hk hv (by rw [e];exact hs) K
theorem rG (r a:Nat) (xb xi xn:Int) (H:aG w h W) (hr:r<12) (ha:a<12) :
  Calls Try.prog 98 #[.pointer (some ⟨h.p,0,none⟩), .agg #[.int .i64 10, .int .i64 r, .int .i64 a, .int .i64 xb, .int .i64 xi, .int .i64 xn]] w (bH w h (W.pop ⟨10,r,a,xb,xi,xn⟩)):=by
 unfold bH;have HP0:=Hz (show W.guard a<0→W.pop ⟨10,r,a,xb,xi,xn⟩=(2,W) from fun h=>by unfold Wd.pop;rw [if_pos h]);have HPN:=Hz (show ¬ W.guard a<0→popW W.wait (W.guard a)=none→W.pop ⟨10,r,a,xb,xi,xn⟩=(4,W) from fun h h2=>by unfold Wd.pop;rw [if_neg h];show (match popW W.wait (W.guard a) with | none=>_ | some r=>_)=_;rw [h2]);have HPS:=Hz (show ¬ W.guard a<0→∀ q,popW W.wait (W.guard a)=some q→W.pop ⟨10,r,a,xb,xi,xn⟩=(0,({ W with regs:=W.regs,wait:=q.2 }:Wd).aP r (3,q.1)) from fun h q h2=>by unfold Wd.pop;rw [if_neg h];show (match popW W.wait (W.guard a) with | none=>_ | some r=>_)=_;rw [h2];rfl);have HB0:=Hz H;have hb1:ah (w.alloc (.cells #[.int .i64 10, .int .i64 r, .int .i64 a, .int .i64 xb, .int .i64 xi, .int .i64 xn] 98)) w.heap.size [.int .i64 10, .int .i64 r, .int .i64 a, .int .i64 xb, .int .i64 xi, .int .i64 xn] 98:=ah.newAt _ rfl rfl;have ka:=(Kz w).alloc (.cells #[.int .i64 10, .int .i64 r, .int .i64 a, .int .i64 xb, .int .i64 xi, .int .i64 xn] 98);have HB1:=Hz (H.same ka);have K1:=Hz ka;have SB1:=Hz hb1;have SOW:=Hz (show ¬ h.Own w.heap.size from fun e=>by have:=H.dE e;omega);clear hb1 ka H;go_enter Try.func98,Try.ntmps98;go_upto_region 1 with fail
 generalize w.alloc (.cells #[.int .i64 10, .int .i64 r, .int .i64 a, .int .i64 xb, .int .i64 xi, .int .i64 xn] 98)=w1 at *;generalize w.heap.size=sb at *;have s0:=SB1.out.cell 0;have s1:=SB1.out.cell 1;have s2:=SB1.out.cell 2;have s3:=SB1.out.cell 3;have s4:=SB1.out.cell 4;have s5:=SB1.out.cell 5;have sl:=SB1.out.lt;simp only [Lz,Ls] at s0 s1 s2 s3 s4 s5;have HOA:=Hz (fun w' (H:aG w' h W)=>kC a ha H);by_cases hta:W.au a<0
 ·rw [fR hta] at HOA;have HE:=Hz (HP0.out (Wd.eB.2 (.inl hta)));clear hta;go_wp2_with fail;refine (HOA.out _ HB1.out).mono ?_;rintro e w2 ⟨rfl,hk⟩;have HB2:=Hz (HB1.out.same hk);have K2:=Hz (K1.out.trans hk);have SB2:=Hz (hk.ai SB1.out (fun h=>h));clear hk s0 s1 s2 s3 s4 s5 sl;have s0:=SB2.out.cell 0;have s1:=SB2.out.cell 1;have s2:=SB2.out.cell 2;have sl:=SB2.out.lt;simp only [Lz,Ls] at s0 s1 s2;go_wp2_with fail;go_ret;rw [HE.out];exact ⟨rfl,aI.same HB0.out K2.out⟩
 have hla:=Wd.bJ HB0.out.ok hta;obtain ⟨ga,oa,nca,-,-,etl,-⟩:=HB0.out.rowAt hla;rw [fS hta etl] at HOA;have ETL:=Hz etl;have HLA:=Hz hla;have HTA:=Hz (Wd.j4 hta);by_cases h5:(W.th (W.au a)).k=5
 case neg=>
  have HE:=Hz (HP0.out (Wd.eB.2 (.inr h5)));have e5:((W.th (W.au a)).k != 5)=true:=by simpa using h5
  clear hta hla etl h5;go_wp2_with fail;refine (HOA.out _ HB1.out).mono ?_;rintro e w2 ⟨rfl,hk⟩;have HB2:=Hz (HB1.out.same hk);have K2:=Hz (K1.out.trans hk);have SB2:=Hz (hk.ai SB1.out (fun h=>h));clear hk s0 s1 s2 s3 s4 s5 sl;have s0:=SB2.out.cell 0;have s1:=SB2.out.cell 1;have s2:=SB2.out.cell 2;have sl:=SB2.out.lt;simp only [Lz,Ls] at s0 s1 s2;obtain ⟨gb,ob,ncb,-,-,e',hg,t0,-⟩:=HB2.out.rowAt HLA.out;rw [ETL.out] at e';cases e';go_wp2_with fail;go_ret;rw [HE.out];exact ⟨rfl,aI.same HB0.out K2.out⟩
 have hng:¬ W.guard a<0:=fun e=>by rcases Wd.eB.1 e with h | h;exact hta h;exact h h5
 have hgv:=(Wd.lD hng).1;have HPN:=Hz (HPN.out hng);have HPS:=Hz (HPS.out hng);rw [hgv] at HPN HPS;have T0:=Hz (show ∀ w',aG w' h W→w'.cell? ⟨ga,oa+(W.au a).toNat*4,none⟩=some (.int .i64 5)∧ga<w'.heap.size from fun w' H'=>by
  obtain ⟨gb,ob,ncb,-,-,e',hg,t0,-⟩:=H'.rowAt HLA.out;rw [ETL.out] at e';cases e';rw [h5] at t0
  exact ⟨t0,hg⟩)
 clear hta hla etl h5 HP0 hng hgv;go_wp2_with fail;refine (HOA.out _ HB1.out).mono ?_;rintro e w2 ⟨rfl,hk⟩;have HB2:=Hz (HB1.out.same hk);have K2:=Hz (K1.out.trans hk);have SB2:=Hz (hk.ai SB1.out (fun h=>h));clear hk s0 s1 s2 s3 s4 s5 sl;have s0:=SB2.out.cell 0;have s1:=SB2.out.cell 1;have s2:=SB2.out.cell 2;have sl:=SB2.out.lt;simp only [Lz,Ls] at s0 s1 s2;obtain ⟨t0,hg⟩:=T0.out _ HB2.out;obtain ⟨gr,orr,rc,erv,hgr,q1,-,ra1,hrs⟩:=HB2.out.dt ha;rw [HTA.out.1] at ra1;have RS:=Hz hrs;have ERV:=Hz erv;have hai:(a:Int)<12:=by omega
 have h24l:=HB2.out.ok.hq;have hsd:=HB2.out.side;have hpl:=HB2.out.hp.lt;clear erv hrs;generalize W.au a=va at *;have hpf:=lC W.wait va;by_cases hf:findG va W.wait<W.wait.length
 ·rw [if_pos hf] at hpf;have HPP:=Hz (HPS.out _ hpf);dsimp only at HPP;have hm:W.wait.length=findG va W.wait+1+(W.wait.length-findG va W.wait-1):=by omega
  have kd:=(Kz w2).drew;have hpop:=pj h.p h.gv h.wv W.regs W.wait va _ _ w2.drew (hsd.ae kd (fun _ _ h=>h)) (by omega) rfl hm;have hpm:=jX hpf;have HOK:=Hz (show ({ W with regs:=W.regs,wait:=W.wait.eraseIdx (findG va W.wait) }:Wd).ok from by
   have o:=HB2.out.ok
   exact ⟨o.hr,o.rv,o.tk,o.tv,o.gv,fun e he=>o.wv e (hpm.2.1 e he),by have h1:(W.wait.eraseIdx (findG va W.wait)).length+1=W.wait.length:=hpm.2.2;have h2:=o.hq;show W.regs.length+(W.wait.eraseIdx (findG va W.wait)).length≤24;omega,o.m1,o.m2,o.g1,o.g2,o.uy,o.uo⟩)
  have HXR:=Hz (show W.live (W.wait.getD (findG va W.wait) (0,0)).2 from (HB2.out.ok.wv _ hpm.1).2.2);have HPO:=Hz hpop;have HD:=Hz (HB2.out.same kd);clear hm hpop hpm hpf hf hsd h24l kd HPN HPS;generalize (W.wait.getD (findG va W.wait) (0,0)).2=x at *;generalize W.wait.eraseIdx (findG va W.wait)=wt2 at *;go_wp2_with fail;refine aq (.free 0 (.free 1 (.free 2 (.free 3 (.free 4 (.free 5 (.free 7 (.pure 6 (.free 8 (.free 9 (.pure 10 (.run 11 (.swi [] (.free 12 (.free 13 (.free 14 (.free 15 (.free 16 (.fin))))))))))))))))))) [11,12,13,14,15,16] (fun w'=>w'.cell? ⟨h.p,1,none⟩=some (.slice (some ⟨gr,orr,none⟩) 12 rc)∧w'.cell? ⟨gr,orr+a*2+1,none⟩=some (.int .i64 va)) (by kernel_rfl) (by kernel_rfl) ⟨q1,ra1⟩ ?_
  iterate 11 ((first | refine ak rfl rfl fun K hK=>?_ | refine aj rfl rfl fun K hK=>?_ | refine aB rfl rfl fun K hK=>?_ | refine aw rfl rfl fun K hK=>?_ | refine aA rfl rfl fun K hK=>?_);go_simp;refine hK _ ?_;clear hK K)
  refine aK rfl rfl rfl (fun K hK=>?_);unfold aM;go_simp;refine HPO.out.mono ?_;rintro e5 w5 ⟨rfl,hs5⟩;have TO:=Hz (aG.pD HD.out hs5 HOK.out);have SNO:=Hz (show ¬ h.Own sb from SOW.out);clear hs5 q1 ra1 hpl HPO s0 s1 s2 sl t0 hg hgr;obtain ⟨h5,B5,ep,k5,o5⟩:=TO.out;have HB5:=Hz B5;have EP:=Hz ep;have K5:=Hz k5;have O5:=Hz o5;have SB5:=Hz (k5.ai (SB2.out.drew) SNO.out);have s1:=SB5.out.cell 1;have sl:=SB5.out.lt;simp only [Lz,Ls] at s1;obtain ⟨gr,orr,rc,erv,hgr,q1,-,-,hrs⟩:=B5.dt hr;rw [ep] at q1;have RS:=Hz hrs;have ERV:=Hz erv;have hpl:=B5.hp.lt;rw [ep] at hpl;clear B5 k5 o5 ep hrs erv;refine hK _ _ ?_;clear hK K;refine aH (fun _=>True) trivial ?_
  iterate 5 ((first | refine ak rfl rfl fun K hK=>?_ | refine aj rfl rfl fun K hK=>?_);go_simp;refine hK _ ?_;clear hK K)
  refine aD ?_;have h12:(r:Int)<12:=by omega
  have h12':¬ (12:Int)≤(r:Int):=by omega
  have h12n:¬ (12:Nat)≤r:=by omega
  go_wp2_with fail;refine aq (.free 0 (.free 1 (.free 2 (.free 4 (.free 6 (.free 7 (.pure 3 (.pure 5 (.free 8 (.run 9 (.swi [] (.fin)))))))))))) [9] (fun w'=>w'.cell? ⟨h.p,1,none⟩=some (.slice (some ⟨gr,orr,none⟩) 12 rc)∧w'.cell? ⟨sb,1,none⟩=some (.int .i64 r)) (by kernel_rfl) (by kernel_rfl) ⟨q1,s1⟩ ?_
  iterate 9 ((first | refine ak rfl rfl fun K hK=>?_ | refine aj rfl rfl fun K hK=>?_ | refine aB rfl rfl fun K hK=>?_ | refine aw rfl rfl fun K hK=>?_ | refine aA rfl rfl fun K hK=>?_);go_simp;refine hK _ ?_;clear hK K)
  refine aK rfl rfl rfl (fun K hK=>?_);refine bD 78 (.tmp 91) (.tmp 90) rfl rfl gr orr 12 rc r _ 78 (.int .i64 3) (.int .i64 x) rfl rfl (RS.out.ae (Kz _).drew (fun _ _ h=>h)) hr (by kernel_rfl) rfl rfl ?_;intro wz hsz hkz hzz;refine hK _ _ ?_;clear hK K;refine aH (fun _=>True) trivial (aD ?_);have T6:=Hz (HB5.out.dv ERV.out hr (v:=(3,x)) (by right;right;right;exact ⟨rfl,HXR.out⟩) hsz (((Kz w5).drew.mono (fun _ _ h=>h.elim)).trans hkz));clear hsz hkz hzz q1 s1 sl hpl hgr h12 h12' h12n;go_wp2_with fail;go_ret;rw [HPP.out];exact ⟨rfl,aI.aY (K2.out.trans (Kz w2).drew) (aI.step EP.out K5.out O5.out T6.out)⟩
 ·rw [if_neg hf] at hpf;have HPP:=Hz (HPN.out hpf);have kd:=(Kz w2).drew;have HPO:=Hz (ph h.p h.gv h.wv W.regs W.wait va w2.drew (hsd.ae kd (fun _ _ h=>h)) (by omega) hf);clear hpf hf hsd h24l HPN HPS kd;go_wp2_with fail;refine aq (.free 0 (.free 1 (.free 2 (.free 3 (.free 4 (.free 5 (.free 7 (.pure 6 (.free 8 (.free 9 (.pure 10 (.run 11 (.swi [] (.free 12 (.free 13 (.free 14 (.free 15 (.free 16 (.fin))))))))))))))))))) [11,12,13,14,15,16] (fun w'=>w'.cell? ⟨h.p,1,none⟩=some (.slice (some ⟨gr,orr,none⟩) 12 rc)∧w'.cell? ⟨gr,orr+a*2+1,none⟩=some (.int .i64 va)) (by kernel_rfl) (by kernel_rfl) ⟨q1,ra1⟩ ?_
  iterate 11 ((first | refine ak rfl rfl fun K hK=>?_ | refine aj rfl rfl fun K hK=>?_ | refine aB rfl rfl fun K hK=>?_ | refine aw rfl rfl fun K hK=>?_ | refine aA rfl rfl fun K hK=>?_);go_simp;refine hK _ ?_;clear hK K)
  refine aK rfl rfl rfl (fun K hK=>?_);unfold aM;go_simp;refine HPO.out.mono ?_;rintro e5 w5 ⟨rfl,hk⟩;have K4:=Hz ((K2.out.trans (Kz w2).drew).trans hk);clear hk q1 ra1 hpl HPO s0 s1 s2 sl t0 hg hgr;refine hK _ _ ?_;clear hK K;refine aH (fun _=>True) trivial ?_
  iterate 5 ((first | refine ak rfl rfl fun K hK=>?_ | refine aj rfl rfl fun K hK=>?_);go_simp;refine hK _ ?_;clear hK K)
  refine aD ?_;go_wp2_with fail;go_ret;rw [HPP.out];exact ⟨rfl,aI.same HB0.out K4.out⟩
theorem rH (r a:Nat) (xb xi xn:Int) (H:aG w h W) (hr:r<12) (ha:a<12) :
  Calls Try.prog 100 #[.pointer (some ⟨h.p,0,none⟩), .agg #[.int .i64 13, .int .i64 r, .int .i64 a, .int .i64 xb, .int .i64 xi, .int .i64 xn]] w (bH w h (W.len ⟨13,r,a,xb,xi,xn⟩)):=by
 unfold bH;have HLE:=Hz (show W.len ⟨13,r,a,xb,xi,xn⟩=if W.au a<0∨(W.th (W.au a)).k=5 then (2,W) else (0,W.aP r (1,(W.th (W.au a)).fs.length)) from rfl);have HB0:=Hz H;have hb1:ah (w.alloc (.cells #[.int .i64 13, .int .i64 r, .int .i64 a, .int .i64 xb, .int .i64 xi, .int .i64 xn] 98)) w.heap.size [.int .i64 13, .int .i64 r, .int .i64 a, .int .i64 xb, .int .i64 xi, .int .i64 xn] 98:=ah.newAt _ rfl rfl;have ka:=(Kz w).alloc (.cells #[.int .i64 13, .int .i64 r, .int .i64 a, .int .i64 xb, .int .i64 xi, .int .i64 xn] 98);have HB1:=Hz (H.same ka);have K1:=Hz ka;have SB1:=Hz hb1;have SOW:=Hz (show ¬ h.Own w.heap.size from fun e=>by have:=H.dE e;omega);clear hb1 ka H;go_enter Try.func100,Try.ntmps100;go_upto_region 1 with fail
 generalize w.alloc (.cells #[.int .i64 13, .int .i64 r, .int .i64 a, .int .i64 xb, .int .i64 xi, .int .i64 xn] 98)=w1 at *;generalize w.heap.size=sb at *;have s0:=SB1.out.cell 0;have s1:=SB1.out.cell 1;have s2:=SB1.out.cell 2;have s3:=SB1.out.cell 3;have s4:=SB1.out.cell 4;have s5:=SB1.out.cell 5;have sl:=SB1.out.lt;simp only [Lz,Ls] at s0 s1 s2 s3 s4 s5;have HOA:=Hz (fun w' (H:aG w' h W)=>kC a ha H);by_cases hta:W.au a<0
 ·rw [fR hta] at HOA;have HE:=Hz (show W.len ⟨13,r,a,xb,xi,xn⟩=(2,W) by rw [HLE.out,if_pos (.inl hta)]);clear hta;go_wp2_with fail;refine (HOA.out _ HB1.out).mono ?_;rintro e w2 ⟨rfl,hk⟩;have HB2:=Hz (HB1.out.same hk);have K2:=Hz (K1.out.trans hk);have SB2:=Hz (hk.ai SB1.out (fun h=>h));clear hk s0 s1 s2 s3 s4 s5 sl;have s0:=SB2.out.cell 0;have s1:=SB2.out.cell 1;have s2:=SB2.out.cell 2;have sl:=SB2.out.lt;simp only [Lz,Ls] at s0 s1 s2;go_wp2_with fail;go_ret;rw [HE.out];exact ⟨rfl,aI.same HB0.out K2.out⟩
 have hla:=Wd.bJ HB0.out.ok hta;obtain ⟨ga,oa,nca,-,-,etl,-⟩:=HB0.out.rowAt hla;rw [fS hta etl] at HOA;have ETL:=Hz etl;have HLA:=Hz hla;have hfl:=(aX (HB0.out.ok.tk _ hla)).2.2.2;by_cases h5:(W.th (W.au a)).k=5
 ·have HE:=Hz (show W.len ⟨13,r,a,xb,xi,xn⟩=(2,W) by rw [HLE.out,if_pos (.inr h5)]);clear hta hla etl;go_wp2_with fail;refine (HOA.out _ HB1.out).mono ?_;rintro e w2 ⟨rfl,hk⟩;have HB2:=Hz (HB1.out.same hk);have K2:=Hz (K1.out.trans hk);have SB2:=Hz (hk.ai SB1.out (fun h=>h));clear hk s0 s1 s2 s3 s4 s5 sl;have s0:=SB2.out.cell 0;have s1:=SB2.out.cell 1;have s2:=SB2.out.cell 2;have sl:=SB2.out.lt;simp only [Lz,Ls] at s0 s1 s2;obtain ⟨gb,ob,ncb,-,-,e',hg,t0,-⟩:=HB2.out.rowAt HLA.out;rw [ETL.out] at e';cases e';rw [h5] at t0;clear h5;go_wp2_with fail;go_ret;rw [HE.out];exact ⟨rfl,aI.same HB0.out K2.out⟩
 have HE:=Hz (show W.len ⟨13,r,a,xb,xi,xn⟩=(0,W.aP r (1,(W.th (W.au a)).fs.length)) by rw [HLE.out,if_neg (by rintro (h | h);exact hta h;exact h5 h)]);have e5:((W.th (W.au a)).k == 5)=false:=by simpa using h5
 clear hta hla etl h5;go_wp2_with fail;refine (HOA.out _ HB1.out).mono ?_;rintro e w2 ⟨rfl,hk⟩;have HB2:=Hz (HB1.out.same hk);have K2:=Hz (K1.out.trans hk);have SB2:=Hz (hk.ai SB1.out (fun h=>h));clear hk s0 s1 s2 s3 s4 s5 sl;have s0:=SB2.out.cell 0;have s1:=SB2.out.cell 1;have s2:=SB2.out.cell 2;have sl:=SB2.out.lt;simp only [Lz,Ls] at s0 s1 s2;obtain ⟨gb,ob,ncb,fo,fc,e',hg,t0,t1,-,-⟩:=HB2.out.rowAt HLA.out;rw [ETL.out] at e';cases e';obtain ⟨gr,orr,rc,erv,hgr,q1,-,-,hrs⟩:=HB2.out.dt hr;have RS:=Hz hrs;have ERV:=Hz erv;have pl:=HB2.out.hp.lt;clear erv hrs;generalize (W.th (W.au a)).fs.length=n at *;generalize (W.th (W.au a)).k=kd at *;have HV:=Hz (show W.dp (1,(n:Int)) from .inr (.inl ⟨rfl,by unfold dy;omega⟩));have h12:(r:Int)<12:=by omega
 have h12':¬ (12:Int)≤(r:Int):=by omega
 have h12n:¬ (12:Nat)≤r:=by omega
 go_wp2_with fail;refine aq (.free 0 (.free 1 (.free 2 (.free 4 (.free 6 (.free 7 (.pure 3 (.pure 5 (.free 8 (.run 9 (.swi [] (.fin)))))))))))) [9] (fun w'=>w'.cell? ⟨h.p,1,none⟩=some (.slice (some ⟨gr,orr,none⟩) 12 rc)∧w'.cell? ⟨sb,1,none⟩=some (.int .i64 r)) (by kernel_rfl) (by kernel_rfl) ⟨q1,s1⟩ ?_
 iterate 9 ((first | refine ak rfl rfl fun K hK=>?_ | refine aj rfl rfl fun K hK=>?_ | refine aB rfl rfl fun K hK=>?_ | refine aw rfl rfl fun K hK=>?_ | refine aA rfl rfl fun K hK=>?_);go_simp;refine hK _ ?_;clear hK K)
 refine aK rfl rfl rfl (fun K hK=>?_);refine bD 78 (.tmp 53) (.tmp 52) rfl rfl gr orr 12 rc r _ 78 (.int .i64 1) (.int .i64 n) rfl rfl (RS.out.ae (Kz _).drew (fun _ _ h=>h)) hr (by kernel_rfl) rfl rfl ?_;intro wz hsz hkz hzz;refine hK _ _ ?_;clear hK K;refine aH (fun _=>True) trivial (aD ?_);have T6:=Hz (HB2.out.dv ERV.out hr (v:=(1,(n:Int))) HV.out hsz (((Kz w2).drew.mono (fun _ _ h=>h.elim)).trans hkz));clear hsz hkz hzz q1 s0 s1 s2 sl pl t0 t1;go_wp2_with fail;go_ret;rw [HE.out];exact ⟨rfl,aI.aY K2.out T6.out⟩
theorem qq (r a b:Nat) (xi xn:Int) (H:aG w h W) (hr:r<12) (ha:a<12) (hb:b<12) :
  Calls Try.prog 100 #[.pointer (some ⟨h.p,0,none⟩), .agg #[.int .i64 14, .int .i64 r, .int .i64 a, .int .i64 b, .int .i64 xi, .int .i64 xn]] w (bH w h (W.same ⟨14,r,a,b,xi,xn⟩)):=by
 unfold bH;have HSE:=Hz (show W.same ⟨14,r,a,b,xi,xn⟩=(0,W.aP r (1,if W.rt a=W.rt b then 1 else 0)) from rfl);have HB0:=Hz H;have hb1:ah (w.alloc (.cells #[.int .i64 14, .int .i64 r, .int .i64 a, .int .i64 b, .int .i64 xi, .int .i64 xn] 98)) w.heap.size [.int .i64 14, .int .i64 r, .int .i64 a, .int .i64 b, .int .i64 xi, .int .i64 xn] 98:=ah.newAt _ rfl rfl;have ka:=(Kz w).alloc (.cells #[.int .i64 14, .int .i64 r, .int .i64 a, .int .i64 b, .int .i64 xi, .int .i64 xn] 98);have HB1:=Hz (H.same ka);have K1:=Hz ka;have SB1:=Hz hb1;have SOW:=Hz (show ¬ h.Own w.heap.size from fun e=>by have:=H.dE e;omega);clear hb1 ka H;go_enter Try.func100,Try.ntmps100;go_upto_region 1 with fail
 generalize w.alloc (.cells #[.int .i64 14, .int .i64 r, .int .i64 a, .int .i64 b, .int .i64 xi, .int .i64 xn] 98)=w1 at *;generalize w.heap.size=sb at *;have s0:=SB1.out.cell 0;have s1:=SB1.out.cell 1;have s2:=SB1.out.cell 2;have s3:=SB1.out.cell 3;have s4:=SB1.out.cell 4;have s5:=SB1.out.cell 5;have sl:=SB1.out.lt;simp only [Lz,Ls] at s0 s1 s2 s3 s4 s5;obtain ⟨gr,orr,rc,erv,hgr,q1,a0,a1,hrs⟩:=HB1.out.dt ha;obtain ⟨gr',or',rc',-,-,q1',b0,b1,-⟩:=HB1.out.dt hb;rw [q1] at q1';cases q1';have RS:=Hz hrs;have ERV:=Hz erv;have pl:=HB1.out.hp.lt;have hai:(a:Int)<12:=by omega
 have hbi:(b:Int)<12:=by omega
 clear erv hrs;generalize W.rt (a:Int)=v at *;generalize W.rt (b:Int)=u at *;obtain ⟨v1,v2⟩:=v;obtain ⟨u1,u2⟩:=u;dsimp only at a0 a1 b0 b1;by_cases he:((v1,v2):Vl)=(u1,u2)
 ·have HE:=Hz (show W.same ⟨14,r,a,b,xi,xn⟩=(0,W.aP r (1,1)) by rw [HSE.out,if_pos he]);cases he;have HV:=Hz (show W.dp (1,1) from .inr (.inl ⟨rfl,by unfold dy;omega⟩));clear HSE;go_wp2_with fail;refine aq (.free 0 (.free 1 (.free 2 (.free 4 (.free 8 (.free 9 (.free 10 (.free 12 (.pure 3 (.pure 5 (.free 6 (.pure 7 (.pure 11 (.pure 13 (.free 14 (.pure 15 (.free 16 (.fin)))))))))))))))))) [] (fun w'=>w'.cell? ⟨h.p,1,none⟩=some (.slice (some ⟨gr,orr,none⟩) 12 rc)∧w'.cell? ⟨sb,2,none⟩=some (.int .i64 a)∧w'.cell? ⟨sb,3,none⟩=some (.int .i64 b)∧w'.cell? ⟨gr,orr+a*2,none⟩=some (.int .i64 v1)∧w'.cell? ⟨gr,orr+a*2+1,none⟩=some (.int .i64 v2)∧w'.cell? ⟨gr,orr+b*2,none⟩=some (.int .i64 v1)∧w'.cell? ⟨gr,orr+b*2+1,none⟩=some (.int .i64 v2)) (by kernel_rfl) (by kernel_rfl) ⟨q1,s2,s3,a0,a1,b0,b1⟩ ?_
  iterate 17 ((first | refine ak rfl rfl fun K hK=>?_ | refine aj rfl rfl fun K hK=>?_ | refine aB rfl rfl fun K hK=>?_ | refine aw rfl rfl fun K hK=>?_ | refine aA rfl rfl fun K hK=>?_);go_simp;refine hK _ ?_;clear hK K)
  refine aD ?_;have kd:=(Kz w1).drew;have H2:=Hz (HB1.out.same kd);have K2:=Hz (K1.out.trans kd);have B2:=Hz (kd.ai SB1.out (fun h=>h));have RS:=Hz (RS.out.ae kd (fun _ _ h=>h));clear kd s0 s1 s2 s3 s4 s5 sl q1 pl a0 a1 b0 b1;generalize w1.drew=w2 at *;have s1:=B2.out.cell 1;have sl:=B2.out.lt;have pl:=H2.out.hp.lt;have q1:=H2.out.cells.2.1;rw [ERV.out] at q1;simp only [Lz,Ls] at s1;have h12:(r:Int)<12:=by omega
  have h12':¬ (12:Int)≤(r:Int):=by omega
  have h12n:¬ (12:Nat)≤r:=by omega
  go_wp2_with fail;refine aq (.free 0 (.free 1 (.free 2 (.free 4 (.free 6 (.free 7 (.pure 3 (.pure 5 (.free 8 (.run 9 (.swi [] (.fin)))))))))))) [9] (fun w'=>w'.cell? ⟨h.p,1,none⟩=some (.slice (some ⟨gr,orr,none⟩) 12 rc)∧w'.cell? ⟨sb,1,none⟩=some (.int .i64 r)) (by kernel_rfl) (by kernel_rfl) ⟨q1,s1⟩ ?_
  iterate 9 ((first | refine ak rfl rfl fun K hK=>?_ | refine aj rfl rfl fun K hK=>?_ | refine aB rfl rfl fun K hK=>?_ | refine aw rfl rfl fun K hK=>?_ | refine aA rfl rfl fun K hK=>?_);go_simp;refine hK _ ?_;clear hK K)
  refine aK rfl rfl rfl (fun K hK=>?_);refine bD 78 (.tmp 53) (.tmp 52) rfl rfl gr orr 12 rc r _ 78 (.int .i64 1) (.int .i64 1) rfl rfl (RS.out.ae (Kz _).drew (fun _ _ h=>h)) hr (by kernel_rfl) rfl rfl ?_;intro wz hsz hkz hzz;refine hK _ _ ?_;clear hK K;refine aH (fun _=>True) trivial (aD ?_);have T6:=Hz (H2.out.dv ERV.out hr (v:=(1,1)) HV.out hsz (((Kz w2).drew.mono (fun _ _ h=>h.elim)).trans hkz));clear hsz hkz hzz q1 s1 sl pl;go_wp2_with fail;go_ret;rw [HE.out];exact ⟨rfl,aI.aY K2.out T6.out⟩
 ·have HE:=Hz (show W.same ⟨14,r,a,b,xi,xn⟩=(0,W.aP r (1,0)) by rw [HSE.out,if_neg he]);have HV:=Hz (show W.dp (1,0) from .inr (.inl ⟨rfl,by unfold dy;omega⟩));have hne:¬ (v1=u1∧v2=u2):=fun h=>he (by rw [h.1,h.2]);clear he HSE;by_cases h1:v1=u1
  ·have h2:¬ v2=u2:=fun h=>hne ⟨h1,h⟩;subst h1;clear hne;go_wp2_with fail;refine aq (.free 0 (.free 1 (.free 2 (.free 4 (.free 8 (.free 9 (.free 10 (.free 12 (.pure 3 (.pure 5 (.free 6 (.pure 7 (.pure 11 (.pure 13 (.free 14 (.pure 15 (.free 16 (.fin)))))))))))))))))) [] (fun w'=>w'.cell? ⟨h.p,1,none⟩=some (.slice (some ⟨gr,orr,none⟩) 12 rc)∧w'.cell? ⟨sb,2,none⟩=some (.int .i64 a)∧w'.cell? ⟨sb,3,none⟩=some (.int .i64 b)∧w'.cell? ⟨gr,orr+a*2,none⟩=some (.int .i64 v1)∧w'.cell? ⟨gr,orr+a*2+1,none⟩=some (.int .i64 v2)∧w'.cell? ⟨gr,orr+b*2,none⟩=some (.int .i64 v1)∧w'.cell? ⟨gr,orr+b*2+1,none⟩=some (.int .i64 u2)) (by kernel_rfl) (by kernel_rfl) ⟨q1,s2,s3,a0,a1,b0,b1⟩ ?_
   iterate 17 ((first | refine ak rfl rfl fun K hK=>?_ | refine aj rfl rfl fun K hK=>?_ | refine aB rfl rfl fun K hK=>?_ | refine aw rfl rfl fun K hK=>?_ | refine aA rfl rfl fun K hK=>?_);go_simp;refine hK _ ?_;clear hK K)
   refine aD ?_;have kd:=(Kz w1).drew;have H2:=Hz (HB1.out.same kd);have K2:=Hz (K1.out.trans kd);have B2:=Hz (kd.ai SB1.out (fun h=>h));have RS:=Hz (RS.out.ae kd (fun _ _ h=>h));clear kd s0 s1 s2 s3 s4 s5 sl q1 pl a0 a1 b0 b1;generalize w1.drew=w2 at *;have s1:=B2.out.cell 1;have sl:=B2.out.lt;have pl:=H2.out.hp.lt;have q1:=H2.out.cells.2.1;rw [ERV.out] at q1;simp only [Lz,Ls] at s1;have h12:(r:Int)<12:=by omega
   have h12':¬ (12:Int)≤(r:Int):=by omega
   have h12n:¬ (12:Nat)≤r:=by omega
   go_wp2_with fail;refine aq (.free 0 (.free 1 (.free 2 (.free 4 (.free 6 (.free 7 (.pure 3 (.pure 5 (.free 8 (.run 9 (.swi [] (.fin)))))))))))) [9] (fun w'=>w'.cell? ⟨h.p,1,none⟩=some (.slice (some ⟨gr,orr,none⟩) 12 rc)∧w'.cell? ⟨sb,1,none⟩=some (.int .i64 r)) (by kernel_rfl) (by kernel_rfl) ⟨q1,s1⟩ ?_
   iterate 9 ((first | refine ak rfl rfl fun K hK=>?_ | refine aj rfl rfl fun K hK=>?_ | refine aB rfl rfl fun K hK=>?_ | refine aw rfl rfl fun K hK=>?_ | refine aA rfl rfl fun K hK=>?_);go_simp;refine hK _ ?_;clear hK K)
   refine aK rfl rfl rfl (fun K hK=>?_);refine bD 78 (.tmp 53) (.tmp 52) rfl rfl gr orr 12 rc r _ 78 (.int .i64 1) (.int .i64 0) rfl rfl (RS.out.ae (Kz _).drew (fun _ _ h=>h)) hr (by kernel_rfl) rfl rfl ?_;intro wz hsz hkz hzz;refine hK _ _ ?_;clear hK K;refine aH (fun _=>True) trivial (aD ?_);have T6:=Hz (H2.out.dv ERV.out hr (v:=(1,0)) HV.out hsz (((Kz w2).drew.mono (fun _ _ h=>h.elim)).trans hkz));clear hsz hkz hzz q1 s1 sl pl;go_wp2_with fail;go_ret;rw [HE.out];exact ⟨rfl,aI.aY K2.out T6.out⟩
  ·clear hne;go_wp2_with fail;refine aq (.free 0 (.free 1 (.free 2 (.free 4 (.free 8 (.free 9 (.free 10 (.free 12 (.pure 3 (.pure 5 (.free 6 (.pure 7 (.pure 11 (.pure 13 (.free 14 (.pure 15 (.free 16 (.fin)))))))))))))))))) [] (fun w'=>w'.cell? ⟨h.p,1,none⟩=some (.slice (some ⟨gr,orr,none⟩) 12 rc)∧w'.cell? ⟨sb,2,none⟩=some (.int .i64 a)∧w'.cell? ⟨sb,3,none⟩=some (.int .i64 b)∧w'.cell? ⟨gr,orr+a*2,none⟩=some (.int .i64 v1)∧w'.cell? ⟨gr,orr+a*2+1,none⟩=some (.int .i64 v2)∧w'.cell? ⟨gr,orr+b*2,none⟩=some (.int .i64 u1)∧w'.cell? ⟨gr,orr+b*2+1,none⟩=some (.int .i64 u2)) (by kernel_rfl) (by kernel_rfl) ⟨q1,s2,s3,a0,a1,b0,b1⟩ ?_
   iterate 17 ((first | refine ak rfl rfl fun K hK=>?_ | refine aj rfl rfl fun K hK=>?_ | refine aB rfl rfl fun K hK=>?_ | refine aw rfl rfl fun K hK=>?_ | refine aA rfl rfl fun K hK=>?_);go_simp;refine hK _ ?_;clear hK K)
   refine aD ?_;have kd:=(Kz w1).drew;have H2:=Hz (HB1.out.same kd);have K2:=Hz (K1.out.trans kd);have B2:=Hz (kd.ai SB1.out (fun h=>h));have RS:=Hz (RS.out.ae kd (fun _ _ h=>h));clear kd s0 s1 s2 s3 s4 s5 sl q1 pl a0 a1 b0 b1;generalize w1.drew=w2 at *;have s1:=B2.out.cell 1;have sl:=B2.out.lt;have pl:=H2.out.hp.lt;have q1:=H2.out.cells.2.1;rw [ERV.out] at q1;simp only [Lz,Ls] at s1;have h12:(r:Int)<12:=by omega
   have h12':¬ (12:Int)≤(r:Int):=by omega
   have h12n:¬ (12:Nat)≤r:=by omega
   go_wp2_with fail;refine aq (.free 0 (.free 1 (.free 2 (.free 4 (.free 6 (.free 7 (.pure 3 (.pure 5 (.free 8 (.run 9 (.swi [] (.fin)))))))))))) [9] (fun w'=>w'.cell? ⟨h.p,1,none⟩=some (.slice (some ⟨gr,orr,none⟩) 12 rc)∧w'.cell? ⟨sb,1,none⟩=some (.int .i64 r)) (by kernel_rfl) (by kernel_rfl) ⟨q1,s1⟩ ?_
   iterate 9 ((first | refine ak rfl rfl fun K hK=>?_ | refine aj rfl rfl fun K hK=>?_ | refine aB rfl rfl fun K hK=>?_ | refine aw rfl rfl fun K hK=>?_ | refine aA rfl rfl fun K hK=>?_);go_simp;refine hK _ ?_;clear hK K)
   refine aK rfl rfl rfl (fun K hK=>?_);refine bD 78 (.tmp 53) (.tmp 52) rfl rfl gr orr 12 rc r _ 78 (.int .i64 1) (.int .i64 0) rfl rfl (RS.out.ae (Kz _).drew (fun _ _ h=>h)) hr (by kernel_rfl) rfl rfl ?_;intro wz hsz hkz hzz;refine hK _ _ ?_;clear hK K;refine aH (fun _=>True) trivial (aD ?_);have T6:=Hz (H2.out.dv ERV.out hr (v:=(1,0)) HV.out hsz (((Kz w2).drew.mono (fun _ _ h=>h.elim)).trans hkz));clear hsz hkz hzz q1 s1 sl pl;go_wp2_with fail;go_ret;rw [HE.out];exact ⟨rfl,aI.aY K2.out T6.out⟩
end
end
section
open Go.RowKit
theorem rI (n:Nat) (hn:n≤12) (w:World):Calls Try.prog 157 #[.int .u64 1, .int .u64 n] w fun e w'=>e=.returned (.tuple #[.int .u64 0, .int .u64 n])∧w=w':=by
 have h:n=0∨n=1∨n=2∨n=3∨n=4∨n=5∨n=6∨n=7∨n=8∨n=9∨n=10∨n=11∨n=12:=by omega
 rcases h with rfl | rfl | rfl | rfl | rfl | rfl | rfl | rfl | rfl | rfl | rfl | rfl | rfl <;>
 ·go_enter Try.func157,Try.ntmps157;go_wp2_with fail;go_ret2;exact ⟨rfl,rfl⟩
theorem s6 (n:Nat) (hn:n≤12) (w:World):Calls Try.prog 134 #[.int .u64 1, .int .u64 n] w fun e w'=>e=.returned (.tuple #[.int .u64 0, .int .u64 n])∧w=w':=by
 have HM:=Hz (rI n hn);have hnn:(n:Int)≤12:=by omega
 go_enter Try.func134,Try.ntmps134;go_wp2_with fail;refine (HM.out _).mono ?_;rintro e w1 ⟨rfl,rfl⟩;go_wp2_with fail;go_ret2;exact ⟨rfl,rfl⟩
theorem mN {P:Program} {w:World} {ops:Array Oper} {rest:List Oper} {o:Oper} {a:Act} {Q:Exit→Act→World→Prop} (hgd:o.guard=none) (d s:Operand) (t:TypeId)
  (ho:o.op=.call { callee:=.builtin .copy,args:=#[d,s],argTypes:=#[t,t] })
  (e:TypeId) (hu:P.underlying t=some (.slice e)) (hsz:(P.info? e).map (·.size)=some 1)
  (g off dLen dCap:Nat) (ad:Addr) (sLen sCap:Nat) (hd:a.eval d=.slice (some ⟨g,off,none⟩) dLen dCap) (hs:a.eval s=.slice (some ad) sLen sCap)
  (cur:List Value) (hb:ah w g cur e) (cs:List Value) (hn:cs.length=Nat.min sLen dLen)
  (hsrc:∀ j v,cs[j]? = some v→w.cell? (ad.add j)=some v) (hfit:off+cs.length≤cur.length) (h1:∀ v ∈ cs,v.oneCell'=true)
  (h:wpList P ops Q rest (a.put o.dst (goInt cs.length)) (w.setRow g (cur.take off ++ cs ++ cur.drop (off+cs.length)).toArray)):wpList P ops Q (o :: rest) a w:=by
 refine wpList_plain hgd fun _ hK=>?_;have hrun:=run_copy_row (P:=P) w t t o.type e g off dLen dCap ad sLen sCap cur.toArray e cs hu hsz hb hn hsrc (by simpa using hfit) h1;unfold Oper.wp execOp;simp only [ho,resolve,invoke,builtin,Sem.run_bind,Sem.run_pure,Result.andThen_ok,List.map_toArray,List.map_cons,List.map_nil,hd,hs,hrun];exact hK _ _ h
def cv (a:Int) (n k:Nat):List Value:=List.replicate k (.int .i64 a) ++ List.replicate (n-k) (.int .i64 0)
theorem j5 {a:Int} {n k:Nat} (h:k≤n):(cv a n k).length=n:=by simp [cv];omega
theorem jv {a:Int} {n k c:Nat} (h:k+c≤n):(cv a n k).take k ++ List.replicate c (.int .i64 a) ++ (cv a n k).drop (k+c)=cv a n (k+c):=by
 unfold cv;rw [List.take_append_of_le_length (by simp),List.take_of_length_le (by simp),List.drop_append,List.drop_eq_nil_of_le (by simp),List.nil_append,List.drop_replicate,List.replicate_append_replicate];congr 2;simp;omega
theorem rJ {a:Int} {n k j:Nat} (hk:k≤n) (h:j<k):(cv a n k)[j]? = some (.int .i64 a):=by
 unfold cv;rw [List.getElem?_append_left (by simpa using h),List.getElem?_replicate,if_pos h]
theorem qs (a:Int) (n g o cap:Nat) (hn:n≤12) (w:World) (hc:w.cell? ⟨g,o,none⟩=some (.int .i64 a)) (hg:g<w.heap.size) :
  Calls Try.prog 97 #[.slice (some ⟨g,o,none⟩) 1 cap, .int .i64 n] w fun e w'=>∃ b:Nat,e=.returned (.slice (some ⟨b,0,none⟩) n n)∧Sl w' 3 1 (.slice (some ⟨b,0,none⟩) n n) n (List.replicate n (.int .i64 a))∧aa (fun _=>False) w w'∧w.heap.size≤b:=by
 obtain ⟨i0,hi,hz0,hz1,hz2⟩:=info_parts iC;have hmk:=fun (wx:World)=>cR (P:=Try.prog) wx 50 3 i0 (.int .i64 0) Try.underlying50 hi hz0 rfl hz1 n (by rw [hz2];omega) (by omega);clear hi hz0 hz1 hz2;have HM:=Hz (s6 n hn);have hnn:(n:Int)≤12:=by omega
 have HMK:=Hz hmk;clear hmk;have hmk:=HMK.out;go_enter Try.func97,Try.ntmps97;go_wp2_with fail;refine (HM.out _).mono ?_;rintro e w1 ⟨rfl,rfl⟩;go_upto_region 7 with fail
 have hb:ah (w.alloc (.cells (Array.replicate n (.int .i64 0)) 3)) w.heap.size (cv a n 0) 3:=ah.newAt _ rfl (by simp [cv]);have ka:=(Kz w).alloc (.cells (Array.replicate n (.int .i64 0)) 3);have hc2:(w.alloc (.cells (Array.replicate n (.int .i64 0)) 3)).cell? ⟨g,o,none⟩=some (.int .i64 a):=by
  rw [←hc];exact World.cell?_of_block (w:=w) (a:=⟨g,o,none⟩) (ka.block g hg (fun h=>h))
 have HB:=Hz hb;have KA:=Hz ka;have HC:=Hz hc2;have HSZ:=Hz (show w.heap.size≤w.heap.size from Nat.le_refl _);clear hb ka hc hc2 hg hmk HMK HM;generalize w.alloc (.cells (Array.replicate n (.int .i64 0)) 3)=w2 at *;obtain ⟨b,hbb⟩:∃ b,w.heap.size=b:=⟨_,rfl⟩;rw [hbb] at HB;rw [hbb];have HBB:=Hz hbb;clear hbb;have hm1:(List.replicate (min 1 n) (Value.int .i64 a)).length=min 1 n:=by simp
 have HSRC:=Hz (show ∀ j v,(List.replicate (min 1 n) (Value.int .i64 a))[j]? = some v→w2.cell? ((⟨g,o,none⟩:Addr).add j)=some v from fun j v hj=>by
  rw [List.getElem?_replicate] at hj;split at hj
  ·have e:j=0:=by omega
   subst e;cases hj;exact HC.out
  ·cases hj)
 have HFIT:=Hz (show 0+(List.replicate (min 1 n) (Value.int .i64 a)).length≤(cv a n 0).length by rw [j5 (Nat.zero_le _),hm1];omega);have HONE:=Hz (show ∀ v ∈ List.replicate (min 1 n) (Value.int .i64 a),v.oneCell'=true from fun v hv=>by rw [(List.mem_replicate.1 hv).2];rfl);have HLN:=Hz (show (List.replicate (min 1 n) (Value.int .i64 a)).length=Nat.min 1 n from hm1);have HROW:=Hz (show w2.setRow b ((cv a n 0).take 0 ++ List.replicate (min 1 n) (Value.int .i64 a) ++ (cv a n 0).drop (0+(List.replicate (min 1 n) (Value.int .i64 a)).length)).toArray=w2.setRow b (cv a n (0+min 1 n)).toArray by rw [hm1,jv (by omega)]);clear hm1;go_upto_region 8 with (refine mN rfl (.tmp 31) (.tmp 32) 50 rfl 3 Try.underlying50 (by kernel_rfl) b 0 n n ⟨g,o,none⟩ 1 cap rfl rfl (cv a n 0) HB.out _ HLN.out HSRC.out HFIT.out HONE.out ?_)
 have e3:w2.setRow b (List.replicate (min 1 n) (Value.int .i64 a) ++ (cv a n 0).drop (min 1 n)).toArray=w2.setRow b (cv a n (min 1 n)).toArray:=by
  have:=jv (a:=a) (n:=n) (k:=0) (c:=min 1 n) (by omega);simp only [List.take_zero,List.nil_append,Nat.zero_add] at this;rw [this]
 rw [e3];have HB3:=Hz (HB.out.setRow (cv a n (min 1 n)));have K3:=Hz (KA.out.setRow (g:=b) (.inr (by rw [HBB.out];exact Nat.le_refl _)) (cv a n (min 1 n)).toArray);clear e3 HROW HLN HONE HFIT HSRC HB KA HC;generalize w2.setRow b (cv a n (min 1 n)).toArray=w3 at *;go_loopw [8] (fun u wr=>∃ k:Nat,k≤n∧(n=0∨1≤k)∧u=.int .i64 k∧ah wr b (cv a n k) 3∧aa (fun _=>False) w wr) (fun u _=>n-(intOf u).toNat)
 case atStart=>exact ⟨min 1 n,by omega,by omega,rfl,HB3.out,K3.out⟩
 case round=>
  clear HB3 K3;obtain ⟨k,hk,hk1,rfl,hB,hK2⟩:=hrel;have BR:=Hz hB;have KR:=Hz hK2;clear hB hK2;by_cases hlt:k<n
  ·have hki:(k:Int)<n:=by omega
   have hk0:(0:Int)≤k:=by omega
   obtain ⟨c,hc⟩:∃ c,min k (n-k)=c:=⟨_,rfl⟩;have hc1:1≤c∧k+c≤n∧c≤k:=by omega
   have HM2:=Hz (show (List.replicate c (Value.int .i64 a)).length=Nat.min k (n-k) by rw [List.length_replicate];exact hc.symm);have HSRC:=Hz (show ∀ j v,(List.replicate c (Value.int .i64 a))[j]? = some v→wr.drew.cell? ((⟨b,0,none⟩:Addr).add j)=some v from fun j v hj=>by
    rw [List.getElem?_replicate] at hj;split at hj
    ·cases hj;rw [ej,BR.out.drew.cell,Nat.zero_add];exact rJ hk (by omega)
    ·cases hj)
   have HFIT:=Hz (show k+(List.replicate c (Value.int .i64 a)).length≤(cv a n k).length by rw [j5 hk,List.length_replicate];omega);have HONE:=Hz (show ∀ v ∈ List.replicate c (Value.int .i64 a),v.oneCell'=true from fun v hv=>by rw [(List.mem_replicate.1 hv).2];rfl);have HROW:=Hz (show wr.drew.setRow b ((cv a n k).take k ++ List.replicate c (Value.int .i64 a) ++ (cv a n k).drop (k+(List.replicate c (Value.int .i64 a)).length)).toArray=wr.drew.setRow b (cv a n (k+c)).toArray by rw [List.length_replicate,jv hc1.2.1]);have hnk:n-k≠0:=by omega
   have hwr:IntKind.i64.wrap ((k:Int)+c)=(k:Int)+c:=IntWalk.i64_in _ (by omega);go_wp2_with fail;refine aq (.free 0 (.free 1 (.free 2 (.free 3 (.free 4 (.free 5 (.free 6 (.run 7 (.swi [] (.free 8 (.free 9 (.fin)))))))))))) [7,8,9] (fun _=>True) (by kernel_rfl) (by kernel_rfl) trivial ?_
   iterate 7 ((first | refine ak rfl rfl fun K hK=>?_ | refine aj rfl rfl fun K hK=>?_);go_simp;refine hK _ ?_;clear hK K)
   refine aK rfl rfl rfl (fun K hK=>?_);rw [if_neg (show ¬ n=k by omega)];refine oJ (.tmp 41) (.tmp 44) 50 rfl 3 Try.underlying50 (by kernel_rfl) b k (n-k) (n-k) ⟨b,0,none⟩ k n rfl rfl (cv a n k) BR.out.drew (List.replicate c (.int .i64 a)) HM2.out HSRC.out HFIT.out HONE.out ?_;rw [HROW.out];have BN:=Hz (BR.out.drew.setRow (cv a n (k+c)));have KN:=Hz (KR.out.drew.setRow (g:=b) (.inr (by rw [HBB.out];exact Nat.le_refl _)) (cv a n (k+c)).toArray);clear HROW HONE HFIT HSRC HM2 BR KR;generalize wr.drew.setRow b (cv a n (k+c)).toArray=w4 at *;refine hK _ _ ?_;clear hK K;refine aH (fun _=>True) trivial ?_
   iterate 2 ((first | refine ak rfl rfl fun K hK=>?_ | refine aj rfl rfl fun K hK=>?_);go_simp;refine hK _ ?_;clear hK K)
   refine aD ?_;go_wp2_with fail;go_roundw
   case rel=>exact ⟨k+c,hc1.2.1, .inr (by omega),by go_num,BN.out,KN.out⟩
   case measure=>simp [intOf];omega
  ·obtain rfl:k=n:=by omega
   go_wp2_with fail;go_ret;refine ⟨b,rfl,⟨by simp, .inr ⟨b,0,k,_,rfl,BR.out,Nat.le_refl _,by unfold maxLen;omega,by rw [j5 (Nat.le_refl _)];omega,?_⟩⟩,KR.out,by rw [HBB.out];exact Nat.le_refl _⟩;unfold cv;simp
end
end Go.Proofs.Ytjifdalflepcoab
