/-
  Parts of the proof, merged: what the functions do, and plain laws.
-/
import Derived.Test.YtjifdalflepcoabGDesP5
import Derived.Test.YtjifdalflepcoabGDesP2
import Derived.Test.YtjifdalflepcoabGDesP4
import Derived.Test.YtjifdalflepcoabGDesP0
import Derived.Test.YtjifdalflepcoabGDesP1
set_option maxHeartbeats 16000000
set_option maxRecDepth 100000
set_option linter.unusedVariables false
set_option linter.unusedSimpArgs false
namespace Go.Proofs.Ytjifdalflepcoab
section
open Go.RowKit
section
variable {w:World} {h:RW} {W:Wd}
theorem aK.jq (H:aK w h W) {g o cap m:Nat} (e:h.tv=.slice (some ⟨g,o,none⟩) W.T.length cap) (hm:m<W.T.length) {fs:List Vl} {fv:Value} {fo:Option Addr} {fc:Nat} (hfv:fv=.slice fo fs.length fc)
  (hf:Sl w 78 2 fv fs.length (au fs)) (hn:∀ b,ag fv b→¬ h.Own b) (hok:(W.bU m fs).ok) :
  ∃ h',aK (w.setCell ⟨g,o+m*4+1,none⟩ fv) h' (W.bU m fs)∧h'.p=h.p∧aa h.Own w (w.setCell ⟨g,o+m*4+1,none⟩ fv)∧∀ k,h'.Own k→h.Own k∨ag fv k:=by
 subst hfv;have hown:ag h.tv g:=by rw [e];rfl
 obtain ⟨c,hg⟩:∃ c,ah w g c 161:=by obtain ⟨cs,hs,_⟩:=H.ht;exact (hs.own hown).2
 have set:=(aa.refl (·=g) w).setCell (p:=⟨g,o+m*4+1,none⟩) (.inl rfl) (.slice fo fs.length fc);have nx:∀ {b:Nat} {c:List Value} {U:TypeId},ah w b c U→U≠161→¬ b=g:=fun hb hT=>hb.ne hg hT;have nF:∀ b,h.F b→b≠g:=fun b hb=>by obtain ⟨_,⟨c,hc⟩,_⟩:=H.af b hb;exact nx hc (by decide)
 have nf:∀ b,ag (.slice fo fs.length fc) b→¬ b=g:=fun b hb=>by obtain ⟨_,c,hc⟩:=hf.own hb;exact nx hc (by decide)
 have hf':=hf.ae set nf;obtain ⟨fo',fc',e1,hrd,hml,-⟩:=hf'.rd;cases e1;have hth:W.th m=W.T[m]:=by unfold Wd.th;rw [Int.toNat_natCast,Ld,Le hm];rfl
 have hT:(W.bU m fs).T=W.T.set m ⟨W.T[m].k,fs,W.T[m].aR,W.T[m].dead⟩:=by
  show W.T.set (m:Int).toNat _=_
  rw [Int.toNat_natCast,hth]
 refine ⟨⟨h.p,h.tv,h.rv,h.gv,h.wv,fun b=>h.F b∨ag (.slice fo fs.length fc) b⟩,⟨set.ai H.hp (nx H.hp (by decide)),?_,H.hr.ae set (fun b hb=>?_),H.hg.ae set (fun b hb=>?_),H.hw.ae set (fun b hb=>?_),H.ap,fun b hb=>?_,hok⟩,rfl,set.mono (fun b _ hb=>.inr (.inl (by rw [hb];exact hown))),fun k hk=>?_⟩
 ·show ew _ h.tv _ (W.bU m fs).T
  rw [hT];refine H.ht.put e hm (by decide) nF (fun b hb=>.inl hb) (fun r _ hr=>?_);obtain ⟨ao,cap,rfl,h1,h2,h3⟩:=hr;exact ⟨fo,fc,rfl,hrd,fun a ha=>.inr (by rw [ha];rfl),hml⟩
 ·obtain ⟨_,c,hc⟩:=H.hr.own hb;exact nx hc (by decide)
 ·obtain ⟨_,c,hc⟩:=H.hg.own hb;exact nx hc (by decide)
 ·obtain ⟨_,c,hc⟩:=H.hw.own hb;exact nx hc (by decide)
 ·rcases hb with hb | hb
  ·obtain ⟨a1,⟨c,a2⟩,a3⟩:=H.af b hb;exact ⟨by simpa using a1,⟨c,set.ai a2 (nF b hb)⟩,a3⟩
  ·obtain ⟨a1,c,a2⟩:=hf.own hb;exact ⟨by simpa using a1,⟨c,set.ai a2 (nf b hb)⟩,fun e=>hn b hb (.inr (.inr (.inl e)))⟩
 ·rcases hk with hk | hk | hk | hk | hk | hk | hk
  ·exact .inl (.inl hk)
  ·exact .inl (.inr (.inl hk))
  ·exact .inl (.inr (.inr (.inl hk)))
  ·exact .inl (.inr (.inr (.inr (.inl hk))))
  ·exact .inl (.inr (.inr (.inr (.inr (.inl hk)))))
  ·exact .inl (.inr (.inr (.inr (.inr (.inr hk)))))
  ·exact .inr hk
theorem qN (xr xa xb xi xn:Int) (H:aK w h W) :
  Calls Try.prog 60 #[.pointer (some ⟨h.p,0,none⟩), .agg #[.int .i64 12, .int .i64 xr, .int .i64 xa, .int .i64 xb, .int .i64 xi, .int .i64 xn]] w fun e w'=>e=.returned (.int .i64 (W.do ⟨12,xr,xa,xb,xi,xn⟩).1)∧aC w h w' (W.do ⟨12,xr,xa,xb,xi,xn⟩).2:=by
 have HH:=Hz H;have hb1:ah (w.alloc (.cells #[.int .i64 12, .int .i64 xr, .int .i64 xa, .int .i64 xb, .int .i64 xi, .int .i64 xn] 98)) w.heap.size [.int .i64 12, .int .i64 xr, .int .i64 xa, .int .i64 xb, .int .i64 xi, .int .i64 xn] 98:=ah.newAt _ rfl rfl;have HB:=Hz hb1;have KA:=Hz ((Kz w).alloc (.cells #[.int .i64 12, .int .i64 xr, .int .i64 xa, .int .i64 xb, .int .i64 xi, .int .i64 xn] 98));have s0:=hb1.cell 0;have s1:=hb1.cell 1;have s2:=hb1.cell 2;have s3:=hb1.cell 3;have s4:=hb1.cell 4;have s5:=hb1.cell 5;simp only [Lz,Ls] at s0 s1 s2 s3 s4 s5;have HSF:=Hz (fun w=>bh ⟨12,xr,xa,xb,xi,xn⟩ w);obtain ⟨c,hc⟩:∃ c,aP ⟨12,xr,xa,xb,xi,xn⟩=c:=⟨_,rfl⟩;rw [hc] at HSF;have HC:=Hz hc;clear H hb1 hc;go_enter Try.func60,Try.ntmps60;go_wp2_with (refine aT rfl 98 (.tmp 3) rfl [.int .i64 12, .int .i64 xr, .int .i64 xa, .int .i64 xb, .int .i64 xi, .int .i64 xn] (by kernel_rfl) w.heap.size 0 rfl (ab s0 (ab s1 (ab s2 (ab s3 (ab s4 (ab s5 aO)))))) ?_);refine (HSF.out _).mono ?_;rintro e w1 ⟨rfl,hk⟩;have H1:=Hz ((HH.out.same KA.out).same hk);have K1:=Hz (KA.out.trans hk);have B1:=Hz (hk.ai HB.out (fun h=>h));clear hk s0 s1 s2 s3 s4 s5 HSF KA HB;generalize w.heap.size=sb at *;have s0:=B1.out.cell 0;have s1:=B1.out.cell 1;have s2:=B1.out.cell 2;have s3:=B1.out.cell 3;have s4:=B1.out.cell 4;have s5:=B1.out.cell 5;have sl:=B1.out.lt;simp only [Lz,Ls] at s0 s1 s2 s3 s4 s5;by_cases h0:¬ c=0
 ·have HE:=Hz (cW (W:=W) HC.out h0);have hd:(c != 0)=true:=by simpa using h0
  clear h0;go_wp2_with fail;go_ret;exact ⟨by rw [HE.out];rfl,by rw [HE.out];exact aC.same HH.out K1.out⟩
 have h0:c=0:=Classical.not_not.1 h0;subst h0;have ha:0≤xa∧xa<12:=(aD _).1 ((aB HC.out).2.2.1 (show aH 12/2%2=1 by decide));obtain ⟨a,rfl⟩:∃ a:Nat,xa=a:=⟨xa.toNat,by omega⟩;have ha12:a<12:=by omega
 clear ha;have hth:=gz a ha12 H1.out;have htl:=Wd.bI (W:=W) (k:=(a:Int)) H1.out.ok;obtain ⟨ti,hti⟩:∃ ti,W.aw (a:Int)=ti:=⟨_,rfl⟩;rw [hti] at hth htl;have HTI:=Hz hti;have HTH:=Hz hth;have HTL:=Hz (fun (hn:0≤ti)=>htl (by omega));clear hti hth htl;have pl:=H1.out.hp.lt;go_wp2_with fail;refine HTH.out.mono ?_;rintro e w2 ⟨rfl,hk⟩;have H2:=Hz (H1.out.same hk);have K2:=Hz (K1.out.trans hk);have B2:=Hz (hk.ai B1.out (fun h=>h));clear hk s0 s1 s2 s3 s4 s5 sl pl HTH B1 H1 K1;have s0:=B2.out.cell 0;have s1:=B2.out.cell 1;have s2:=B2.out.cell 2;have s3:=B2.out.cell 3;have s4:=B2.out.cell 4;have sl:=B2.out.lt;have pl:=H2.out.hp.lt;simp only [Lz,Ls] at s0 s1 s2 s3 s4;by_cases hi:ti<0
 ·have hd:decide (ti<0)=true:=by simpa using hi
  have HF:=Hz (show W.aV ⟨12,xr,a,xb,xi,xn⟩=2 by unfold Wd.aV;dsimp only;rw [HTI.out,if_pos (.inl hi)]);have HE:=Hz (show W.do ⟨12,xr,a,xb,xi,xn⟩=(2,W) by rw [bE HC.out];show Wd.set _ _=_;unfold Wd.set;rw [HF.out];rfl);clear hi;go_wp2_with fail;go_ret;exact ⟨by rw [HE.out];rfl,by rw [HE.out];exact aC.same HH.out K2.out⟩
 have hd:decide (ti<0)=false:=by simpa using hi
 have HLV:=Hz (HTL.out (by omega));obtain ⟨m,rfl,g0,o0,nc,ao,fc,etv,hm,hg0,t0,t1,hrd,hog⟩:=H2.out.nth HLV.out;obtain ⟨c0,-,-,-,-,-⟩:=H2.out.cells;rw [etv] at c0;have HRD:=Hz hrd;have HOG:=Hz hog;have ETV:=Hz etv;have HTI2:=Hz (show W.aw (a:Int)=(m:Int) from HTI.out);have HFB:=Hz (Wd.iy H2.out.ok HLV.out);clear hi HTL hrd hog etv HTI;by_cases h5:(W.th m).k=5
 ·have HF:=Hz (show W.aV ⟨12,xr,a,xb,xi,xn⟩=2 by unfold Wd.aV;dsimp only;rw [HTI2.out,if_pos (.inr h5)]);have HE:=Hz (show W.do ⟨12,xr,a,xb,xi,xn⟩=(2,W) by rw [bE HC.out];show Wd.set _ _=_;unfold Wd.set;rw [HF.out];rfl);rw [h5] at t0;clear h5;go_wp2_with fail;go_ret;exact ⟨by rw [HE.out];rfl,by rw [HE.out];exact aC.same HH.out K2.out⟩
 have hb5:((W.th m).k == 5)=false:=by simpa using h5
 have HFC:=Hz (show W.aV ⟨12,xr,a,xb,xi,xn⟩=if xi<0∨((W.th m).fs.length:Int)≤xi then 1 else 0 by unfold Wd.aV;dsimp only;rw [HTI2.out,if_neg (fun e=>by rcases e with e | e;omega;exact h5 e)]);have hfl:=HFB.out;obtain ⟨fs,hfs⟩:∃ fs,(W.th m).fs=fs:=⟨_,rfl⟩;rw [hfs] at HFC HRD t1 hfl;have HFS:=Hz hfs;clear h5 hfs HFB;generalize (W.th m).k=q at *;by_cases i0:xi<0
 ·have hd0:decide (xi<0)=true:=by simpa using i0
  have HF:=Hz (show W.aV ⟨12,xr,a,xb,xi,xn⟩=1 by rw [HFC.out,if_pos (.inl i0)]);have HE:=Hz (show W.do ⟨12,xr,a,xb,xi,xn⟩=(1,W) by rw [bE HC.out];show Wd.set _ _=_;unfold Wd.set;rw [HF.out];rfl);clear i0;go_wp2_with fail;go_ret;exact ⟨by rw [HE.out];rfl,by rw [HE.out];exact aC.same HH.out K2.out⟩
 have hd0:decide (xi<0)=false:=by simpa using i0
 obtain ⟨i,rfl⟩:∃ i:Nat,xi=i:=⟨xi.toNat,by omega⟩;by_cases i1:fs.length≤i
 ·have hd1:decide (fs.length≤i)=true:=by simpa using i1
  have HF:=Hz (show W.aV ⟨12,xr,a,xb,i,xn⟩=1 by rw [HFC.out,if_pos (.inr (by omega))]);have HE:=Hz (show W.do ⟨12,xr,a,xb,i,xn⟩=(1,W) by rw [bE HC.out];show Wd.set _ _=_;unfold Wd.set;rw [HF.out];rfl);clear i1 i0;go_wp2_with fail;go_ret;exact ⟨by rw [HE.out];rfl,by rw [HE.out];exact aC.same HH.out K2.out⟩
 have hd1:decide (fs.length≤i)=false:=by simpa using i1
 have hil:i<fs.length:=by omega
 have HF:=Hz (show W.aV ⟨12,xr,a,xb,i,xn⟩=0 by rw [HFC.out,if_neg (by omega)]);clear i0 i1 HFC;have hb:0≤xb∧xb<12:=(aD _).1 ((aB HC.out).2.2.2.1 (show aH 12/4%2=1 by decide));obtain ⟨b,rfl⟩:∃ b:Nat,xb=b:=⟨xb.toNat,by omega⟩;have hb12:b<12:=by omega
 clear hb;have HVO:=Hz (Wd.eS H2.out.ok (b:Int));have HSO:=Hz (fun hv=>Wd.ok.bU (W:=W) H2.out.ok (j:=(m:Int)) (fs:=fs.set i (W.rt (b:Int))) HLV.out (by rw [HFS.out,List.length_set]) hv);have HFO:=Hz (H2.out.ok.tv m HLV.out);have HE:=Hz (show W.do ⟨12,xr,a,b,i,xn⟩=(0,W.bU m (fs.set i (W.rt b))) by rw [bE HC.out];show Wd.set _ _=_;unfold Wd.set;rw [HF.out,if_pos rfl];dsimp only;rw [HTI2.out,HFS.out,Int.toNat_natCast]);obtain ⟨iv,hi,hz0,hz1,hz2⟩:=bB du;have Vi:=Hz hi;have Vz0:=Hz hz0;have Vz1:=Hz hz1;have Vz2:=Hz hz2;clear hi hz0 hz1 hz2;obtain ⟨gf,of,rfl,hgf,-,-⟩:=HRD.out.val i hil;have HNW:=Hz (show ∀ j u,(au fs)[j]? = some u→w2.cell? ((⟨gf,of,none⟩:Addr).add j)=some u from fun j u hu=>by
  have hj:=(List.getElem?_eq_some_iff.1 hu).1;obtain ⟨g',o',e',_,hc⟩:=HRD.out (by intro e;rw [e] at hj;simp at hj);cases e'
  rw [cX,hc j hj];exact hu)
 go_wp2_with (at_builtin;refine bD rfl (.tmp 299) (.tmp 307) 69 rfl 78 iv (.agg #[.int .i64 0, .int .i64 0]) 2 16 Try.underlying69 Vi.out Vz0.out Vz1.out Vz2.out rfl (by decide) (.slice none 0 0) 0 [] rfl (Sl.nil _ _ _) ⟨gf,of,none⟩ fs.length fc (au fs) rfl (a7 fs) HNW.out ?hc ?hd ?he ?hf)
 case hc=>
  intro u hu;obtain ⟨e,_,hu⟩:=List.mem_flatMap.1 (show u ∈ fs.flatMap (fun e=>[Value.int .i64 e.1,Value.int .i64 e.2]) from hu);simp at hu;rcases hu with rfl | rfl <;> rfl
 case hd=>unfold maxLen;omega
 case he=>omega
 case hf=>
  intro v' w3 hs hk ho;have hk3:aa (fun _=>False) w2 w3:=hk.mono (fun b _ hb=>(bJ hb).elim);have ho3:∀ k,ag v' k→w2.heap.size≤k:=fun k hk=>(ho k hk).elim (fun h=>(bJ h).elim) id;obtain ⟨gl,ol,lc,cur,rfl,hbl,-,-,-,-⟩:=hs.laid (by omega);have H3:=Hz (H2.out.same hk3);have K3:=Hz (K2.out.trans hk3);have B3:=Hz (hk3.ai B2.out (fun h=>h));have LS:=Hz hs;have LO:=Hz (ho3 gl rfl);have OL:=Hz (fun b hb=>(H2.out.aX (k:=b) hb).1);clear hs hk hk3 ho ho3 s0 s1 s2 s3 s4 sl c0 t0 t1 hgf hg0 pl HNW B2 hbl;have s3:=B3.out.cell 3;have s4:=B3.out.cell 4;have sl:=B3.out.lt;have pl:=H3.out.hp.lt;simp only [Lz,Ls] at s3 s4;obtain ⟨g,o,rc,erv,hg,r0,r1⟩:=H3.out.root hb12;have hrl:W.roots.length=12:=H3.out.ok.hr;obtain ⟨-,c1,-,-,-,-⟩:=H3.out.cells;rw [erv,hrl] at c1;have h12:(b:Int)<12:=by omega
  clear erv hrl;generalize W.rt (b:Int)=v at *;obtain ⟨v1,v2⟩:=v;dsimp only at r0 r1;go_wp2_with fail;refine aq (.free 0 (.free 1 (.free 3 (.free 4 (.free 5 (.free 7 (.pure 2 (.pure 6 (.pure 8 (.free 9 (.pure 10 (.free 11 (.run 12 (.swi [] (.fin))))))))))))))) [12] (fun w'=>w'.cell? ⟨h.p,1,none⟩=some (.slice (some ⟨g,o,none⟩) 12 rc)∧w'.cell? ⟨sb,3,none⟩=some (.int .i64 b)∧w'.cell? ⟨sb,4,none⟩=some (.int .i64 i)∧w'.cell? ⟨g,o+b*2,none⟩=some (.int .i64 v1)∧w'.cell? ⟨g,o+b*2+1,none⟩=some (.int .i64 v2)) (by kernel_rfl) (by kernel_rfl) ⟨c1,s3,s4,r0,r1⟩ ?_
  iterate 12 ((first | refine ak rfl rfl fun K hK=>?_ | refine aj rfl rfl fun K hK=>?_ | refine ay rfl rfl fun K hK=>?_ | refine av rfl rfl fun K hK=>?_ | refine ax rfl rfl fun K hK=>?_);go_simp;refine hK _ ?_;clear hK K)
  refine aG rfl rfl rfl (fun K hK=>?_);refine aS 78 (.tmp 320) (.tmp 319) rfl rfl gl ol fs.length lc i (au fs) 78 (.int .i64 v1) (.int .i64 v2) rfl rfl (LS.out.ae (Kz w3).drew (fun _ _ h=>h)) hil (by kernel_rfl) rfl rfl ?_;intro w4 hs4 hk4 hz4;refine hK _ _ ?_;clear hK K;refine aE (fun _=>True) trivial (aA ?_);have hkw:aa (·=gl) w3 w4:=((Kz w3).drew.mono (fun _ _ h=>h.elim)).trans hk4;have hno:∀ k,h.Own k→¬ k=gl:=fun k hk e=>by have:=OL.out k hk;have:=LO.out;omega
  have H4:=Hz (H3.out.ae hkw hno);have K4:=Hz (K3.out.then hkw (fun k hk=>.inr (Nat.le_trans K2.out.size (by rw [hk];exact LO.out))));have L4:=Hz (show Sl w4 78 2 (.slice (some ⟨gl,ol,none⟩) fs.length lc) (fs.set i (v1,v2)).length (au (fs.set i (v1,v2))) by rw [List.length_set,dp];exact hs4);clear hkw hno hs4 hk4 hz4 c1 s3 s4 sl r0 r1 hg pl;obtain ⟨m',em',g1,o1,nc1,ao1,fc1,etv,hm1,hg1,u0,u1,-,hog1⟩:=H4.out.nth HLV.out;obtain rfl:m=m':=by omega
  rw [ETV.out] at etv;cases etv;obtain ⟨d0,-,-,-,-,-⟩:=H4.out.cells;have pl:=H4.out.hp.lt;rw [ETV.out] at d0;have hfr:∀ k,w4.frozen? ⟨g0,k,none⟩=false:=by
   obtain ⟨cs,hs,_⟩:=H4.out.ht;obtain ⟨_,c,hc⟩:=hs.own HOG.out;exact fun k=>hc.free k
  have hf1:=hfr (o0+m*4+1);have TO:=Hz (H4.out.jq (m:=m) (fs:=fs.set i (v1,v2)) (fv:=.slice (some ⟨gl,ol,none⟩) fs.length lc) (fo:=some ⟨gl,ol,none⟩) (fc:=lc) ETV.out hm (by rw [List.length_set]) L4.out (fun k hk e=>by
   have h1:gl=k:=by simpa [ag,Value.ownBlock] using hk
   have:=OL.out k e;have:=LO.out;omega) (HSO.out (fun v hv=>by
    rcases List.mem_or_eq_of_mem_set hv with h1 | rfl
    ·exact HFO.out v (by rw [HFS.out];exact h1)
    ·exact HVO.out)))
  clear hfr em';go_wp2_with fail;go_ret;refine ⟨by rw [HE.out];rfl,?_⟩;rw [HE.out];obtain ⟨h',H',e',k',o'⟩:=TO.out;refine ⟨h',H',e',(K4.out.mono (fun _ _ h=>h.elim)).trans k',fun k hk=>?_⟩;rcases o' k hk with h1 | h1
  ·exact .inl h1
  ·right;have h1:gl=k:=by simpa [ag,Value.ownBlock] using h1
   have:=LO.out;have:=K2.out.size;omega
end
end
section
open Go.RowKit
section
variable {w w':World} {h:HH} {O O':Wo} {W:Wd} {φ:Int→Int}
theorem r3 {x:St} (h:aP x=0):1≤x.k∧x.k≤16:=by
 have h1:=(aB h).1;unfold aH at h1;by_cases h2:1≤x.k∧x.k≤16
 ·exact h2
 ·exfalso;apply h1;rw [if_neg (by omega),if_neg (by omega),if_neg (by omega),if_neg (by omega),if_neg (by omega)]
end
end
section
open Go.RowKit
section
variable {w:World} {h:RW} {W:Wd}
def mI (w:World) (h:RW) (W:Wd) (x:St) (e:Ending) (w':World):Prop:=e=.returned (.int .i64 (W.do x).1)∧aC w h w' (W.do x).2
theorem s7 (x:St) (H:aK w h W) (hT:W.T.length≤90000) (hn:eQ x.n) :
  Calls Try.prog 60 #[.pointer (some ⟨h.p,0,none⟩), .agg #[.int .i64 x.k, .int .i64 x.r, .int .i64 x.a, .int .i64 x.b, .int .i64 x.i, .int .i64 x.n]] w (mI w h W x):=by
 obtain ⟨k,r,a,b,i,n⟩:=x;by_cases hc:aP ⟨k,r,a,b,i,n⟩=0
 ·have hk:=r3 hc;dsimp only at hk ⊢;have hcs:k=1∨k=2∨k=3∨k=4∨k=5∨k=6∨k=7∨k=8∨k=9∨k=10∨k=11∨k=12∨k=13∨k=14∨k=15∨k=16:=by omega
  clear hc hk;rcases hcs with rfl | rfl | rfl | rfl | rfl | rfl | rfl | rfl | rfl | rfl | rfl | rfl | rfl | rfl | rfl | rfl
  ·exact qC _ _ _ _ _ H
  ·exact qL _ _ _ _ _ H
  ·exact pH _ _ _ _ _ H
  ·exact pI _ _ _ _ _ H hT
  ·exact qE _ _ _ _ _ H hT
  ·exact pJ _ _ _ _ _ H hT
  ·exact oz _ _ _ _ _ H hT
  ·exact oA _ _ _ _ _ H hT
  ·exact qH _ _ _ _ _ H
  ·exact qK _ _ _ _ _ H
  ·exact qM _ _ _ _ _ H
  ·exact qN _ _ _ _ _ H
  ·exact qF _ _ _ _ _ H
  ·exact pK _ _ _ _ _ H
  ·exact oB _ _ _ _ _ H (by omega)
  ·exact oC _ _ _ _ _ H (by omega)
 ·exact qD _ _ _ _ _ _ H hc
theorem Wd.sJ (W:Wd) (x:St):(W.do x).2.T.length≤W.T.length+1:=by
 have hnew:∀ (r k:Int) (l:List Int),(W.bO r k l).2.T.length≤W.T.length+1:=fun r k l=>by
  unfold Wd.bO;split
  ·show ((W.room (1+(l.length:Int))).2.T ++ [_]).length≤_
   rw [List.length_append,Wd.jX];simp
  ·dsimp only;omega
 have hcut:∀ g,(W.cut g).2.T.length≤W.T.length+1:=fun g=>by rw [Wd.rN];omega
 have hreg:(W.fC x).2.T.length≤W.T.length+1:=by
  unfold Wd.fC;split
  ·dsimp only;omega
  ·split <;> (dsimp only;omega)
 have hpop:(W.pop x).2.T.length≤W.T.length+1:=by
  unfold Wd.pop;split
  ·dsimp only;omega
  ·split <;> (dsimp only;omega)
 have hget:(W.get x).2.T.length≤W.T.length+1:=by
  unfold Wd.get;split
  ·show (W.bj _ _).T.length≤_;rw [jY];omega
  ·dsimp only;omega
 have hset:(W.set x).2.T.length≤W.T.length+1:=by
  unfold Wd.set;split
  ·show (W.bU _ _).T.length≤_;rw [qp];omega
  ·dsimp only;omega
 have hlen:(W.len x).2.T.length≤W.T.length+1:=by
  unfold Wd.len;split
  ·dsimp only;omega
  ·show (W.bj _ _).T.length≤_;rw [jY];omega
 have hR:∀ (r:Int) (v:Vl),((0,W.bj r v):Int × Wd).2.T.length≤W.T.length+1:=fun r v=>by show (W.bj _ _).T.length≤_;rw [jY];omega
 unfold Wd.do
 by_cases hc:aP x=0
 ·rw [if_pos hc];unfold Wd.step;by_cases h1:x.k=1;· rw [if_pos h1];exact hR _ _
  rw [if_neg h1];by_cases h2:x.k=2;· rw [if_pos h2];exact hR _ _
  rw [if_neg h2];by_cases h3:x.k=3;· rw [if_pos h3];exact hR _ _
  rw [if_neg h3];by_cases h4:x.k=4;· rw [if_pos h4];exact hnew _ _ _
  rw [if_neg h4];by_cases h5:x.k=5;· rw [if_pos h5];exact hnew _ _ _
  rw [if_neg h5];by_cases h6:x.k=6;· rw [if_pos h6];exact hnew _ _ _
  rw [if_neg h6];by_cases h7:x.k=7;· rw [if_pos h7];exact hnew _ _ _
  rw [if_neg h7];by_cases h8:x.k=8;· rw [if_pos h8];exact hnew _ _ _
  rw [if_neg h8];by_cases h9:x.k=9;· rw [if_pos h9];exact hreg
  rw [if_neg h9];by_cases h10:x.k=10;· rw [if_pos h10];exact hpop
  rw [if_neg h10];by_cases h11:x.k=11;· rw [if_pos h11];exact hget
  rw [if_neg h11];by_cases h12:x.k=12;· rw [if_pos h12];exact hset
  rw [if_neg h12];by_cases h13:x.k=13;· rw [if_pos h13];exact hlen
  rw [if_neg h13];by_cases h14:x.k=14;· rw [if_pos h14];exact hR _ _
  rw [if_neg h14];by_cases h15:x.k=15;· rw [if_pos h15];exact hcut _
  rw [if_neg h15];exact hcut _
 ·rw [if_neg hc];dsimp only;omega
end
end
section
open Go.RowKit
@[go_sem] theorem pN {P:Program} {a:Addr} {m:Mode} {w:World} (f:Fn) (x y:Array Value):(store a (.func f x y) m).run P w=stored P w a (.func f x y) m:=run_store P w a _ m rfl
theorem dI.other {w wr w2:World} {g:ej} {h:RW} {W:Wd} {tb:Nat} {rv mv nv:Value} {F:Nat→Prop} {s:VS} {l:List Vl} {b:Nat} (I:dI w g h W tb wr rv mv nv F s l) (k:aa (·=b) wr w2) (hb:∃ c,ah wr b c 78) (h0:w.heap.size≤b) (h1:¬ F b) (h2:¬ ag rv b) :
  dI w g h W tb w2 rv mv nv F s l:=by
 obtain ⟨c,hc⟩:=hb;have ho:¬ h.Own b:=fun e=>by have:=I.ol b e;omega
 have fp:=I.V.cF hc (by decide) (by decide) (by decide) (by decide);exact ⟨I.V.other k fp ho h1 (hc.ne I.V.hw (by decide)) (hc.ne I.V.hf (by decide)),I.K.then k (fun j hj=>.inr (by rw [hj];exact h0)),I.o0,I.o1,I.o2,I.L.ae k (fun j hj e=>h2 (e ▸ hj)),I.o3,I.om,I.ov,I.ot,I.nt,I.ol,k.ai I.B (fun e=>hc.ne I.B (by decide) e.symm)⟩
section
variable {h:RW} {W:Wd}
theorem r5 (w:World) (H:aK w h W) (hT:W.T.length≤100000) :
  Calls Try.prog 64 #[.pointer (some ⟨h.p,0,none⟩)] w fun e w'=>kF w W.view e w':=by
 have HH:=Hz H;have HT:=Hz hT;obtain ⟨vi,hi,hz0,hz1,hz2⟩:=bB du;have Vi:=Hz hi;have Vz0:=Hz hz0;have Vz1:=Hz hz1;have Vz2:=Hz hz2;clear hi hz0 hz1 hz2;have h12:=H.ok.hr;obtain ⟨ro,rc,hro,-,-,-⟩:=H.hr.rd;have HRO:=Hz hro;have HRR:=Hz H.hr;clear H hT hro;go_enter Try.func64,Try.ntmps64;go_upto_region 4 with fail
 have HB:Hid (∃ w1,((((w.alloc (.cells #[.pointer (some ⟨h.p,0,none⟩)] 94)).alloc (.cells #[.slice none 0 0, .slice none 0 0] 72)).alloc (.cells #[.slice none 0 0, .slice none 0 0] 72)).alloc (.cells #[.slice none 0 0] 50)).alloc (.cells #[.nilFunc] 165)=w1∧aa (fun _=>False) w w1∧ah w1 w.heap.size [.pointer (some ⟨h.p,0,none⟩)] 94∧ah w1 (w.heap.size+1) [.slice none 0 0, .slice none 0 0] 72∧ah w1 (w.heap.size+1+1) [.slice none 0 0, .slice none 0 0] 72∧ah w1 (w.heap.size+1+1+1) [.slice none 0 0] 50∧ah w1 (w.heap.size+1+1+1+1) [.nilFunc] 165):=
  ⟨_,rfl,(((((Kz w).alloc _).alloc _).alloc _).alloc _).alloc _,((((ah.newAt _ rfl rfl).alloc _).alloc _).alloc _).alloc _,(((ah.newAt _ (by simp) rfl).alloc _).alloc _).alloc _,((ah.newAt _ (by simp) rfl).alloc _).alloc _,(ah.newAt _ (by simp) rfl).alloc _,ah.newAt _ (by simp) rfl⟩
 obtain ⟨w1,hw1,k1,bw,bt,bv,bm,bf⟩:=HB.out;rw [hw1];clear HB hw1;have f0:=bf.cell 0;have fl:=bf.lt;have ff:=bf.free 0;simp only [Lz] at f0;have H1:=Hz (HH.out.same k1);have K1:=Hz k1;have BW:=Hz bw;have BT:=Hz bt;have BV:=Hz bv;have BM:=Hz bm;have BF:=Hz bf;clear k1 bw bt bv bm bf;go_wp2_with fail;clear f0 fl ff;have set:=(aa.refl (·=w.heap.size+1+1+1+1) w1).setCell (p:=⟨w.heap.size+1+1+1+1,0,none⟩) (.inl rfl) (ej.fn ⟨w.heap.size+1+1+1,w.heap.size,w.heap.size+1+1,w.heap.size+1+1+1+1⟩);have hol:∀ k,h.Own k→k<w.heap.size:=fun k hk=>(HH.out.aX hk).1;have HOL:=Hz hol;have BF2:=Hz (BF.out.aF 0 (ej.fn ⟨w.heap.size+1+1+1,w.heap.size,w.heap.size+1+1,w.heap.size+1+1+1+1⟩));have V2:cx (w1.setCell ⟨w.heap.size+1+1+1+1,0,none⟩ (ej.fn ⟨w.heap.size+1+1+1,w.heap.size,w.heap.size+1+1,w.heap.size+1+1+1+1⟩)) ⟨w.heap.size+1+1+1,w.heap.size,w.heap.size+1+1,w.heap.size+1+1+1+1⟩ h W (.slice none 0 0) (.slice none 0 0) (.slice none 0 0) (fun _=>False) ([],[]):=
  ⟨H1.out.ae set (fun b hb e=>by have:=hol b hb;omega),set.ai BM.out (by dsimp only;omega),set.ai BW.out (by dsimp only;omega),set.ai BV.out (by dsimp only;omega),BF2.out,Sl.nil _ _ _,cz.nil _ _,fun _ h=>h.elim,fun _ h=>by cases h⟩
 have HI0:=Hz (show dI w ⟨w.heap.size+1+1+1,w.heap.size,w.heap.size+1+1,w.heap.size+1+1+1+1⟩ h W (w.heap.size+1) _ (.slice none 0 0) (.slice none 0 0) (.slice none 0 0) (fun _=>False) (TR W 0).2 (TR W 0).1 from
  ⟨V2,K1.out.setCell (p:=⟨w.heap.size+1+1+1+1,0,none⟩) (.inr (show w.heap.size≤w.heap.size+1+1+1+1 by omega)) _,fun _ h=>(bJ h).elim,fun _ h=>(bJ h).elim,fun _ h=>h.elim,Sl.nil _ _ _,fun _ h=>(bJ h).elim,by dsimp only;omega,by dsimp only;omega,by omega,by dsimp only;omega,hol,set.ai BT.out (by omega)⟩)
 clear set hol V2 BF2 BF BM BV BT BW HOL K1 H1;generalize hfb:w.heap.size+1+1+1+1=fb at *;generalize hmb:w.heap.size+1+1+1=mb at *;generalize hvb:w.heap.size+1+1=vb at *;generalize htb:w.heap.size+1=tb at *;generalize hwb:w.heap.size=wb at *;clear hfb hmb hvb htb hwb;unfold ej.fn at HI0;dsimp only at HI0;generalize w1.setCell _ _=w2 at *;have HT':=Hz (fun g rv=>tA (g:=g) (h:=h) (W:=W) (rv:=rv) HT.out 5000);go_wp2_with fail;go_loopw [6] (fun i wr=>∃ (k:Nat) (rv mv nv:Value) (F:Nat→Prop),k≤12∧i=.int .i64 k∧dI w ⟨mb,wb,vb,fb⟩ h W tb wr rv mv nv F (TR W k).2 (TR W k).1) (fun i _=>12-(intOf i).toNat)
 case atStart=>exact ⟨0,_,_,_,_,Nat.zero_le _,rfl,HI0.out⟩
 case round=>
  clear HI0;obtain ⟨k,rv,mv,nv,F,hk,rfl,hI⟩:=hrel;have HI:=Hz hI;have hkl:=pG (W:=W) (k:=k) (by rw [HH.out.ok.hr];exact hk);have HKL:=Hz hkl;by_cases hlt:k<12
  ·have a0:=hI.V.hw.cell 0;have al:=hI.V.hw.lt;have e1:=hI.V.H.cells.2.1;have el:=hI.V.H.hp.lt;rw [HRO.out,h12] at e1;have f0:=hI.V.hf.cell 0;have fl:=hI.V.hf.lt;unfold ej.fn at f0;simp only [Lz] at a0 f0;have HST:=Hz (ny (W:=W) (k:=k) (by rw [HH.out.ok.hr];exact hlt));obtain ⟨gr,og,rc',erv,ggl,d0,d1⟩:=hI.V.H.root hlt;rw [HRO.out] at erv;cases erv;have hm:W.roots.getD k (0,0) ∈ W.roots:=by rw [Ld,Le (by rw [HH.out.ok.hr];exact hlt)];exact List.getElem_mem _
   have HAL:=Hz (show (W.roots.getD k (0,0)).1=3→(W.roots.getD k (0,0)).2 ∈ W.all from fun h3=>Wd.di.2 (Wd.bg (HH.out.ok.rv _ hm) h3));have hrt:W.rt (k:Int)=W.roots.getD k (0,0):=by unfold Wd.rt;rw [Int.toNat_natCast]
   rw [hrt] at d0 d1;clear hrt hm;generalize W.roots.getD k (0,0)=v at *;obtain ⟨f1,f2⟩:=v;dsimp only at d0 d1;have OWN:=Hz (show h.Own gr from .inr (.inr (.inl (by rw [HRO.out];rfl))));have UN:=Hz (oy HH.out.ok k);have NL:=Hz (qB (W:=W) k);obtain ⟨lo,lc,rfl,-,-,-⟩:=hI.L.rd;rw [hkl] at HI;clear hI hkl;go_wp2_with fail;refine aq (.free 5 (.pure 0 (.pure 1 (.free 2 (.free 3 (.pure 4 (.free 6 (.pure 7 (.two 8 (.run 9 (.run 10 (.swi [] (.fin)))) 9 (.run 8 (.swi [10] (.run 10 (.swi [] (.fin)))))))))))))) [10] (fun w'=>w'.cell? ⟨fb,0,none⟩=some (.func (.func 108) #[] #[.pointer (some ⟨mb,0,none⟩), .pointer (some ⟨wb,0,none⟩), .pointer (some ⟨vb,0,none⟩), .pointer (some ⟨fb,0,none⟩)])∧w'.cell? ⟨wb,0,none⟩=some (.pointer (some ⟨h.p,0,none⟩))∧w'.cell? ⟨h.p,1,none⟩=some (.slice (some ⟨gr,og,none⟩) 12 rc)∧w'.cell? ⟨gr,og+k*2,none⟩=some (.int .i64 f1)∧w'.cell? ⟨gr,og+k*2+1,none⟩=some (.int .i64 f2)) (by kernel_rfl) (by kernel_rfl) ⟨f0,a0,e1,d0,d1⟩ ?_
   iterate 8 ((first | refine ak rfl rfl fun K hK=>?_ | refine aj rfl rfl fun K hK=>?_ | refine ay rfl rfl fun K hK=>?_ | refine av rfl rfl fun K hK=>?_ | refine ax rfl rfl fun K hK=>?_);go_simp;refine hK _ ?_;clear hK K)
   refine jH rfl rfl rfl rfl (fun K hK=>?_) (fun K hK=>?_)
   ·unfold aM;go_simp;refine (HT'.out _ _ (f1,f2) mv nv F _ _ (HI.out.V.same ((Kz wr).drew)) HAL.out UN.out.1 UN.out.2 NL.out).mono ?_;rintro e w8 ⟨rfl,mv8,nv8,F8,V8,k8,p0,p1,p2⟩;have HI8:=Hz ((HI.out.same ((Kz wr).drew)).told V8 k8 p0 p1 p2);obtain ⟨⟨⟨r1,r2⟩,sr⟩,hr⟩:∃ t,valM W.gr 5000 (f1,f2) (TR W k).2=t:=⟨_,rfl⟩;rw [hr] at HI8 HST ⊢;dsimp only at HI8 HST ⊢;have hgf8:=Nat.lt_of_lt_of_le ggl k8.size;have d8:=(k8.cellAt ggl (HI.out.V.c6 OWN.out) _).trans d0;have d9:=(k8.cellAt ggl (HI.out.V.c6 OWN.out) _).trans d1;have e8:=HI8.out.V.H.cells.2.1;rw [HRO.out,h12] at e8;refine hK _ _ (fun h=>h) (fun _ _=>⟨HI8.out.V.hf.cell 0,HI8.out.V.hw.cell 0,e8,d8,d9⟩) ?_;clear hK K V8 k8 p0 p1 p2 hr a0 e1 d0 d1 ggl al el f0 fl HI;refine aZ rfl rfl (fun K hK=>?_);unfold aM;go_simp;have kz:aa (fun _=>False) w8 (w8.alloc (.cells #[.int .i64 0, .int .i64 0] 78)).drew:=((Kz w8).alloc _).drew;have tz:ah (w8.alloc (.cells #[.int .i64 0, .int .i64 0] 78)).drew w8.heap.size [.int .i64 0, .int .i64 0] 78:=(ah.new w8 [.int .i64 0, .int .i64 0] 78).drew;have HI9:=Hz (HI8.out.same kz);have e9:=HI9.out.V.H.cells.2.1;rw [HRO.out,h12] at e9;refine hK _ _ (fun _=>⟨HI9.out.V.hf.cell 0,HI9.out.V.hw.cell 0,e9,(kz.cellAt hgf8 (fun h=>h) _).trans d8,(kz.cellAt hgf8 (fun h=>h) _).trans d9⟩) ?_;clear hK K d8 d9 hgf8 e8 e9;have z0:=tz.cell 0;have z1:=tz.cell 1;have zl:=tz.lt;have zf:=tz.free 0;have zf1:=tz.free 1;simp only [Lz,Ls] at z0 z1;clear kz tz;refine aG rfl rfl rfl (fun K hK=>?_);unfold aM;go_simp;refine hK _ _ ?_;clear hK K z0 z1 zl zf zf1 HI9;refine aE (fun _=>True) trivial (aA ?_);have kz:aa (fun _=>False) w8 (w8.alloc (.cells #[.int .i64 r1, .int .i64 r2] 78)):=((Kz w8).alloc _);have tz:ah (w8.alloc (.cells #[.int .i64 r1, .int .i64 r2] 78)) w8.heap.size [.int .i64 r1, .int .i64 r2] 78:=(ah.new w8 [.int .i64 r1, .int .i64 r2] 78);have HI2:=Hz (HI8.out.same kz);clear HI8 kz;generalize w8.alloc (.cells #[.int .i64 r1, .int .i64 r2] 78)=w9 at *;have HL2:=Hz (show Sl w9 78 2 (.slice lo k lc) k (au (TR W k).1) by have:=HI2.out.L;rw [HKL.out] at this;exact this);have z0:=tz.cell 0;have z1:=tz.cell 1;have zl:=tz.lt;simp only [Lz,Ls] at z0 z1;have c2:=HI2.out.V.hv.cell 0;have cl:=HI2.out.V.hv.lt;simp only [Lz] at c2;generalize w8.heap.size=tv at *;clear tz;go_wp2_with (at_builtin;refine bD rfl (.tmp 28) (.tmp 30) 69 rfl 78 vi (.agg #[.int .i64 0, .int .i64 0]) 2 16 Try.underlying69 Vi.out Vz0.out Vz1.out Vz2.out rfl (by decide) _ k (au (TR W k).1) rfl (HL2.out.ae ((Kz w9).alloc _) (fun _ _ h=>h)) ⟨w9.heap.size,0,none⟩ 1 1 [.int .i64 r1, .int .i64 r2] rfl rfl (bq w9 78 #[.int .i64 r1, .int .i64 r2]) (by intro u hu;simp at hu;rcases hu with rfl | rfl <;> rfl) (by unfold maxLen;omega) (by omega) ?_);intro v10 w10 hs10 hk10 ho10;have HI10:=Hz (HI2.out.app (v:=(r1,r2)) ((Kz w9).alloc _) (by rw [HKL.out];exact hs10) hk10 (by simpa using ho10));have hp3:=hk10.ai (((Kz w9).alloc _).ai HI2.out.V.hv (fun h=>h)) (fun hv=>by obtain ⟨_,c',hc⟩:=(HL2.out.ae ((Kz w9).alloc (.cells #[.int .i64 r1, .int .i64 r2] 78)) (fun _ _ h=>h)).own hv;exact (((Kz w9).alloc _).ai HI2.out.V.hv (fun h=>h)).ne hc (by decide) rfl)
    have x0:=hp3.cell 0;have xf:=hp3.free 0;have xl:=hp3.lt;simp only [Lz,Ls] at x0;obtain ⟨lo3,lc3,rfl,-,-,-⟩:=hs10.rd;clear hs10 hk10 ho10 HL2 HI2 z0 z1 zl hp3 c2 cl;go_wp2_with fail;go_roundw
    case rel=>exact ⟨k+1,_,_,_,_,by omega,by go_num,by rw [HST.out];exact HI10.out⟩
    case measure=>simp [intOf];omega
   ·unfold aM;go_simp;have kz:aa (fun _=>False) wr (wr.alloc (.cells #[.int .i64 0, .int .i64 0] 78)).drew:=((Kz wr).alloc _).drew;have tz:ah (wr.alloc (.cells #[.int .i64 0, .int .i64 0] 78)).drew wr.heap.size [.int .i64 0, .int .i64 0] 78:=(ah.new wr [.int .i64 0, .int .i64 0] 78).drew;have HIA:=Hz (HI.out.same kz);have TF:=Hz (show ¬ F wr.heap.size from fun hf=>by have:=(HI.out.V.hF _ hf).1;omega);have TL:=Hz (show ¬ ag (.slice lo k lc) wr.heap.size from fun hf=>by have:=(HI.out.L.own hf).1;omega);have T1:=Hz (show w.heap.size≤wr.heap.size from HI.out.K.size);have TZ:=Hz tz;have d8:=(kz.cellAt ggl (fun h=>h) _).trans d0;have d9:=(kz.cellAt ggl (fun h=>h) _).trans d1;have hgf8:=Nat.lt_of_lt_of_le ggl kz.size;have e8:=HIA.out.V.H.cells.2.1;rw [HRO.out,h12] at e8;refine hK _ _ (fun h=>h) (fun _ _=>⟨HIA.out.V.hf.cell 0,HIA.out.V.hw.cell 0,e8,d8,d9⟩) ?_;clear hK K kz tz HI ggl d0 d1 a0 e1 al el f0 fl e8;generalize (wr.alloc (.cells #[.int .i64 0, .int .i64 0] 78)).drew=wa at *;generalize wr.heap.size=zb at *;refine aZ rfl rfl (fun K hK=>?_);unfold aM;go_simp;refine (HT'.out _ _ (f1,f2) mv nv F _ _ HIA.out.V HAL.out UN.out.1 UN.out.2 NL.out).mono ?_;rintro e w8 ⟨rfl,mv8,nv8,F8,V8,k8,p0,p1,p2⟩;have HI8:=Hz (HIA.out.told V8 k8 p0 p1 p2);obtain ⟨⟨⟨r1,r2⟩,sr⟩,hr⟩:∃ t,valM W.gr 5000 (f1,f2) (TR W k).2=t:=⟨_,rfl⟩;rw [hr] at HI8 HST ⊢;dsimp only at HI8 HST ⊢;have TF8:=Hz (show ¬ F8 zb from fun hf=>by rcases p2 _ hf with h | h;exact TF.out h;exact absurd h (Nat.not_le.2 TZ.out.lt));have tz8:=k8.ai TZ.out (HIA.out.V.cF TZ.out (by decide) (by decide) (by decide) (by decide));have e8:=HI8.out.V.H.cells.2.1;rw [HRO.out,h12] at e8;refine hK _ _ (fun _=>⟨HI8.out.V.hf.cell 0,HI8.out.V.hw.cell 0,e8,(k8.cellAt hgf8 (HIA.out.V.c6 OWN.out) _).trans d8,(k8.cellAt hgf8 (HIA.out.V.c6 OWN.out) _).trans d9⟩) ?_;clear hK K V8 k8 p0 p1 p2 hr d8 d9 hgf8 TZ TF HIA e8;refine aE (fun _=>True) trivial ?_;have TZ:=Hz tz8;have z0:=tz8.cell 0;have z1:=tz8.cell 1;have zl:=tz8.lt;have zf:=tz8.free 0;have zf1:=tz8.free 1;simp only [Lz,Ls] at z0 z1;clear tz8;refine aG rfl rfl rfl (fun K hK=>?_);unfold aM;go_simp;refine hK _ _ ?_;clear hK K z0 z1 zl zf zf1;refine aE (fun _=>True) trivial (aA ?_);have kz:aa (·=zb) w8 ((w8.setCell ⟨zb,0,none⟩ (.int .i64 r1)).setCell ⟨zb,1,none⟩ (.int .i64 r2)):=((aa.refl (·=zb) w8).setCell (.inl rfl) _).setCell (.inl rfl) _;have HI2:=Hz (HI8.out.other kz ⟨_,TZ.out⟩ T1.out TF8.out TL.out);have tz:ah ((w8.setCell ⟨zb,0,none⟩ (.int .i64 r1)).setCell ⟨zb,1,none⟩ (.int .i64 r2)) zb [.int .i64 r1, .int .i64 r2] 78:=(TZ.out.aF 0 (.int .i64 r1)).aF 1 (.int .i64 r2);clear HI8 kz TZ TF8 T1 TL;generalize (w8.setCell ⟨zb,0,none⟩ (.int .i64 r1)).setCell ⟨zb,1,none⟩ (.int .i64 r2)=w9 at *;have HL2:=Hz (show Sl w9 78 2 (.slice lo k lc) k (au (TR W k).1) by have:=HI2.out.L;rw [HKL.out] at this;exact this);have z0:=tz.cell 0;have z1:=tz.cell 1;have zl:=tz.lt;simp only [Lz,Ls] at z0 z1;have c2:=HI2.out.V.hv.cell 0;have cl:=HI2.out.V.hv.lt;simp only [Lz] at c2;generalize zb=tv at *
    clear tz;go_wp2_with (at_builtin;refine bD rfl (.tmp 28) (.tmp 30) 69 rfl 78 vi (.agg #[.int .i64 0, .int .i64 0]) 2 16 Try.underlying69 Vi.out Vz0.out Vz1.out Vz2.out rfl (by decide) _ k (au (TR W k).1) rfl (HL2.out.ae ((Kz w9).alloc _) (fun _ _ h=>h)) ⟨w9.heap.size,0,none⟩ 1 1 [.int .i64 r1, .int .i64 r2] rfl rfl (bq w9 78 #[.int .i64 r1, .int .i64 r2]) (by intro u hu;simp at hu;rcases hu with rfl | rfl <;> rfl) (by unfold maxLen;omega) (by omega) ?_);intro v10 w10 hs10 hk10 ho10;have HI10:=Hz (HI2.out.app (v:=(r1,r2)) ((Kz w9).alloc _) (by rw [HKL.out];exact hs10) hk10 (by simpa using ho10));have hp3:=hk10.ai (((Kz w9).alloc _).ai HI2.out.V.hv (fun h=>h)) (fun hv=>by obtain ⟨_,c',hc⟩:=(HL2.out.ae ((Kz w9).alloc (.cells #[.int .i64 r1, .int .i64 r2] 78)) (fun _ _ h=>h)).own hv;exact (((Kz w9).alloc _).ai HI2.out.V.hv (fun h=>h)).ne hc (by decide) rfl);have x0:=hp3.cell 0;have xf:=hp3.free 0;have xl:=hp3.lt;simp only [Lz,Ls] at x0;obtain ⟨lo3,lc3,rfl,-,-,-⟩:=hs10.rd;clear hs10 hk10 ho10 HL2 HI2 z0 z1 zl hp3 c2 cl;go_wp2_with fail;go_roundw
    case rel=>exact ⟨k+1,_,_,_,_,by omega,by go_num,by rw [HST.out];exact HI10.out⟩
    case measure=>simp [intOf];omega
  ·obtain rfl:k=12:=by omega
   obtain ⟨lo,lc,rfl,hrr,-,-⟩:=hI.L.rd;obtain ⟨cs,hns,hnr⟩:=hI.V.N;obtain ⟨no,nc,rfl,-,-,-⟩:=hns.rd;have c2:=hI.V.hv.cell 0;have c3:=hI.V.hv.cell 1;have cl:=hI.V.hv.lt;have b0:=hI.B.cell 0;have b1:=hI.B.cell 1;have bl:=hI.B.lt;have f0:=hI.B.free 0;have f1:=hI.B.free 1;simp only [Lz,Ls] at c2 c3 b0 b1;have a0:=hI.V.hw.cell 0;have al:=hI.V.hw.lt;have e1:=hI.V.H.cells.2.1;have el:=hI.V.H.hp.lt;rw [HRO.out,h12] at e1;simp only [Lz] at a0;have HVE:=Hz (show W.view=((TR W 12).1,(TR W 12).2.2) by
    unfold Wd.view j9 TR deep
    rw [List.take_of_length_le (by rw [HH.out.ok.hr];exact Nat.le_refl _)])
   clear hI hrr hns hnr hlt hk hkl;go_wp2_with (refine aQ rfl 72 (.tmp 3) rfl (by kernel_rfl) vb 0 rfl _ _ c2 c3 ?_);have hb3:=(HI.out.B.aF 0 (.slice lo (TR W 12).1.length lc)).aF 1 (.slice no (TR W 12).2.2.length nc);have x0:=hb3.cell 0;have x1:=hb3.cell 1;simp only [List.set_cons_zero,List.set_cons_succ,Lz,Ls] at x0 x1;refine bodyPost_ret (v:=.agg #[.slice lo (TR W 12).1.length lc, .slice no (TR W 12).2.2.length nc]) (by simp [results,Try.results64,go_sem,x0,x1]) rfl ?_;refine ⟨_,rfl,?_,(HI.out.K.setCell (p:=⟨tb,0,none⟩) (.inr HI.out.ot) _).setCell (p:=⟨tb,1,none⟩) (.inr HI.out.ot) _⟩;rw [HVE.out];have ke:=((aa.refl (·=tb) wr).setCell (p:=⟨tb,0,none⟩) (.inl rfl) (.slice lo (TR W 12).1.length lc)).setCell (p:=⟨tb,1,none⟩) (.inl rfl) (.slice no (TR W 12).2.2.length nc);refine ⟨lo,lc,no,nc,F,rfl,HI.out.L.ae ke (fun j hj e=>?_),HI.out.V.N.ae ke (fun j hj _ e=>?_) (fun j hj e=>?_),fun j hj=>?_⟩
   ·subst e;obtain ⟨_,c,hc⟩:=HI.out.L.own hj;exact hc.ne HI.out.B (by decide) rfl
   ·subst e;obtain ⟨_,c,hc⟩:=HI.out.V.hF _ hj;exact hc.ne HI.out.B (by decide) rfl
   ·subst e;obtain ⟨_,c,hc⟩:=HI.out.V.N.own hj;exact hc.ne HI.out.B (by decide) rfl
   ·have hks:=ke.size;rcases hj with hj | hj | hj
    ·exact ⟨HI.out.o2 j hj,by have:=(HI.out.V.hF j hj).1;omega⟩
    ·exact ⟨(HI.out.o3 j hj).1,by have:=(HI.out.L.own hj).1;omega⟩
    ·exact ⟨HI.out.o1 j hj,by have:=(HI.out.V.N.own hj).1;omega⟩
end
end
section
open Go.RowKit
noncomputable def q6:Wd:=((Wd.new 16 8).do ⟨4,0,0,0,0,0⟩).2
noncomputable def q7:Wd:=(q6.do ⟨6,1,0,0,0,0⟩).2
noncomputable def nz:Wd:=(q7.do ⟨2,0,0,0,0,0⟩).2
theorem tG:((Wd.new 16 8).do ⟨4,0,0,0,0,0⟩).1=0:=by decide +kernel
theorem tH:(q6.do ⟨6,1,0,0,0,0⟩).1=0:=by decide +kernel
theorem tI:(q7.do ⟨2,0,0,0,0,0⟩).1=0:=by decide +kernel
theorem tB:q6.T.length≤90000:=by decide +kernel
theorem tC:q7.T.length≤90000:=by decide +kernel
theorem tD:nz.T.length≤90000:=by decide +kernel
theorem tJ:nz.aI=6:=by decide +kernel
theorem tK:nz.aY=0:=by decide +kernel
theorem tL:nz.view.2.length=2:=by decide +kernel
theorem gE.td {w:World} {lo:Nat} {v:Value} {W:Wd} (H:gE w lo v W.view) (h:W.ok):lB w v W.view:=by
 obtain ⟨h1,h2,h3⟩:=(Wd.seen h).lens h;exact H.r (by omega) (by omega) (fun n hn=>Nat.le_trans (h3 n hn) (by decide))
section
variable {w w':World}
structure eo (w0 w:World) (p:Nat) (h:bZ) (W:Wd):Prop where
 B:aJ w h W
 e:h.p=p
 K:aa (fun _=>False) w0 w
 own:∀ k,h.Own k→w0.heap.size≤k
theorem eo.to {w0:World} {p:Nat} {h:bZ} {W W':Wd} (M:eo w0 w p h W) (t:aL w h w' W'):∃ h',eo w0 w' p h' W':=by
 obtain ⟨h',H',e',k',o'⟩:=t;refine ⟨h',H',e'.trans M.e,M.K.then k' (fun b hb=>.inr (M.own b hb)),fun b hb=>?_⟩;rcases o' b hb with h1 | h1
 ·exact M.own b h1
 ·have:=M.K.size;omega
theorem eo.same {w0:World} {p:Nat} {h:bZ} {W:Wd} (M:eo w0 w p h W) (k:aa (fun _=>False) w w'):eo w0 w' p h W:=⟨M.B.same k,M.e,M.K.trans k,M.own⟩
theorem eo.pl {w0:World} {p:Nat} {h:bZ} {W:Wd} (M:eo w0 w p h W):p<w.heap.size:=by
 have:=M.B.hp.lt;rw [M.e] at this;exact this
theorem eo.kO {w0:World} {p:Nat} {h:bZ} {W:Wd} (M:eo w0 w p h W) (hT:W.T.length≤90000) (x:St) :
  Calls Try.prog 59 #[.pointer (some ⟨p,0,none⟩), .agg #[.int .i64 x.k, .int .i64 x.r, .int .i64 x.a, .int .i64 x.b, .int .i64 x.i, .int .i64 x.n]] w (bW w h (W.do x)):=by
 have:=sF x.k x.r x.a x.b x.i x.n M.B hT;rw [M.e] at this;exact this
theorem eo.pL {w0:World} {p:Nat} {h:bZ} {W:Wd} (M:eo w0 w p h W) :
  Calls Try.prog 61 #[.pointer (some ⟨p,0,none⟩)] w fun e w'=>e=.returned (.tuple #[.int .i64 W.aI, .int .i64 W.aY])∧aa (fun _=>False) w w':=by
 have:=rM M.B;rw [M.e] at this;exact this
theorem eo.pM {w0:World} {p:Nat} {h:bZ} {W:Wd} (M:eo w0 w p h W) (hT:W.T.length≤90000) :
  Calls Try.prog 63 #[.pointer (some ⟨p,0,none⟩)] w fun e w'=>kF w W.view e w':=by
 have:=rY w M.B (by omega);rw [M.e] at this;exact this
structure gA (w0 w:World) (p q:Nat) (h:bZ) (b:RW) (W V:Wd):Prop where
 A:eo w0 w p h W
 B:aK w b V
 e:b.p=q
 own:∀ k,b.Own k→w0.heap.size≤k
 ap:∀ k,¬ (h.Own k∧b.Own k)
section
variable {w0:World} {p q:Nat} {h:bZ} {b:RW} {W V W' V':Wd}
theorem gA.same (M:gA w0 w p q h b W V) (k:aa (fun _=>False) w w'):gA w0 w' p q h b W V:=⟨M.A.same k,M.B.same k,M.e,M.own,M.ap⟩
theorem gA.gJ (M:gA w0 w p q h b W V) (t:aL w h w' W'):∃ h',gA w0 w' p q h' b W' V:=by
 obtain ⟨h',H',e',k',o'⟩:=t;refine ⟨h',⟨H',e'.trans M.A.e,M.A.K.then k' (fun b hb=>.inr (M.A.own b hb)),fun b hb=>?_⟩,M.B.ae k' (fun j hj e=>M.ap j ⟨e,hj⟩),M.e,M.own,fun j hj=>?_⟩
 ·rcases o' b hb with h1 | h1
  ·exact M.A.own b h1
  ·have:=M.A.K.size;omega
 ·rcases o' j hj.1 with h1 | h1
  ·exact M.ap j ⟨h1,hj.2⟩
  ·have:=(M.B.aX hj.2).1;omega
theorem gA.world (M:gA w0 w p q h b W V) (t:aC w b w' V'):∃ b',gA w0 w' p q h b' W V':=by
 obtain ⟨b',B',e,k,o⟩:=t;refine ⟨b',⟨M.A.B.ae k (fun j hj e=>M.ap j ⟨hj,e⟩),M.A.e,M.A.K.then k (fun j hj=>.inr (M.own j hj)),M.A.own⟩,B',e.trans M.e,fun j hj=>?_,fun j hj=>?_⟩
 ·rcases o j hj with h1 | h1
  ·exact M.own j h1
  ·have:=M.A.K.size;omega
 ·rcases o j hj.2 with h1 | h1
  ·exact M.ap j ⟨hj.1,h1⟩
  ·have:=M.A.B.cR hj.1;omega
theorem gA.ql (M:gA w0 w p q h b W V):q<w.heap.size:=by have:=M.B.hp.lt;rw [M.e] at this;exact this
theorem gA.kO (M:gA w0 w p q h b W V) (hT:V.T.length≤90000) (x:St) (hn:eQ x.n) :
  Calls Try.prog 60 #[.pointer (some ⟨q,0,none⟩), .agg #[.int .i64 x.k, .int .i64 x.r, .int .i64 x.a, .int .i64 x.b, .int .i64 x.i, .int .i64 x.n]] w (mI w b V x):=by
 have:=s7 x M.B hT hn;rw [M.e] at this;exact this
end
theorem mJ (w:World):Calls Try.prog 56 #[] w fun e w'=>e=.returned (.bool true)∧aa (fun _=>False) w w':=by
 have hfit:Ar.fits 16 8=true:=by decide
 go_enter Try.func56,Try.ntmps56;go_wp2_with fail;refine (mD 16 8 w hfit).mono ?_;rintro e w1 ⟨h,rfl,B1,k1,o1⟩;have ka:=(Kz w1).alloc (.cells #[.int .i64 0, .int .i64 0] 26);have M1:=Hz (show eo w (w1.alloc (.cells #[.int .i64 0, .int .i64 0] 26)) h.p h _ from ⟨B1.same ka,rfl,k1.trans ka,o1⟩);have d0:(w1.alloc (.cells #[.int .i64 0, .int .i64 0] 26)).cell? ⟨w1.heap.size,0,none⟩=some (.int .i64 0):=(ah.new w1 [.int .i64 0, .int .i64 0] 26).cell 0;have dl:w1.heap.size<(w1.alloc (.cells #[.int .i64 0, .int .i64 0] 26)).heap.size:=by simp
 clear B1 k1 o1 hfit ka;go_upto_region 2 with (fail)
 generalize w1.alloc (.cells #[.int .i64 0, .int .i64 0] 26)=w2 at *;generalize w1.heap.size=fb at *;generalize h.p=p at *;have c1:=M1.out.kO (by simp [Wd.new]) ⟨4,0,0,0,0,0⟩;unfold bW at c1;rw [tG] at c1;have C1:=Hz c1;clear c1;go_wp2_with fail;refine C1.out.mono ?_;rintro e w3 ⟨rfl,ht⟩;obtain ⟨h2,hM2⟩:=M1.out.to ht;have M2:=Hz (show eo w w3 p h2 q6 from hM2);clear ht hM2 M1 C1 d0 dl;have c2:=M2.out.kO tB ⟨6,1,0,0,0,0⟩;unfold bW at c2;rw [tH] at c2;have C2:=Hz c2;clear c2;go_wp2_with fail;refine C2.out.mono ?_;rintro e w4 ⟨rfl,ht⟩;obtain ⟨h3,hM3⟩:=M2.out.to ht;have M3:=Hz (show eo w w4 p h3 q7 from hM3);clear ht hM3 M2 C2;have c3:=M3.out.kO tC ⟨2,0,0,0,0,0⟩;unfold bW at c3;rw [tI] at c3;have C3:=Hz c3;clear c3;go_wp2_with fail;refine C3.out.mono ?_;rintro e w5 ⟨rfl,ht⟩;obtain ⟨h4,hM4⟩:=M3.out.to ht;have M4:=Hz (show eo w w5 p h4 nz from hM4);clear ht hM4 M3 C3;have c4:=M4.out.pL;rw [tJ,tK] at c4;have C4:=Hz c4;clear c4;go_wp2_with fail;refine C4.out.mono ?_;rintro e w6 ⟨rfl,hk⟩;have M5:=Hz (M4.out.same hk);clear hk M4 C4;go_wp2_with fail;refine (M5.out.pM tD).mono ?_;rintro e w7 ⟨v,rfl,⟨ro,rc,no,nc,F,rfl,-,-,-⟩,hk⟩;have K7:=Hz (M5.out.K.trans hk);rw [tL];generalize nz.view.1.length=vl at *;have d1:(w7.alloc (.cells #[.slice ro vl rc, .slice no 2 nc] 72)).cell? ⟨w7.heap.size,0+1,none⟩=some (.slice no 2 nc):=(ah.new w7 [.slice ro vl rc, .slice no 2 nc] 72).cell 1;have dl:w7.heap.size<(w7.alloc (.cells #[.slice ro vl rc, .slice no 2 nc] 72)).heap.size:=by simp
 have K8:=Hz (K7.out.alloc (.cells #[.slice ro vl rc, .slice no 2 nc] 72));clear hk M5 K7;go_upto_region 6 with (fail)
 generalize w7.alloc (.cells #[.slice ro vl rc, .slice no 2 nc] 72)=w8 at *;generalize w7.heap.size=vb at *;go_wp2_with fail;go_ret;exact ⟨rfl,K8.out⟩
end
end
section
open Go.RowKit
section
variable {p g:Nat} {A:Ar}
end
def eu (n o:Int):Int × Int:=if Ar.fits n o=true then (0,0) else (1,-1)
theorem q8 (a b:Int) (w:World) :
  Calls Try.prog 81 #[.int .i64 a, .int .i64 b] w fun e w'=>e=.returned (.agg #[.int .i64 a, .int .i64 b])∧aa (fun _=>False) w w':=by
 go_enter Try.func81,Try.ntmps81;go_wp2_with fail;exact bodyPost_ret (v:=.agg #[.int .i64 a, .int .i64 b]) (by simp [results,Try.results81,go_sem]) rfl ⟨rfl,(aa.refl _ _).alloc _⟩
theorem jB (n o:Int) (w:World) :
  Calls Try.prog 20 #[.int .i64 n, .int .i64 o] w fun e w'=>e=.returned (.agg #[.int .i64 (eu n o).1, .int .i64 (eu n o).2])∧aa (fun _=>False) w w':=by
 cases hf:Ar.fits n o
 ·have HE:=Hz (show eu n o=(1,-1) by unfold eu;rw [hf];rfl);have hc:n<16∨256<n∨o<0∨1024<o:=by
   by_cases h1:16≤n
   ·by_cases h2:n≤256
    ·by_cases h3:0≤o
     ·by_cases h4:o≤1024
      ·simp [Ar.fits,h1,h2,h3,h4] at hf
      ·omega
     ·omega
    ·omega
   ·omega
  clear hf;by_cases c1:n<16
  ·have d1:decide (n<16)=true:=by simpa using c1
   clear hc;go_enter Try.func20,Try.ntmps20;go_wp2_with fail;refine (q8 1 (-1) _).mono ?_;rintro e w1 ⟨rfl,hk⟩;have hka:=(Kz w).alloc (.cells #[.int .i64 0, .int .i64 0] 26);have hb:=hk.ai (show ah (w.alloc (.cells #[.int .i64 0, .int .i64 0] 26)) w.heap.size [.int .i64 0, .int .i64 0] 26 from ah.newAt _ rfl rfl) (fun h=>h);have HKA:=Hz (hka.trans hk);have HB:=Hz hb;have l0:=hb.cell 0;have l1:=hb.cell 1;have ll:=hb.lt;have f0:=hb.free 0;have f1:=hb.free 1;simp only [Lz,Ls] at l0 l1;clear hk hka hb;go_wp2_with fail;have hb3:=(HB.out.aF 0 (.int .i64 1)).aF 1 (.int .i64 (-1));have x0:=hb3.cell 0;have x1:=hb3.cell 1;simp only [List.set_cons_zero,List.set_cons_succ,Lz,Ls] at x0 x1;refine bodyPost_ret (v:=.agg #[.int .i64 1, .int .i64 (-1)]) (by simp [results,Try.results20,go_sem,x0,x1]) rfl ⟨by rw [HE.out],?_⟩;exact (HKA.out.setCell (p:=⟨w.heap.size,0,none⟩) (.inr (Nat.le_refl _)) _).setCell (p:=⟨w.heap.size,1,none⟩) (.inr (Nat.le_refl _)) _
  have d1:decide (n<16)=false:=by simpa using c1
  by_cases c2:256<n
  ·have d2:decide (256<n)=true:=by simpa using c2
   clear hc;go_enter Try.func20,Try.ntmps20;go_wp2_with fail;refine (q8 1 (-1) _).mono ?_;rintro e w1 ⟨rfl,hk⟩;have hka:=(Kz w).alloc (.cells #[.int .i64 0, .int .i64 0] 26);have hb:=hk.ai (show ah (w.alloc (.cells #[.int .i64 0, .int .i64 0] 26)) w.heap.size [.int .i64 0, .int .i64 0] 26 from ah.newAt _ rfl rfl) (fun h=>h);have HKA:=Hz (hka.trans hk);have HB:=Hz hb;have l0:=hb.cell 0;have l1:=hb.cell 1;have ll:=hb.lt;have f0:=hb.free 0;have f1:=hb.free 1;simp only [Lz,Ls] at l0 l1;clear hk hka hb;go_wp2_with fail;have hb3:=(HB.out.aF 0 (.int .i64 1)).aF 1 (.int .i64 (-1));have x0:=hb3.cell 0;have x1:=hb3.cell 1;simp only [List.set_cons_zero,List.set_cons_succ,Lz,Ls] at x0 x1;refine bodyPost_ret (v:=.agg #[.int .i64 1, .int .i64 (-1)]) (by simp [results,Try.results20,go_sem,x0,x1]) rfl ⟨by rw [HE.out],?_⟩;exact (HKA.out.setCell (p:=⟨w.heap.size,0,none⟩) (.inr (Nat.le_refl _)) _).setCell (p:=⟨w.heap.size,1,none⟩) (.inr (Nat.le_refl _)) _
  have d2:decide (256<n)=false:=by simpa using c2
  by_cases c3:o<0
  ·have d3:decide (o<0)=true:=by simpa using c3
   clear hc;go_enter Try.func20,Try.ntmps20;go_wp2_with fail;refine (q8 1 (-1) _).mono ?_;rintro e w1 ⟨rfl,hk⟩;have hka:=(Kz w).alloc (.cells #[.int .i64 0, .int .i64 0] 26);have hb:=hk.ai (show ah (w.alloc (.cells #[.int .i64 0, .int .i64 0] 26)) w.heap.size [.int .i64 0, .int .i64 0] 26 from ah.newAt _ rfl rfl) (fun h=>h);have HKA:=Hz (hka.trans hk);have HB:=Hz hb;have l0:=hb.cell 0;have l1:=hb.cell 1;have ll:=hb.lt;have f0:=hb.free 0;have f1:=hb.free 1;simp only [Lz,Ls] at l0 l1;clear hk hka hb;go_wp2_with fail;have hb3:=(HB.out.aF 0 (.int .i64 1)).aF 1 (.int .i64 (-1));have x0:=hb3.cell 0;have x1:=hb3.cell 1;simp only [List.set_cons_zero,List.set_cons_succ,Lz,Ls] at x0 x1;refine bodyPost_ret (v:=.agg #[.int .i64 1, .int .i64 (-1)]) (by simp [results,Try.results20,go_sem,x0,x1]) rfl ⟨by rw [HE.out],?_⟩;exact (HKA.out.setCell (p:=⟨w.heap.size,0,none⟩) (.inr (Nat.le_refl _)) _).setCell (p:=⟨w.heap.size,1,none⟩) (.inr (Nat.le_refl _)) _
  have d3:decide (o<0)=false:=by simpa using c3
  have d4:decide (1024<o)=true:=by simp;omega
  clear hc;go_enter Try.func20,Try.ntmps20;go_wp2_with fail;refine (q8 1 (-1) _).mono ?_;rintro e w1 ⟨rfl,hk⟩;have hka:=(Kz w).alloc (.cells #[.int .i64 0, .int .i64 0] 26);have hb:=hk.ai (show ah (w.alloc (.cells #[.int .i64 0, .int .i64 0] 26)) w.heap.size [.int .i64 0, .int .i64 0] 26 from ah.newAt _ rfl rfl) (fun h=>h);have HKA:=Hz (hka.trans hk);have HB:=Hz hb;have l0:=hb.cell 0;have l1:=hb.cell 1;have ll:=hb.lt;have f0:=hb.free 0;have f1:=hb.free 1;simp only [Lz,Ls] at l0 l1;clear hk hka hb;go_wp2_with fail;have hb3:=(HB.out.aF 0 (.int .i64 1)).aF 1 (.int .i64 (-1));have x0:=hb3.cell 0;have x1:=hb3.cell 1;simp only [List.set_cons_zero,List.set_cons_succ,Lz,Ls] at x0 x1;refine bodyPost_ret (v:=.agg #[.int .i64 1, .int .i64 (-1)]) (by simp [results,Try.results20,go_sem,x0,x1]) rfl ⟨by rw [HE.out],?_⟩;exact (HKA.out.setCell (p:=⟨w.heap.size,0,none⟩) (.inr (Nat.le_refl _)) _).setCell (p:=⟨w.heap.size,1,none⟩) (.inr (Nat.le_refl _)) _
 ·have HE:=Hz (show eu n o=(0,0) by unfold eu;rw [hf];rfl);simp [Ar.fits] at hf;have d1:decide (n<16)=false:=by simp;omega
  have d2:decide (256<n)=false:=by simp;omega
  have d3:decide (o<0)=false:=by simp;omega
  have d4:decide (1024<o)=false:=by simp;omega
  clear hf;go_enter Try.func20,Try.ntmps20;go_wp2_with fail;refine bodyPost_ret (v:=.agg #[.int .i64 0, .int .i64 0]) (by simp [results,Try.results20,go_sem]) rfl ⟨?_,(aa.refl _ _).alloc _⟩;rw [HE.out]
end
section
open Go.RowKit
theorem Rd.nth {w:World} {ao:Option Addr} {l:List Int} (h:Rd w ao (l.map (Value.int .i64))) (i:Nat) (hi:i<l.length) :
  ∃ g o,ao=some ⟨g,o,none⟩∧g<w.heap.size∧w.cell? ⟨g,o+i,none⟩=some (.int .i64 (l.getD i 0)):=by
 obtain ⟨g,o,rfl,hg,hc⟩:=h (by intro e;simp at e;subst e;simp at hi);refine ⟨g,o,rfl,hg,?_⟩;rw [hc i (by simpa using hi)];simp [List.getD,hi]
def te:Ar:=((Ar.new 16 8).make 1 2).2
def tg:Ar:=(te.make 2 12).2
def tj:Ar:=(tg.make 5 0).2
def tm:Ar:=(tj.copy 0).2
theorem b1:((Ar.new 16 8).make 1 2).1=0:=by decide +kernel
theorem b2:(te.make 2 12).1=3:=by decide +kernel
theorem b3:(tg.make 5 0).1=-1:=by decide +kernel
theorem b4:(tj.copy 0).1=16:=by decide +kernel
theorem b5:tm.aw 16=(1,2,0):=by decide +kernel
theorem b6:tm.lV=([0,3],[16]):=by decide +kernel
end
section
open Go.RowKit
def qO (w wr:World) (p q k:Nat):Prop:=∃ h b W,gA w wr p q h b W W∧W.T.length≤k
section
variable {w w':World}
theorem lz (n o:Int) (lo:Option Addr) (lc m:Nat) (xs:List Int) (w:World) (h0:Rd w lo (xs.map (Value.int .i64))) (hx:xs.length=m*6) (hb:∀ x ∈ xs,eQ x) :
  Calls Try.prog 7 #[.int .i64 n, .int .i64 o, .slice lo m lc] w fun e w'=>e=.returned (.bool true)∧aa (fun _=>False) w w':=by
 have H0:=Hz h0;have HX:=Hz hx;have HBD:=Hz hb;clear h0 hx hb;go_enter Try.func7,Try.ntmps7;go_wp2_with fail;refine (mJ _).mono ?_;rintro e w1 ⟨rfl,hk1⟩;have HK1:=Hz hk1;clear hk1;by_cases hm:250<m
 ·go_wp2_with fail;go_ret;exact ⟨rfl,HK1.out⟩
 have hm250:m≤250:=by omega
 cases hfit:Ar.fits n o
 ·go_wp2_with fail;refine (rL n o _ hfit).mono ?_;rintro e w2 ⟨rfl,hk2⟩;have HK2:=Hz (HK1.out.trans hk2);clear hk2;have HF:=Hz (show eu n o=(1,-1) by unfold eu;rw [hfit];rfl);go_wp2_with fail;refine (jB n o _).mono ?_;rintro e w3 ⟨rfl,hk3⟩;rw [HF.out];dsimp only;have HK3:=Hz ((HK2.out.alloc (.cells #[.int .i64 1, .int .i64 (-1)] 26)).trans hk3);have hb1:=hk3.ai (show ah (w2.alloc (.cells #[.int .i64 1, .int .i64 (-1)] 26)) w2.heap.size [.int .i64 1, .int .i64 (-1)] 26 from ah.newAt _ rfl rfl) (fun h=>h);have b0:=hb1.cell 0;have b1:=hb1.cell 1;have bl:=hb1.lt;simp only [Lz,Ls] at b0 b1;clear hk3 hb1;go_wp2_with fail;go_ret;exact ⟨rfl,HK3.out.alloc _⟩
 have HF:=Hz (show eu n o=(0,0) by unfold eu;rw [hfit];rfl);have hno:16≤n∧n≤256∧0≤o∧o≤1024:=by simp [Ar.fits] at hfit;omega
 have HNO:=Hz hno;clear hno;go_wp2_with fail;refine (mD n o _ hfit).mono ?_;rintro e w2 ⟨h,rfl,A2,k2,o2⟩;have M2:=Hz (show eo w w2 h.p h _ from ⟨A2,rfl,HK1.out.trans k2,fun k hk=>Nat.le_trans HK1.out.size (o2 k hk)⟩);clear A2 k2 o2 HK1 hfit;generalize h.p=p at *;go_wp2_with fail;refine (jB n o _).mono ?_;rintro e w3 ⟨rfl,hk3⟩;rw [HF.out];dsimp only;have hka:=(Kz w2).alloc (.cells #[.int .i64 0, .int .i64 0] 26);have M3:=Hz (M2.out.same (hka.trans hk3));have hb1:=hk3.ai (show ah (w2.alloc (.cells #[.int .i64 0, .int .i64 0] 26)) w2.heap.size [.int .i64 0, .int .i64 0] 26 from ah.newAt _ rfl rfl) (fun h=>h);have b0:=hb1.cell 0;have b1:=hb1.cell 1;have bl:=hb1.lt;simp only [Lz,Ls] at b0 b1;clear hk3 hka hb1 M2;go_wp2_with fail;refine (mR n o HNO.out.1 HNO.out.2.1 HNO.out.2.2.1 HNO.out.2.2.2 _).mono ?_;rintro e w4 ⟨b,rfl,B4,k4,o4⟩;have hka:=(Kz w3).alloc (.cells #[.int .i64 0, .int .i64 0] 26);have HI:=Hz (show qO w w4 p b.p 0 from ⟨h,b,_,M3.out.same (hka.trans k4) |> fun A=>⟨A,B4,rfl,fun k hk=>by have:=o4 k hk;have:=M3.out.K.size;simp at *;omega,fun k hk=>by have:=o4 k hk.2;have:=M3.out.B.cR hk.1;simp at *;omega⟩,by simp [Wd.new]⟩);clear hka k4 o4 B4 M3 HF HNO b0 b1 bl;generalize b.p=q at *;go_wp2_with fail;refine l4 (fun i=>Nat.blt 43 i || Nat.blt 10 i && Nat.blt i 16) (fun s wr=>∃ k:Nat,k≤m∧s 11=.int .i64 k∧qO w wr p q k) (fun s _=>m-(intOf (s 11)).toNat) ?_ ?_
 ·exact ⟨0,Nat.zero_le _,rfl,HI.out⟩
 ·intro u0 wr hrel K hK;clear HI;obtain ⟨k,hk,e11,hI⟩:=hrel;have e11:u0 11=.int .i64 k:=e11;have HI:=Hz hI;clear hI;simp only [da,overL,List.toList_toArray,Nat.blt,Nat.beq,Nat.ble,Nat.reduceAdd,Bool.or_false,Bool.false_or,Bool.or_true,Bool.true_or,Bool.and_true,Bool.true_and,Bool.and_false,Bool.false_and,cond_true,cond_false];rw [e11];have E11:=Hz e11;clear e11;by_cases hlt:k<m
  ·obtain ⟨h1,b1,W1,M1,hT1⟩:=HI.out;obtain ⟨gs,os,rfl,hgl,d0⟩:=H0.out.nth (k*6) (by rw [HX.out];omega);obtain ⟨_,_,e',-,d1⟩:=H0.out.nth (k*6+1) (by rw [HX.out];omega);cases e';obtain ⟨_,_,e',-,d2⟩:=H0.out.nth (k*6+2) (by rw [HX.out];omega);cases e';obtain ⟨_,_,e',-,d3⟩:=H0.out.nth (k*6+3) (by rw [HX.out];omega);cases e';obtain ⟨_,_,e',-,d4⟩:=H0.out.nth (k*6+4) (by rw [HX.out];omega);cases e';obtain ⟨_,_,e',-,d5⟩:=H0.out.nth (k*6+5) (by rw [HX.out];omega);cases e';rw [←Nat.add_assoc] at d1 d2 d3 d4 d5;have HZ:=Hz (show eQ (xs.getD (k*6+5) 0) from HBD.out _ (by rw [Ld,Le (by rw [HX.out];omega)];exact List.getElem_mem _));generalize xs.getD (k*6) 0=d at *;generalize xs.getD (k*6+1) 0=r at *;generalize xs.getD (k*6+2) 0=a at *;generalize xs.getD (k*6+3) 0=b at *;generalize xs.getD (k*6+4) 0=i at *;generalize xs.getD (k*6+5) 0=z at *;have hcl:∀ w',aa (fun _=>False) w w'→w'.cell? ⟨gs,os+k*6,none⟩=some (.int .i64 d)∧w'.cell? ⟨gs,os+k*6+1,none⟩=some (.int .i64 r)∧w'.cell? ⟨gs,os+k*6+2,none⟩=some (.int .i64 a)∧w'.cell? ⟨gs,os+k*6+3,none⟩=some (.int .i64 b)∧w'.cell? ⟨gs,os+k*6+4,none⟩=some (.int .i64 i)∧w'.cell? ⟨gs,os+k*6+5,none⟩=some (.int .i64 z):=fun w' kk=>by
    have hcc:∀ q,w'.cell? ⟨gs,q,none⟩=w.cell? ⟨gs,q,none⟩:=fun q=>World.cell?_of_block (w:=w) (a:=⟨gs,q,none⟩) (kk.block gs hgl (fun h=>h));exact ⟨(hcc _).trans d0,(hcc _).trans d1,(hcc _).trans d2,(hcc _).trans d3,(hcc _).trans d4,(hcc _).trans d5⟩
   have HCL:=Hz hcl;clear d0 d1 d2 d3 d4 d5 hcl;obtain ⟨d0,d1,d2,d3,d4,d5⟩:=HCL.out _ (M1.A.K);have hgl:=Nat.lt_of_lt_of_le hgl (aa.size (M1.A.K));have M:=Hz M1;have HT:=Hz hT1;clear HI M1 hT1;have hdo:=fun w' (M':eo w w' p h1 W1)=>M'.kO (by have:=HT.out;omega) ⟨d,r,a,b,i,z⟩;have hwd:=fun w' h' W' (M':gA w w' p q h' b1 W' W1)=>M'.kO (by have:=HT.out;omega) ⟨d,r,a,b,i,z⟩ HZ.out;have hln:=Wd.sJ W1 ⟨d,r,a,b,i,z⟩;unfold bW at hdo;unfold mI at hwd;obtain ⟨⟨c,V⟩,hV⟩:∃ t,W1.do ⟨d,r,a,b,i,z⟩=t:=⟨_,rfl⟩
   simp only [hV] at hdo hwd;rw [hV] at hln;dsimp only at hln;have HDO:=Hz hdo;have HWD:=Hz hwd;have HT2:=Hz (show V.T.length≤k+1 by have:=HT.out;omega);clear hdo hwd hln hV;have hcb:(c != c)=false:=by simp
   have hki:(k:Int)<m:=by omega
   go_wp2_with fail;refine aq (.free 0 (.free 1 (.free 2 (.free 3 (.free 6 (.free 7 (.free 8 (.free 9 (.pure 4 (.pure 10 (.run 5 (.run 11 (.swi [] (.free 12 (.fin))))))))))))))) [11,12] (fun w'=>w'.cell? ⟨gs,os+k*6,none⟩=some (.int .i64 d)∧w'.cell? ⟨gs,os+k*6+1,none⟩=some (.int .i64 r)∧w'.cell? ⟨gs,os+k*6+2,none⟩=some (.int .i64 a)∧w'.cell? ⟨gs,os+k*6+3,none⟩=some (.int .i64 b)∧w'.cell? ⟨gs,os+k*6+4,none⟩=some (.int .i64 i)∧w'.cell? ⟨gs,os+k*6+5,none⟩=some (.int .i64 z)) (by kernel_rfl) (by kernel_rfl) ⟨d0,d1,d2,d3,d4,d5⟩ ?_
   iterate 10 ((first | refine ak rfl rfl fun K hK=>?_ | refine aj rfl rfl fun K hK=>?_ | refine eE rfl rfl _ (fun w' hG=>by obtain ⟨d0,d1,d2,d3,d4,d5⟩:=hG;exact gC (cs:=[_,_,_,_,_,_]) rfl (by decide +kernel) rfl (ab (by assumption) (ab (by assumption) (ab (by assumption) (ab (by assumption) (ab (by assumption) (ab (by assumption) aO))))))) (fun K hK=>?_) | refine ay rfl rfl fun K hK=>?_ | refine av rfl rfl fun K hK=>?_ | refine ax rfl rfl fun K hK=>?_);go_simp;refine hK _ ?_;clear hK K)
   refine aZ rfl rfl (fun K hK=>?_);unfold aM;go_simp;have hk1:=(Kz wr).drew;have MD:=Hz (M.out.same hk1);refine (HDO.out _ MD.out.A).mono ?_;rintro e w5 ⟨rfl,ht⟩;obtain ⟨h5,M5'⟩:=MD.out.gJ ht;have M5:=Hz M5';refine hK _ _ (fun _=>HCL.out _ M5.out.A.K) ?_;clear hK K ht M5' hk1 MD M d0 d1 d2 d3 d4 d5 hgl;refine aZ rfl rfl (fun K hK=>?_);unfold aM;go_simp;refine (HWD.out _ _ _ M5.out).mono ?_;rintro e w6 ⟨rfl,ht⟩;obtain ⟨b6,M6'⟩:=M5.out.world ht;have M6:=Hz M6';refine hK _ _ (fun _=>HCL.out _ M6.out.A.K) ?_;clear hK K ht M6' M5 HDO HWD;refine aE (fun _=>True) trivial ?_
   iterate 1 ((first | refine ak rfl rfl fun K hK=>?_ | refine aj rfl rfl fun K hK=>?_);go_simp;refine hK _ ?_;clear hK K)
   refine aA ?_;have pl:=M6.out.A.pl;have ql:=M6.out.ql;go_wp2_with fail;refine M6.out.A.pL.mono ?_;rintro e w7 ⟨rfl,hk⟩;have M7:=Hz (M6.out.same hk);clear hk pl ql M6;have ql:=M7.out.ql;have hwu:=kI M7.out.B (by have:=HT2.out;omega);rw [M7.out.e] at hwu;have HWU:=Hz hwu;clear hwu;go_wp2_with fail;refine HWU.out.mono ?_;rintro e w8 ⟨rfl,hk⟩;have M8:=Hz (M7.out.same hk);clear hk ql M7 HWU;have pl:=M8.out.A.pl;have ql:=M8.out.ql;generalize V.aI=ya at *;generalize V.aY=ga at *;have e1:(ya != ya)=false:=by simp
   have e2:(ga != ga)=false:=by simp
   go_wp2_with fail;refine (M8.out.A.pM (by have:=HT2.out;omega)).mono ?_;rintro e w9 ⟨v9,rfl,hv9,hk9⟩;have M9:=Hz (M8.out.same hk9);have V9:=Hz hv9;clear hv9 hk9 M8 pl ql;have ql:=M9.out.ql;have hwv:=r5 _ M9.out.B (by have:=HT2.out;omega);rw [M9.out.e] at hwv;have HWV:=Hz hwv;clear hwv;go_wp2_with fail;refine HWV.out.mono ?_;rintro e w10 ⟨v10,rfl,hv10,hk10⟩;have M10:=Hz (M9.out.same hk10);have V10:=Hz (V9.out.ae hk10 (fun _ _ _ h=>h));have U10:=Hz hv10;clear hv10 hk10 M9 V9 HWV ql;go_wp2_with fail;refine (lZ _ _ V.view _ (V10.out.td M10.out.B.ok) (U10.out.td M10.out.B.ok)).mono ?_;rintro e w11 ⟨rfl,hk11⟩;have HIK:=Hz (show qO w w11 p q (k+1) from ⟨h5,b6,_,M10.out.same hk11,HT2.out⟩);clear hk11 M10 V10 U10;go_wp2_with fail;refine ⟨⟨by kernel_rfl,?rel⟩,?measure⟩
   case rel=>exact ⟨k+1,hlt,by go_num,HIK.out⟩
   case measure=>exact rI (by go_num) (by first | rfl | exact E11.out) hlt
  ·obtain rfl:k=m:=by omega
   obtain ⟨h1,b1,W1,M1,-⟩:=HI.out;have K1:=Hz M1.A.K;clear HI M1;go_wp2_with fail;go_ret;exact ⟨rfl,K1.out⟩
theorem kP (n o:Int) (lo:Option Addr) (lc m:Nat) (xs:List Int) (w:World) (_:eQ n) (_:eQ o) (h0:Rd w lo (xs.map (Value.int .i64))) (hx:xs.length=m*6) (_:m≤maxLen) (hb:∀ x ∈ xs,eQ x) :
  Calls Try.prog 7 #[.int .i64 n, .int .i64 o, .slice lo m lc] w fun e w'=>e=.returned (.bool true)∧Below w.heap.size w w':=
 (lz n o lo lc m xs w h0 hx hb).mono fun e w' ⟨h1,h2⟩=>⟨h1,h2.below (fun _ _ h=>h)⟩
end
end
end Go.Proofs.Ytjifdalflepcoab
