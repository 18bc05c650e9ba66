/-
  Parts of the proof, merged: what the functions do, and plain laws.
-/
import Derived.Test.YtjifdalflepcoadGreatTRPP9
import Derived.Test.YtjifdalflepcoadGreatTRPP10
set_option maxHeartbeats 16000000
set_option maxRecDepth 100000
set_option linter.unusedVariables false
set_option linter.unusedSimpArgs false
namespace Go.Proofs.YtjifdalflepcoadGreat
section
open Go.RowKit
theorem o9:∀ (l:List (Int × Int)) (g:Int),popW l g=if findG g l<l.length then some ((l.getD (findG g l) (0,0)).2,l.eraseIdx (findG g l)) else none
 | [],g=>rfl
 | e :: l,g=>by
  unfold popW findG;by_cases h:e.1=g
  ·simp [h]
  ·rw [if_neg h,if_neg h,o9 l g];by_cases h2:findG g l<l.length
   ·rw [if_pos h2,if_pos (by simp;omega)];simp
   ·rw [if_neg h2,if_neg (by simp;omega)];rfl
section
variable {w w':World} {h:HH} {O O':Wo} {W:Wd} {φ:Int->Int}
theorem B8 (n:Int) (R:aI O W φ) (B:a8 w h O) :
  Calls Tryz.prog 56 #[.pointer (some ⟨h.p,0,none⟩), .int .i64 n] w (gF w h O n):=by
 by_cases hn:n<=(O.ar.nur:Int)-O.ar.yng
 ·exact yp n B hn
 have HB:=Hz B;have HR:=Hz R;have HE:=Hz (show O.room n=if (O.ar.yng:Int)<=(O.ar.ws.length:Int)-O.ar.grn then ir O else ed O by unfold Wo.room;rw [if_neg hn]);have o1:=B.H.ok.ha.h1;have o2:=B.H.ok.ha.h2;have o3:=B.H.ok.ha.h3;have hn2:((O.ar.nur-O.ar.yng:Nat):Int)<n:=by omega
 have HFO:=Hz (show ((O.ar.ws.length-O.ar.grn:Nat):Int)=(O.ar.ws.length:Int)-O.ar.grn by omega);obtain ⟨b0,bl⟩:=B.pc;have q0:=B.H.eJ.1;have ql:=B.H.hp.lt;clear B R hn o1 o2 o3;go_enter Tryz.func56,Tryz.ntmps56;go_wp2_with fail;refine (kj _ HB.o.H.ha).mono ?_;rintro e w1 ⟨rfl,hk⟩;have B1:=Hz (HB.o.same hk);have K1:=Hz hk;clear hk b0 bl q0 ql;obtain ⟨b0,bl⟩:=B1.o.pc;have q0:=B1.o.H.eJ.1;have ql:=B1.o.H.hp.lt;generalize ((O.ar.nur-O.ar.yng:Nat):Int)=fr at *;generalize ((O.ar.ws.length-O.ar.grn:Nat):Int)=fo at *;go_wp2_with fail;refine (mF _ B1.o.H.ha).mono ?_;rintro e w2 ⟨rfl,hk⟩;have B2:=Hz (B1.o.same hk);have K2:=Hz (K1.o.trans hk);clear hk b0 bl q0 ql B1 K1;obtain ⟨b0,bl⟩:=B2.o.pc;rw [<-HFO.o] at HE;unfold gF;obtain ⟨yg,hyg⟩:∃ y:Int,(O.ar.yng:Int)=y:=⟨_,rfl⟩;rw [hyg] at HE;rw [hyg];clear hyg;by_cases hy:yg<=fo
 ·have HE2:=Hz (show O.room n=ir O by rw [HE.o,if_pos hy]);go_wp2_with fail;refine (rF HR.o B2.o.H).mono ?_;rintro e w5 ⟨rfl,ht⟩;have TO:=Hz (aV.aL K2.o (aV.sa B2.o ht));clear ht b0 bl;go_wp2_with fail;go_ret;unfold gF;rw [HE2.o];exact ⟨rfl,TO.o⟩
 ·have HE2:=Hz (show O.room n=ed O by rw [HE.o,if_neg hy]);have hy:fo<yg:=by omega
  go_wp2_with fail;refine (rK HR.o B2.o.H).mono ?_;rintro e w5 ⟨rfl,ht⟩;have TO:=Hz (aV.aL K2.o (aV.sa B2.o ht));clear ht b0 bl;go_wp2_with fail;go_ret;unfold gF;rw [HE2.o];exact ⟨rfl,TO.o⟩
theorem aI.yL (R:aI O W φ) {n:Int} (hn:n<=13) (h0:(O.room n).1=0):n<=((O.room n).2.ar.nur:Int)-(O.room n).2.ar.yng:=by
 obtain ⟨e,ψ,R'⟩:=R.room n;rw [R'.zL];rw [e] at h0;exact (R.hw.room n hn).2 h0
theorem gO.rep (R:aI O W φ) {n:Int} (hn:n<=13):gO h O n:=⟨λw' B=>B8 n R B,λh0=>R.yL hn h0⟩
theorem pb (n:Int) (w:World) (hn:-cG<=n/\n<cG):Calls Tryz.prog 69 #[.int .i64 n] w λe w'=>e=.returned (.int .i64 (4*n))/\aa (λ_=>False) w w':=by
 have HEN:=Hz (yt n hn);have hn64:bm n:=by unfold bm;have:=hn.1;have:=hn.2;unfold cG at *;omega
 have HN:=Hz hn64;clear hn hn64;go_enter Tryz.func69,Tryz.ntmps69;go_wp2_with fail;refine (tK 1 n _ HN.o.1 HN.o.2).mono ?_;rintro e w2 ⟨rfl,hk⟩;rw [HEN.o];have HK:=Hz hk;clear hk;go_wp2_with fail;go_ret;exact ⟨rfl,HK.o⟩
def fP (O:Wo) (x:Int):Int × Int:=if O.kv x=true then (x,0) else (0,2)
theorem uW (k:Nat) (B:a8 w h O) (hk:k<12) :
  Calls Tryz.prog 61 #[.pointer (some ⟨h.p,0,none⟩), .int .i64 k] w λe w'=>e=.returned (.tuple #[.int .i64 (fP O (O.a5 k)).1, .int .i64 (fP O (O.a5 k)).2])/\aa (λ_=>False) w w':=by
 have HB:=Hz B;obtain ⟨b0,bl⟩:=B.pc;obtain ⟨g,o,cap,hro,hown,q0,q3,ql,gl,fz,rc⟩:=B.roots;have ra:=rc k hk;have hki:(k:Int)<12:=by omega
 have hkd:=λw' (R:bh w' h.a O)=>tU (O.a5 k) R;have HG:=Hz (show ∀ x,fP O x=if decide ((O.ar.aW x).2.2.2=0) && decide ((O.ar.aW x).2.1=5) then (x,0) else (0,2) from λx=>rfl);clear hro hown fz rc B;have ra:w.cell? ⟨g,o+k,none⟩=some (.int .i64 (O.a5 k)):=ra;generalize O.a5 (k:Int)=va at *;have HG:=Hz (HG.o va);obtain ⟨⟨p1,kd,n1,e1⟩,hT1⟩:∃ t,O.ar.aW va=t:=⟨_,rfl⟩;rw [hT1] at HG;simp only [hT1] at hkd;have HK:=Hz hkd;clear hkd hT1;go_enter Tryz.func61,Tryz.ntmps61;go_wp2_with fail;refine a6 (ftq [0,1,2,4,5,6,11] (.pure 3 (.pure 7 (.free 8 (.free 9 (.pure 10 (.free 12 (.pure 13 (.run 14 (.swi [] (ftq [15,16,17,18,19,20,21] (.fin)))))))))))) [14,15,16,17,18,19,20,21] (Fz b0 (Fz q3 (Fa ra))) ?_
 iterate 14 refine Wz ?_
 refine aD rfl rfl rfl (λK hK=>?_);unfold ax;go_simp;refine (HK.o _ (HB.o.same ((Kz w).drew)).H).mono ?_;rintro e3 w3 ⟨rfl,rfl⟩;refine hK _ _ ?_;clear hK K;refine aC (λ_=>True) trivial ?_
 iterate 7 refine Wz ?_
 refine av ?_;by_cases he1:e1=0
 ·subst he1;by_cases hk5:kd=5
  ·subst hk5;have HE:=Hz (show fP O va=(va,0) by rw [HG.o];rfl);go_wp2_with fail;go_ret2;rw [HE.o];exact ⟨rfl,(aa.refl _ _).drew⟩
  ·have hd:(kd != 5)=true:=by simpa using hk5
   have HE:=Hz (show fP O va=(0,2) by rw [HG.o];simp [hk5]);clear hk5;go_wp2_with fail;go_ret2;rw [HE.o];exact ⟨rfl,(aa.refl _ _).drew⟩
 ·have hd:(e1 != 0)=true:=by simpa using he1
  have HE:=Hz (show fP O va=(0,2) by rw [HG.o];simp [he1]);clear he1;go_wp2_with fail;go_ret2;rw [HE.o];exact ⟨rfl,(aa.refl _ _).drew⟩
end
end
section
open Go.RowKit
structure dj where
 p:Nat
 tv:Value
 rv:Value
 gv:Value
 wv:Value
 fv:Nat->Value
def dj.Own (h:dj) (k:Nat):Prop:=k=h.p\/aq h.tv k\/aq h.rv k\/aq h.gv k\/aq h.wv k\/∃ i,aq (h.fv i) k
structure nU (w:World) (u:Value) (t:Th) (c0 c1 c2 c3:Option Value):Prop where
 d:c3=some (.bool t.dead)
 k:t.dead=false->c0=some (.int .i64 t.k)
 f:t.dead=false->c1=some u
 o:t.dead=false->c2=some (.bool t.aK)
 s:t.dead=false->Sl w 77 2 u t.fs.length (aH t.fs)
 c:∃ (a:Int) (b:Value) (c:Bool),c0=some (.int .i64 a)/\c1=some b/\c2=some (.bool c)
def eV (w:World) (v:Value) (fv:Nat->Value) (T:List Th):Prop:=
 ∃ cs,Sl w 151 4 v T.length cs/\∀ i,i<T.length->nU w (fv i) (T.getD i Th.none) cs[i*4]? cs[i*4+1]? cs[i*4+2]? cs[i*4+3]?
theorem eV.ab {w w':World} {v:Value} {fv:Nat->Value} {T:List Th} {S:Nat->Prop} (h:eV w v fv T) (k:aa S w w') (hv:∀ b,aq v b->¬ S b) (hf:∀ i b,aq (fv i) b->¬ S b):eV w' v fv T:=by
 obtain ⟨cs,hs,hr⟩:=h;exact ⟨cs,hs.ab k hv,λi hi=>⟨(hr i hi).d,(hr i hi).k,(hr i hi).f,(hr i hi).o,λhd=>((hr i hi).s hd).ab k (hf i),(hr i hi).c⟩⟩
structure aR (w:World) (h:dj) (W:Wd):Prop where
 hp:ak w h.p [h.tv,h.rv,h.gv,h.wv, .int .i64 W.aA, .int .i64 W.cD, .int .i64 W.most, .int .i64 W.grow] 86
 ht:eV w h.tv h.fv W.T
 hr:Sl w 77 2 h.rv W.roots.length (aH W.roots)
 hg:Sl w 119 2 h.gv W.ai.length (aH W.ai)
 hw:Sl w 119 2 h.wv W.wait.length (aH W.wait)
 ap:∀ k,¬ (aq h.gv k/\aq h.wv k)
 af:∀ i k,aq (h.fv i) k->k<w.heap.size/\(∃ c,ak w k c 77)/\¬ aq h.rv k
 fi:∀ i j k,aq (h.fv i) k->aq (h.fv j) k->i=j
 fl:∀ (i:Nat) k,aq (h.fv i) k->W.live (i:Int)
 ok:W.ok
def aT (w:World) (h:dj) (w':World) (W':Wd):Prop:=
 ∃ h',aR w' h' W'/\h'.p=h.p/\aa h.Own w w'/\∀ k,h'.Own k->h.Own k\/w.heap.size<=k
section
variable {w w':World} {h:dj} {W W':Wd}
theorem aR.ab {S:Nat->Prop} (H:aR w h W) (k:aa S w w') (hn:∀ b,h.Own b->¬ S b):aR w' h W:=
 ⟨k.au H.hp (hn _ (.inl rfl)),H.ht.ab k (λb hb=>hn b (.inr (.inl hb))) (λi b hb=>hn b (.inr (.inr (.inr (.inr (.inr ⟨i,hb⟩)))))),H.hr.ab k (λb hb=>hn b (.inr (.inr (.inl hb)))),H.hg.ab k (λb hb=>hn b (.inr (.inr (.inr (.inl hb))))),
  H.hw.ab k (λb hb=>hn b (.inr (.inr (.inr (.inr (.inl hb)))))),H.ap,λi b hb=>by
   obtain ⟨h1,⟨c,h2⟩,h3⟩:=H.af i b hb
   exact ⟨Zd h1 k.size,⟨c,k.au h2 (hn b (.inr (.inr (.inr (.inr (.inr ⟨i,hb⟩))))))⟩,h3⟩,H.fi,H.fl,H.ok⟩
theorem aR.same (H:aR w h W) (k:aa (λ_=>False) w w'):aR w' h W:=H.ab k (λ_ _ h=>h)
theorem aT.same (H:aR w h W) (k:aa (λ_=>False) w w'):aT w h w' W:=⟨h,H.same k,rfl,k.mono (λ_ _ h=>h.elim),λk hk=>.inl hk⟩
theorem aT.aL {w1:World} {W1:Wd} (k:aa (λ_=>False) w w1) (t:aT w1 h w' W1):aT w h w' W1:=by
 obtain ⟨h1,H1,e1,k1,o1⟩:=t;exact ⟨h1,H1,e1,(k.mono (λ_ _ h=>h.elim)).trans k1,λb hb=>(o1 b hb).imp id (λh=>Za k.size h)⟩
theorem aT.step {w1 w2:World} {h1:dj} {W':Wd} (ep:h1.p=h.p) (k:aa h.Own w w1) (o:∀ b,h1.Own b->h.Own b\/w.heap.size<=b) (t:aT w1 h1 w2 W'):aT w h w2 W':=by
 obtain ⟨h2,H2,e2,k2,o2⟩:=t;refine ⟨h2,H2,e2.trans ep,k.then k2 o,λb hb=>?_⟩;rcases o2 b hb with h | h
 ·exact o b h
 ·exact .inr (Za k.size h)
theorem aR.bE (H:aR w h W) {k:Nat} (hk:h.Own k):k<w.heap.size/\∃ c T,ak w k c T/\(T=86\/T=151\/T=77\/T=119):=by
 rcases hk with rfl | hk | hk | hk | hk | ⟨i,hk⟩
 ·exact ⟨H.hp.lt,_,_,H.hp, .inl rfl⟩
 ·obtain ⟨cs,hs,_⟩:=H.ht;obtain ⟨h1,c,hc⟩:=hs.own hk;exact ⟨h1,c,_,hc, .inr (.inl rfl)⟩
 ·obtain ⟨h1,c,hc⟩:=H.hr.own hk;exact ⟨h1,c,_,hc, .inr (.inr (.inl rfl))⟩
 ·obtain ⟨h1,c,hc⟩:=H.hg.own hk;exact ⟨h1,c,_,hc, .inr (.inr (.inr rfl))⟩
 ·obtain ⟨h1,c,hc⟩:=H.hw.own hk;exact ⟨h1,c,_,hc, .inr (.inr (.inr rfl))⟩
 ·obtain ⟨h1,⟨c,hc⟩,_⟩:=H.af i k hk;exact ⟨h1,c,_,hc, .inr (.inr (.inl rfl))⟩
theorem aR.aZ (H:aR w h W) {k:Nat} (hk:h.Own k):k<w.heap.size:=(H.bE hk).1
theorem aR.cells (H:aR w h W):w.cell? ⟨h.p,0,none⟩=some h.tv/\w.cell? ⟨h.p,1,none⟩=some h.rv/\w.cell? ⟨h.p,2,none⟩=some h.gv/\w.cell? ⟨h.p,3,none⟩=some h.wv /\
  w.cell? ⟨h.p,4,none⟩=some (.int .i64 W.aA)/\w.cell? ⟨h.p,5,none⟩=some (.int .i64 W.cD)/\w.cell? ⟨h.p,6,none⟩=some (.int .i64 W.most)/\w.cell? ⟨h.p,7,none⟩=some (.int .i64 W.grow):=
 ⟨H.hp.cell 0,H.hp.cell 1,H.hp.cell 2,H.hp.cell 3,H.hp.cell 4,H.hp.cell 5,H.hp.cell 6,H.hp.cell 7⟩
def dj.gx (h:dj) (W:Wd):GX:=⟨h.tv,h.rv, .int .i64 W.aA, .int .i64 W.cD, .int .i64 W.most, .int .i64 W.grow⟩
theorem aR.side (H:aR w h W):bX (h.gx W) w h.p h.gv h.wv W.ai W.wait:=⟨H.hp,H.hg,H.hw,H.ap⟩
theorem aR.tv (H:aR w h W):∃ no nc,h.tv=.slice no W.T.length nc:=by
 obtain ⟨cs,hs,-⟩:=H.ht;obtain ⟨no,nc,e,-,-,-⟩:=hs.rd;exact ⟨no,nc,e⟩
theorem aR.nth (H:aR w h W) {i:Nat} (hi:i<W.T.length):∃ g o nc,h.tv=.slice (some ⟨g,o,none⟩) W.T.length nc/\aq h.tv g/\g<w.heap.size/\(∀ j,w.frozen? ⟨g,j,none⟩=false) /\
  nU w (h.fv i) (W.T.getD i Th.none) (w.cell? ⟨g,o+i*4,none⟩) (w.cell? ⟨g,o+i*4+1,none⟩) (w.cell? ⟨g,o+i*4+2,none⟩) (w.cell? ⟨g,o+i*4+3,none⟩):=by
 obtain ⟨cs,hs,hr⟩:=H.ht;obtain ⟨g,o,cap,cur,e,hb,h1,h2,h3,h4⟩:=hs.laid (by omega);have hl:=hs.1;have hc:∀ j,j<W.T.length*4->w.cell? ⟨g,o+j,none⟩=cs[j]? := λj hj=>by
  rw [hb.cell,<-h4,List.getElem?_take,if_pos hj,List.getElem?_drop]
 refine ⟨g,o,cap,e,by rw [e];rfl,hb.lt,hb.free,?_⟩;have:=hr i hi;rw [hc (i*4) (by omega),Nat.add_assoc o (i*4) 1,hc (i*4+1) (by omega),Nat.add_assoc o (i*4) 2,hc (i*4+2) (by omega),Nat.add_assoc o (i*4) 3,hc (i*4+3) (by omega)];exact this
theorem Wd.gQ (W:Wd) (i:Nat):W.th (i:Int)=W.T.getD i Th.none:=by unfold Wd.th;rw [Zt]
theorem aR.root (H:aR w h W) {k:Nat} (hk:k<12):∃ g o rc,h.rv=.slice (some ⟨g,o,none⟩) W.roots.length rc/\g<w.heap.size/\w.cell? ⟨g,o+k*2,none⟩=some (.int .i64 (W.rt k).1)/\w.cell? ⟨g,o+k*2+1,none⟩=some (.int .i64 (W.rt k).2):=by
 have hl:=H.ok.hr;obtain ⟨ao,rc,e,hrd,-,-⟩:=H.hr.rd;obtain ⟨g,o,rfl,hg,h0,h1⟩:=hrd.fZ k (by omega);exact ⟨g,o,rc,e,hg,by rw [h0];unfold Wd.rt;rw [Zt],by rw [h1];unfold Wd.rt;rw [Zt]⟩
end
end
section
open Go.RowKit
def j6 (l:List Nat):List Value:=l.map λ(k:Nat)=>Value.int .i64 (k:Int)
structure dC (w:World) (gp lb ib:Nat) (nv:Value) (t:List Bool × List Nat):Prop where
 hp:ak w lb [.pointer (some ⟨gp,0,none⟩), .slice (some ⟨ib,0,none⟩) t.1.length t.1.length,nv] 158
 hi:ak w ib (t.1.map Value.bool) 4
 hn:Sl w 3 1 nv t.2.length (j6 t.2)
def gu (lb ib:Nat) (nv:Value) (k:Nat):Prop:=k=lb\/k=ib\/aq nv k
def g6 (w:World) (gp lb ib:Nat) (nv:Value) (w':World) (t:List Bool × List Nat):Prop:=
 ∃ nv',dC w' gp lb ib nv' t/\aa (gu lb ib nv) w w'/\∀ k,aq nv' k->aq nv k\/w.heap.size<=k
def gfalsW (w:World) (b:Nat):Nat:=match w.heap[b]? with
 | some (.cells a _ _)=>(a.toList.map λv=>match v with | .bool false=>1 | _=>0).sum
 | _=>0
def tF (w:World) (b i:Nat):Nat:=match w.cell? ⟨b,i,none⟩ with
 | some (.slice _ n _)=>n
 | _=>0
theorem xI {w:World} {b:Nat} {l:List Bool} {T:TypeId} (h:ak w b (l.map Value.bool) T):gfalsW w b=cL l:=by
 unfold ak at h;unfold gfalsW;rw [h];simp only [cL];congr 1;simp only [List.map_map];refine Zf λx _=>?_;cases x <;> rfl
section
variable {w w':World} {gp lb ib:Nat} {nv:Value} {t:List Bool × List Nat}
theorem dC.bS (L:dC w gp lb ib nv t):gfalsW w ib=cL t.1:=xI L.hi
theorem dC.uX (L:dC w gp lb ib nv t):tF w lb 2=t.2.length:=by
 obtain ⟨no,nc,e,-,-,-⟩:=L.hn.rd;have:=L.hp.cell 2;simp only [Lz,aB] at this;unfold tF;rw [this,e]
theorem dC.ab {S:Nat->Prop} (L:dC w gp lb ib nv t) (k:aa S w w') (hn:∀ b,gu lb ib nv b->¬ S b):dC w' gp lb ib nv t:=
 ⟨k.au L.hp (hn _ (.inl rfl)),k.au L.hi (hn _ (.inr (.inl rfl))),L.hn.ab k (λb hb=>hn b (.inr (.inr hb)))⟩
theorem dC.same (L:dC w gp lb ib nv t) (k:aa (λ_=>False) w w'):dC w' gp lb ib nv t:=L.ab k (λ_ _ h=>h)
theorem g6.same (L:dC w gp lb ib nv t) (k:aa (λ_=>False) w w'):g6 w gp lb ib nv w' t:=⟨nv,L.same k,k.mono (λ_ _ h=>h.elim),λk hk=>.inl hk⟩
theorem dC.bE (L:dC w gp lb ib nv t) {k:Nat} (hk:gu lb ib nv k):k<w.heap.size/\∃ c T,ak w k c T/\(T=158\/T=4\/T=3):=by
 rcases hk with rfl | rfl | hk
 ·exact ⟨L.hp.lt,_,_,L.hp, .inl rfl⟩
 ·exact ⟨L.hi.lt,_,_,L.hi, .inr (.inl rfl)⟩
 ·obtain ⟨h1,c,hc⟩:=L.hn.own hk;exact ⟨h1,c,_,hc, .inr (.inr rfl)⟩
theorem dC.bool (L:dC w gp lb ib nv t) {i:Nat} (hi:i<t.1.length):w.cell? ⟨ib,i,none⟩=some (.bool (t.1.getD i false)):=by
 rw [L.hi.cell,Zw,Ld,Le hi];rfl
theorem z4 (i:Nat) (L:dC w gp lb ib nv t) (hi:i<t.1.length) (hl:t.1.length<=1000000) :
  Calls Tryz.prog 105 #[.pointer (some ⟨lb,0,none⟩), .int .i64 i] w λe w'=>e=.returned (.bool (aw t.1 i))/\w=w':=by
 have hc:=L.bool hi;have hg:=L.hi.lt;have c1:=L.hp.cell 1;have cl:=L.hp.lt;simp only [Lz,aB] at c1;have HE:=Hz (dQ t.1 i);generalize t.1.getD i false=bv at *;have hii:(i:Int)<t.1.length:=by omega
 clear L;go_enter Tryz.func105,Tryz.ntmps105;go_wp2_with fail;go_ret;rw [HE.o];exact ⟨rfl,rfl⟩
theorem dC.Ca (L:dC w gp lb ib nv t) (i:Nat):dC (w.setCell ⟨ib,i,none⟩ (.bool true)) gp lb ib nv (t.1.set i true,t.2)/\aa (gu lb ib nv) w (w.setCell ⟨ib,i,none⟩ (.bool true)):=by
 have K:=(aa.refl (·=ib) w).setCell (p:=⟨ib,i,none⟩) (.inl rfl) (.bool true);refine ⟨⟨?_,?_,L.hn.ab K (λb hb h=>?_)⟩,K.mono (λb _ h=>.inr (.inl h))⟩
 ·have:=K.au L.hp (λh=>L.hp.ne L.hi (by decide) h);simpa using this
 ·have:=L.hi.aE i (.bool true);dsimp only;rw [List.map_set];exact this
 ·obtain ⟨_,c',hc'⟩:=L.hn.own hb;exact hc'.ne L.hi (by decide) h
theorem pC (v:Vl) (L:dC w gp lb ib nv t) (hv:v.1=3->0<=v.2/\v.2<t.1.length) (hl:t.1.length<=100000) (hn:t.2.length<=100000) :
  Calls Tryz.prog 103 #[.pointer (some ⟨lb,0,none⟩), .agg #[.int .i64 v.1, .int .i64 v.2]] w λe w'=>e=.returned (.tuple #[])/\g6 w gp lb ib nv w' (cm t v):=by
 obtain ⟨i0,hi,hz0,hz1,hz2⟩:=info_parts ic;have Hi:=Hz hi;have Hz0:=Hz hz0;have Hz1:=Hz hz1;have Hz2:=Hz hz2;clear hi hz0 hz1 hz2;obtain ⟨kd,x⟩:=v;dsimp only at hv ⊢;have ay:ak (w.alloc (.cells #[.int .i64 kd, .int .i64 x] 77)) w.heap.size [.int .i64 kd, .int .i64 x] 77:=ak.newAt _ rfl rfl;have ka:=(Kz w).alloc (.cells #[.int .i64 kd, .int .i64 x] 77);have L0:=Hz L;have L1:=Hz (L.same ka);have K1:=Hz ka;have B1:=Hz ay;clear ay ka L;go_enter Tryz.func103,Tryz.ntmps103;go_upto_region 1 with (fail)
 generalize w.alloc (.cells #[.int .i64 kd, .int .i64 x] 77)=w1 at *;generalize hsb:w.heap.size=sb at *;have HSB:=Hz hsb;clear hsb;have s0:=B1.o.cell 0;have s1:=B1.o.cell 1;have sl:=B1.o.lt;simp only [Lz,aB] at s0 s1;have cl:=L1.o.hp.lt;by_cases h3:kd=3
 case neg=>
  have hd:(kd == 3)=false:=by simpa using h3
  have HE:=Hz (show cm t (kd,x)=t by unfold cm;rw [if_neg (λh=>h3 h.1)]);clear h3;go_wp2_with fail;refine a6 (.free 0 (.pure 1 (ftq [2,3,4,5,6,8] (.pure 7 (.pure 9 (.free 10 (.pure 11 (.free 12 (.free 13 (.fin)))))))))) [] (Fa s0) ?_
  iterate 14 refine Wz ?_
  refine av ?_;go_wp2_with fail;go_end0;refine ⟨rfl,?_⟩;rw [HE.o];exact g6.same L0.o K1.o.drew
 subst h3;obtain ⟨x0,x1⟩:=hv rfl;obtain ⟨x,rfl⟩:=Zg x0;have hxl:x<t.1.length:=by omega
 have hc:=L1.o.bool hxl;have hg:=L1.o.hi.lt;have hfx:=L1.o.hi.free x;have c1:=L1.o.hp.cell 1;simp only [Lz,aB] at c1;have hat:=dQ t.1 x;have hxi:(x:Int)<t.1.length:=x1;clear x0 hv;obtain ⟨bv,eh⟩:∃ b,t.1.getD x false=b:=⟨_,rfl⟩;rw [eh] at hc hat
 cases bv
 case true=>
  have HE:=Hz (show cm t (3,(x:Int))=t by unfold cm;rw [if_neg (λh=>by have:=h.2;dsimp only at this;rw [hat] at this;cases this)]);clear hat eh hfx;go_wp2_with fail;refine a6 (.free 0 (.pure 1 (ftq [2,3,4,5,6,8] (.pure 7 (.pure 9 (.free 10 (.pure 11 (.free 12 (.free 13 (.fin)))))))))) [] (Fz s0 (Fz s1 (Fz c1 (Fa hc)))) ?_
  iterate 14 refine Wz ?_
  refine av ?_;go_wp2_with fail;go_end0;refine ⟨rfl,?_⟩;rw [HE.o];exact g6.same L0.o K1.o.drew
 have HE:=Hz (show cm t (3,(x:Int))=(t.1.set x true,t.2 ++ [x]) by unfold cm;rw [if_pos ⟨rfl,hat⟩];rfl);clear hat eh;go_wp2_with fail;refine a6 (.free 0 (.pure 1 (ftq [2,3,4,5,6,8] (.pure 7 (.pure 9 (.free 10 (.pure 11 (.free 12 (.free 13 (.fin)))))))))) [] (Fz s0 (Fz s1 (Fz c1 (Fa hc)))) ?_
 iterate 14 refine Wz ?_
 refine av ?_;go_wp2_with fail;refine a6 (ftq [0,1,2,4] (.pure 3 (.pure 5 (.free 6 (.run 7 (.swi [] (.fin))))))) [7] (Fz s1 (Fa c1)) ?_
 iterate 7 refine Wz ?_
 refine aD rfl rfl rfl (λK hK=>?_);unfold ax;go_simp;refine hK _ _ ?_;clear hK K;refine aC (λ_=>True) trivial (av ?_);have hL2:=(L1.o.Ca x);have kd2:=(Kz (w1.setCell ⟨ib,x,none⟩ (.bool true))).drew.drew;have L2:=Hz (hL2.1.same kd2);have K2:=Hz ((hL2.2.trans (kd2.mono (λ_ _ h=>h.elim))));have BS2:=Hz (show ak _ sb _ _ from kd2.au (B1.o.cj (a:=⟨ib,x,none⟩) (B1.o.ne L1.o.hi (by decide)) (.bool true)) (λh=>h));clear hL2 kd2 s0 s1 sl c1 hc hfx hg cl;generalize (w1.setCell ⟨ib,x,none⟩ (.bool true)).drew.drew=w2 at *;have s1:=BS2.o.cell 1;have sl:=BS2.o.lt;have c2:=L2.o.hp.cell 2;have cl:=L2.o.hp.lt;simp only [Lz,aB] at s1 c2;obtain ⟨no,nc,en,-,-,-⟩:=L2.o.hn.rd;rw [en] at c2;have HN2:=Hz (show Sl w2 3 1 (.slice no t.2.length nc) t.2.length (j6 t.2) by have:=L2.o.hn;rw [en] at this;exact this);have HEN:=Hz en;have HSZ:=Hz (show w.heap.size<=w2.heap.size from by have:=K1.o.size;have:=K2.o.size;omega);clear en;go_wp2_with fail;refine a6 (ftq [0,1,2,3,5] (.pure 4 (.pure 6 (.run 7 (.run 8 (.swi [11] (.free 9 (.free 10 (.run 11 (.swi [] (.fin))))))))))) [8,9,10,11] (Fz c2 (Fa s1)) ?_
 iterate 7 refine Wz ?_
 refine aN rfl rfl (λK hK=>?_);unfold ax;go_simp;have hka:aa (λ_=>False) w2 ((w2.alloc (.cells #[.int .i64 x] 3)).drew):=((Kz w2).alloc (.cells #[.int .i64 x] 3)).drew;refine hK _ _ (λ_=>⟨(hka.au L2.o.hp (λh=>h)).cell 2 |>.trans (by simp [HEN.o]),(hka.au BS2.o (λh=>h)).cell 1⟩) ?_;clear hK K;refine aD rfl rfl rfl (λK hK=>?_);refine dN (.tmp 29) (.tmp 32) 27 rfl 3 i0 (.int .i64 0) 1 8 Tryz.underlying27 Hi.o Hz0.o Hz1.o Hz2.o rfl (by decide) _ t.2.length (j6 t.2) rfl (HN2.o.ab hka (λ_ _ h=>h)) ⟨w2.heap.size,0,none⟩ 1 1 [.int .i64 x] rfl rfl (bV w2 3 #[.int .i64 x]) (by intro u hu;simp at hu;subst hu;rfl) (by unfold maxLen;omega) (by omega) ?_;intro v3 w3 hs3 hk3 ho3;refine hK _ _ ?_;clear hK K;obtain ⟨vo3,vc3,rfl,-,-,-⟩:=hs3.rd;have hnl:¬ aq (.slice no t.2.length nc) lb:=λe=>by
  obtain ⟨_,c,hc⟩:=HN2.o.own e;exact L2.o.hp.ne hc (by decide) rfl
 have hp3:=hk3.au (hka.au L2.o.hp (λh=>h)) hnl;have x0:=hp3.cell 2;have xl:=hp3.lt;have xf:=hp3.free 2;simp only [Lz,aB] at x0;have set:=(aa.refl (·=lb) w3).setCell (p:=⟨lb,2,none⟩) (.inl rfl) (.slice vo3 (t.2.length+1) vc3);have K13:aa (gu lb ib nv) w1 w3:=(K2.o.then hka (λ_ h=>h.elim)).then hk3 (λk hk=>.inl (.inr (.inr (by rw [HEN.o];exact hk))));have L4:=Hz (show dC (w3.setCell ⟨lb,2,none⟩ (.slice vo3 (t.2.length+1) vc3)) gp lb ib (.slice vo3 (t.2.length+1) vc3) (t.1.set x true,t.2 ++ [x]) from
  ⟨by simpa using hp3.aE 2 (.slice vo3 (t.2.length+1) vc3),set.au (hk3.au (hka.au L2.o.hi (λh=>h)) (λe=>by
   obtain ⟨_,c',hc'⟩:=HN2.o.own e
   exact L2.o.hi.ne hc' (by decide) rfl)) (λe=>L2.o.hi.ne L2.o.hp (by decide) e),by
   have e1:j6 (t.2 ++ [x])=j6 t.2 ++ [.int .i64 x]:=by simp [j6]
   have e2:(t.2 ++ [x]).length=t.2.length+1:=by simp
   dsimp only;rw [e1,e2];exact hs3.ab set (λb hb e=>by
    obtain ⟨_,c,hc⟩:=hs3.own hb
    exact hc.ne hp3 (by decide) e)⟩)
 have K4:=Hz (K13.then set (λk hk=>.inl (.inl hk)));have O4:=Hz (show ∀ k,aq (.slice vo3 (t.2.length+1) vc3) k->aq nv k\/w.heap.size<=k from λk hk=>by
  rcases ho3 k hk with h1 | h1
  ·exact .inl (by rw [HEN.o];exact h1)
  ·refine .inr (Za HSZ.o ?_)
   have:=hka.size;omega)
 clear hs3 hk3 ho3 hnl hp3 set K13 c2 cl s1 sl hka;refine aC (λ_=>True) trivial ?_
 iterate 2 refine Wz ?_
 refine aD rfl rfl rfl (λK hK=>?_);unfold ax;go_simp;refine hK _ _ ?_;clear hK K;refine aC (λ_=>True) trivial (av ?_);clear x0 xl xf;go_wp2_with fail;go_end0;refine ⟨rfl,?_⟩;rw [HE.o];exact ⟨_,L4.o,(K1.o.mono (λ_ _ h=>h.elim)).trans K4.o,O4.o⟩
end
end
section
open Go.RowKit
section
variable {w w':World} {tv:Value} {fv:Nat->Value} {L:List Th} {i:Nat} {is:List Bool} {ib:Nat}
theorem fQ {cs:List Value} {i n:Nat} (hl:cs.length=n*4) (hi:i<n) (j:Nat) (hj:j<4) (k:Nat) (hk:k<4) (v:Value) :
  (cs.set (i*4+j) v)[i*4+k]? = if j=k then some v else cs[i*4+k]? := by
 rw [List.getElem?_set];by_cases e:j=k
 ·subst e;simp;omega
 ·rw [if_neg (by omega),if_neg e]
theorem iD {cs:List Value} {i m:Nat} (h:m≠i) (j:Nat) (hj:j<4) (k:Nat) (hk:k<4) (v:Value):(cs.set (i*4+j) v)[m*4+k]? = cs[m*4+k]? := by
 rw [List.getElem?_set,if_neg (by omega)]
theorem AL {L:List Th} {i:Nat} (hi:i<L.length) (t:Th) (j:Nat):(L.set i t).getD j Th.none=if j=i then t else L.getD j Th.none:=by
 simp only [Ld,List.getElem?_set];by_cases e:i=j
 ·subst e;simp [hi]
 ·rw [if_neg e,if_neg (λh=>e h.symm)]
theorem eV.row {g o nc:Nat} (T:eV w (.slice (some ⟨g,o,none⟩) L.length nc) fv L) (hi:i<L.length):g<w.heap.size/\(∀ j,w.frozen? ⟨g,j,none⟩=false) /\
  nU w (fv i) (L.getD i Th.none) (w.cell? ⟨g,o+i*4,none⟩) (w.cell? ⟨g,o+i*4+1,none⟩) (w.cell? ⟨g,o+i*4+2,none⟩) (w.cell? ⟨g,o+i*4+3,none⟩):=by
 obtain ⟨cs,hs,hr⟩:=T;obtain ⟨g',o',cap,cur,e,hb,h1,h2,h3,h4⟩:=hs.laid (by omega);cases e;have hl:=hs.1;have hc:∀ j,j<L.length*4->w.cell? ⟨g,o+j,none⟩=cs[j]? := λj hj=>by
  rw [hb.cell,<-h4,List.getElem?_take,if_pos hj,List.getElem?_drop]
 refine ⟨hb.lt,hb.free,?_⟩;have:=hr i hi;rw [hc (i*4) (by omega),Nat.add_assoc o (i*4) 1,hc (i*4+1) (by omega),Nat.add_assoc o (i*4) 2,hc (i*4+2) (by omega),Nat.add_assoc o (i*4) 3,hc (i*4+3) (by omega)];exact this
theorem eV.AM (T:eV w tv fv L) (k:aa (λ_=>False) w w'):eV w' tv fv L:=T.ab k (λ_ _ h=>h) (λ_ _ _ h=>h)
theorem Dn {f:Vl->Vl} {fs:List Vl} {q:Nat}:((fs.take q).map f ++ fs.drop q).getD q (0,0)=fs.getD q (0,0):=by
 simp only [Ld];by_cases h:q<fs.length
 ·rw [List.getElem?_append_right (by simp;omega)];simp [Nat.min_eq_left (Nat.le_of_lt h)]
 ·rw [List.getElem?_eq_none (by simp;omega),List.getElem?_eq_none (by omega)]
theorem Dp {f:Vl->Vl} {fs:List Vl} {q:Nat} (h:q<fs.length):(fs.take (q+1)).map f ++ fs.drop (q+1)=((fs.take q).map f ++ fs.drop q).set q (f (fs.getD q (0,0))):=by
 rw [List.set_append_right _ _ (by simp;omega),<-List.take_append_getElem h,List.map_append,List.append_assoc];congr 1;rw [Zp,Zx,Nat.min_eq_left (Nat.le_of_lt h),Nat.sub_self,List.drop_eq_getElem_cons h,Zu];rw [Ld,Le h]
 rfl
theorem Et {f:Vl->Vl} {fs:List Vl} {q:Nat} (h:q<fs.length) (e:f (fs.getD q (0,0))=fs.getD q (0,0)):(fs.take (q+1)).map f ++ fs.drop (q+1)=(fs.take q).map f ++ fs.drop q:=by
 rw [Dp h,e];apply List.ext_getElem?;intro j;rw [List.getElem?_set];by_cases hj:q=j
 ·subst hj;have hl:q<((fs.take q).map f ++ fs.drop q).length:=by simp;omega
  rw [if_pos rfl,if_pos hl,<-Dn (f:=f),Ld,Le hl];rfl
 ·rw [if_neg hj]
theorem eV.aK {g o nc:Nat} (T:eV w (.slice (some ⟨g,o,none⟩) L.length nc) fv L) (hi:i<L.length) (hf:∀ j b,aq (fv j) b->b≠g) :
  eV (w.setCell ⟨g,o+i*4+2,none⟩ (.bool true)) (.slice (some ⟨g,o,none⟩) L.length nc) fv (L.set i { L.getD i Th.none with aK:=true })/\aa (·=g) w (w.setCell ⟨g,o+i*4+2,none⟩ (.bool true)):=by
 have K:=(aa.refl (·=g) w).setCell (p:=⟨g,o+i*4+2,none⟩) (.inl rfl) (.bool true);obtain ⟨cs,hs,hr⟩:=T;have hl:=hs.1;have hs2:=hs.set (j:=i*4+2) (u:=.bool true) (by omega);rw [<-Nat.add_assoc] at hs2;refine ⟨⟨_,by rw [List.length_set];exact hs2,λj hj=>?_⟩,K⟩;rw [List.length_set] at hj;have h:=hr j hj;rw [AL hi];by_cases e:j=i
 ·subst e;rw [if_pos rfl,<-Nat.add_zero (j*4),fQ hl hi 2 (by decide) 0 (by decide),fQ hl hi 2 (by decide) 1 (by decide),fQ hl hi 2 (by decide) 2 (by decide),fQ hl hi 2 (by decide) 3 (by decide)];obtain ⟨a,b,c,h0,h1,h2⟩:=h.c;exact ⟨h.d,h.k,h.f,λ_=>rfl,λhd=>(h.s hd).ab K (λb hb e=>hf j b hb e),a,b,true,h0,h1,rfl⟩
 ·rw [if_neg e,<-Nat.add_zero (j*4),iD e 2 (by decide) 0 (by decide),iD e 2 (by decide) 1 (by decide),iD e 2 (by decide) 2 (by decide),iD e 2 (by decide) 3 (by decide)];exact ⟨h.d,h.k,h.f,h.o,λhd=>(h.s hd).ab K (λb hb e=>hf j b hb e),h.c⟩
theorem eV.gone {g o nc:Nat} {cs:List Value} {t:Th} (hs:Sl w 151 4 (.slice (some ⟨g,o,none⟩) L.length nc) L.length cs)
  (hr:∀ i,i<L.length->nU w (fv i) (L.getD i Th.none) cs[i*4]? cs[i*4+1]? cs[i*4+2]? cs[i*4+3]?) (hi:i<L.length) (hf:∀ j b,aq (fv j) b->b≠g) (ht:t.dead=true)
  (hs':Sl w' 151 4 (.slice (some ⟨g,o,none⟩) L.length nc) L.length ((((cs.set (i*4) (.int .i64 0)).set (i*4+1) (.slice none 0 0)).set (i*4+2) (.bool false)).set (i*4+3) (.bool true))) (K:aa (·=g) w w') :
  eV w' (.slice (some ⟨g,o,none⟩) L.length nc) (λj=>if j=i then .slice none 0 0 else fv j) (L.set i t):=by
 have hl:=hs.1;refine ⟨_,by rw [List.length_set];exact hs',λj hj=>?_⟩;rw [List.length_set] at hj;have h:=hr j hj;rw [AL hi];rw [<-Nat.add_zero (i*4)]
 show nU w' (if j=i then Value.slice none 0 0 else fv j) _ _ _ _ _
 have l1:(cs.set (i*4+0) (.int .i64 0)).length=L.length*4:=by simpa using hl
 have l2:((cs.set (i*4+0) (.int .i64 0)).set (i*4+0+1) (.slice none 0 0)).length=L.length*4:=by simpa using hl
 have l3:(((cs.set (i*4+0) (.int .i64 0)).set (i*4+0+1) (.slice none 0 0)).set (i*4+0+2) (.bool false)).length=L.length*4:=by simpa using hl
 by_cases e:j=i
 ·subst e;rw [if_pos rfl,if_pos rfl];refine ⟨?_,λh=>?_,λh=>?_,λh=>?_,λh=>?_,0, .slice none 0 0,false,?_,?_,?_⟩
  ·simp only [Nat.add_zero] at l3 ⊢;rw [fQ l3 hi 3 (by decide) 3 (by decide),if_pos rfl,ht]
  ·rw [ht] at h;cases h
  ·rw [ht] at h;cases h
  ·rw [ht] at h;cases h
  ·rw [ht] at h;cases h
  ·simp only [Nat.add_zero] at l1 l2 l3 ⊢;have e3:=fQ l3 hi 3 (by decide) 0 (by decide) (.bool true);have e2:=fQ l2 hi 2 (by decide) 0 (by decide) (.bool false);have e1:=fQ l1 hi 1 (by decide) 0 (by decide) (.slice none 0 0);have e0:=fQ hl hi 0 (by decide) 0 (by decide) (.int .i64 0);simp only [Nat.add_zero] at e0 e1 e2 e3;rw [e3,if_neg (by decide),e2,if_neg (by decide),e1,if_neg (by decide),e0];simp
  ·simp only [Nat.add_zero] at l1 l2 l3 ⊢;rw [fQ l3 hi 3 (by decide) 1 (by decide),if_neg (by decide),fQ l2 hi 2 (by decide) 1 (by decide),if_neg (by decide),fQ l1 hi 1 (by decide) 1 (by decide),if_pos rfl]
  ·simp only [Nat.add_zero] at l1 l2 l3 ⊢;rw [fQ l3 hi 3 (by decide) 2 (by decide),if_neg (by decide),fQ l2 hi 2 (by decide) 2 (by decide),if_pos rfl]
 ·rw [if_neg e,if_neg e,<-Nat.add_zero (j*4)];have H:∀ k,k<4->((((cs.set (i*4+0) (.int .i64 0)).set (i*4+0+1) (.slice none 0 0)).set (i*4+0+2) (.bool false)).set (i*4+0+3) (.bool true))[j*4+k]? = cs[j*4+k]? := λk hk=>by
   simp only [Nat.add_zero];rw [iD e 3 (by decide) k hk,iD e 2 (by decide) k hk,iD e 1 (by decide) k hk];have:=iD (cs:=cs) e 0 (by decide) k hk (.int .i64 0);simpa using this
  rw [H 0 (by decide),H 1 (by decide),H 2 (by decide),H 3 (by decide)];exact ⟨h.d,h.k,h.f,h.o,λhd=>(h.s hd).ab K (λb hb e=>hf j b hb e),h.c⟩
theorem eV.cK {fs:List Vl} (T:eV w tv fv L) (hi:i<L.length) (hd:(L.getD i Th.none).dead=false) (K:aa (aq (fv i)) w w') (hs:Sl w' 77 2 (fv i) fs.length (aH fs))
  (ht:∀ b,aq tv b->¬ aq (fv i) b) (hf:∀ j b,aq (fv i) b->aq (fv j) b->j=i):eV w' tv fv (L.set i { L.getD i Th.none with fs:=fs }):=by
 obtain ⟨cs,hc,hr⟩:=T;refine ⟨cs,by rw [List.length_set];exact hc.ab K ht,λj hj=>?_⟩;rw [List.length_set] at hj;have h:=hr j hj;rw [AL hi];by_cases e:j=i
 ·subst e;rw [if_pos rfl];exact ⟨h.d,h.k,h.f,h.o,λ_=>hs,h.c⟩
 ·rw [if_neg e];exact ⟨h.d,h.k,h.f,h.o,λhd=>(h.s hd).ab K (λb hb h2=>e (hf j b h2 hb)),h.c⟩
theorem pd {P:Program} {ops:Array Oper} {rest:List Oper} {o:Oper} {a:Act} {w:World} {Q:Exit->Act->World->Prop} (hgd:o.guard=none) (ty:TypeId) (x y:Operand) (ho:o.op=.store ty x y) (hd:o.dst=none)
  (g off n cap k:Nat) (xs:List Value) (e:Nat) (v0 v1 v2 v3:Value) (hx:a.eval x=.pointer (some ⟨g,off+k*4,none⟩)) (hy:a.eval y=.agg #[v0,v1,v2,v3])
  (hs:Sl w e 4 (.slice (some ⟨g,off,none⟩) n cap) n xs) (hk:k<n) (hi:(P.info? ty).map (·.size)=some 4) (h0:∀ v ∈ [v0,v1,v2,v3],v.oneCell'=true)
  (h:∀ w',Sl w' e 4 (.slice (some ⟨g,off,none⟩) n cap) n ((((xs.set (k*4) v0).set (k*4+1) v1).set (k*4+2) v2).set (k*4+3) v3)->aa (·=g) w w'->w'.heap.size=w.heap.size->wpList P ops Q rest a w'):wpList P ops Q (o :: rest) a w:=by
 obtain ⟨g',o',cap',cur,e1,hb,hc1,hc2,hc3,hc4⟩:=hs.laid (by omega);cases e1;have hth:w.there g (off+k*4) 4:=λj hj=>by
  have hl:off+k*4+j<cur.length:=by omega
  refine ⟨?_,hb.free _⟩;rw [hb.cell,Le hl];rfl
 refine wpList_store_mid hgd ty x y ho g (off+k*4) #[v0,v1,v2,v3] hx hy hth (by simpa using hi) (all_oneCell_toArray (cs:=[v0,v1,v2,v3]) h0) ?_;rw [hd];refine h _ ?_ ?_ ?_
 ·have s1:=hs.set (j:=k*4) (u:=v0) (by omega);have s2:=s1.set (j:=k*4+1) (u:=v1) (by omega);have s3:=s2.set (j:=k*4+2) (u:=v2) (by omega);have s4:=s3.set (j:=k*4+3) (u:=v3) (by omega);simp only [<-Nat.add_assoc] at s4;exact s4
 ·exact ((((aa.refl (·=g) w).setCell (p:=⟨g,off+k*4,none⟩) (.inl rfl) v0).setCell (p:=⟨g,off+k*4+1,none⟩) (.inl rfl) v1).setCell (p:=⟨g,off+k*4+2,none⟩) (.inl rfl) v2).setCell (p:=⟨g,off+k*4+3,none⟩) (.inl rfl) v3
 ·show (World.setCell _ _ _).heap.size=_
  simp
theorem wP (v:Vl) {bb n:Nat} (hb:ak w bb [.slice (some ⟨ib,0,none⟩) n n] 23) (hi:ak w ib (is.map Value.bool) 4) (hn:is.length=n) (hl:n<=1000000) (hv:v.1=3->0<=v.2/\v.2<n) :
  Calls Tryz.prog 139 #[.agg #[.int .i64 v.1, .int .i64 v.2], .pointer (some ⟨bb,0,none⟩)] w λe w'=>e=.returned (.bool (!bY is v))/\aa (λ_=>False) w w':=by
 obtain ⟨kd,x⟩:=v;dsimp only at hv ⊢;have b0:=hb.cell 0;have bl:=hb.lt;simp only [Lz] at b0;by_cases h3:kd=3
 ·subst h3;obtain ⟨x0,x1⟩:=hv rfl;obtain ⟨x,rfl⟩:=Zg x0;have hxl:x<is.length:=by omega
  have hc:w.cell? ⟨ib,x,none⟩=some (.bool (is.getD x false)):=by rw [hi.cell,Zw,Ld,Le hxl];rfl
  have hil:=hi.lt;have HE:=Hz (show (!bY is (3,(x:Int)))=!is.getD x false by unfold bY;rw [dQ];simp);generalize is.getD x false=bv at *;clear hb hi hv x0;go_enter Tryz.func139,Tryz.ntmps139;go_wp2_with fail;go_ret;exact ⟨de HE.o.symm,(aa.refl _ _).alloc _⟩
 ·have e3:(kd == 3)=false:=by simpa using h3
  have HE:=Hz (show (!bY is (kd,x))=false by unfold bY;simp [h3]);clear hb hi hv h3;go_enter Tryz.func139,Tryz.ntmps139;go_wp2_with fail;go_ret;exact ⟨de HE.o.symm,(aa.refl _ _).alloc _⟩
end
end
section
open Go.RowKit
def mf (is:List Bool) (i:Nat) (t:Th):Th:=if is.getD i false=true then ⟨t.k,t.fs.map (fY is (iK is t)),true,t.dead⟩ else ⟨t.k,[],t.aK,true⟩
structure Dq (L:List Th) (is:List Bool) (i:Nat):Prop where
 d:is.getD i false=true->(L.getD i Th.none).dead=false
 v:is.getD i false=true->∀ v ∈ (L.getD i Th.none).fs,v.1=3->0<=v.2/\v.2<L.length
 n:is.getD i false=true->(L.getD i Th.none).fs.length<=1000
 f:is.getD i false=true->(L.getD i Th.none).k=4->0<(L.getD i Th.none).fs.length
section
variable {w w':World} {tv:Value} {fv:Nat->Value} {L:List Th} {i:Nat} {is:List Bool} {ib:Nat}
def yM (w:World) (tv:Value) (fv:Nat->Value) (L:List Th) (is:List Bool) (i:Nat) (w':World):Prop:=
 ∃ fv',eV w' tv fv' (L.set i (mf is i (L.getD i Th.none)))/\aa (λk=>aq tv k\/aq (fv i) k) w w'/\(∀ j b,aq (fv' j) b->∃ c,ak w' b c 77) /\
  (fv'=if is.getD i false=true then fv else λj=>if j=i then .slice none 0 0 else fv j)
theorem yN (i:Nat) {gp:Nat} {pc:List Value} (P:ak w gp pc 86) (hpc:pc[0]? = some tv) (T:eV w tv fv L) (F:∀ j b,aq (fv j) b->∃ c,ak w b c 77) (fi:∀ i j k,aq (fv i) k->aq (fv j) k->i=j)
  (HI:ak w ib (is.map Value.bool) 4) (hn:is.length=L.length) (hL:L.length<=100000) (hi:i<L.length) (ok:Dq L is i) :
  Calls Tryz.prog 108 #[.pointer (some ⟨gp,0,none⟩), .int .i64 i, .slice (some ⟨ib,0,none⟩) L.length L.length] w λe w'=>e=.returned (.tuple #[])/\yM w tv fv L is i w':=by
 have p0:=P.cell 0;have pl:=P.lt;rw [hpc] at p0;obtain ⟨cs,hs,hr⟩:=T;obtain ⟨g,o,nc,cur,rfl,hb,-,-,-,-⟩:=hs.laid (by omega);have hc:w.cell? ⟨ib,i,none⟩=some (.bool (is.getD i false)):=by rw [HI.cell,Zw,Ld,Le (by omega)];rfl
 have hil:=HI.lt;have hii:(i:Int)<L.length:=by omega
 have hgl:=hb.lt;have HB:=Hz hb;have HS:=Hz hs;have HR:=Hz hr;have HF:=Hz F;have HFI:=Hz fi;have HOK:=Hz ok;have HHI:=Hz HI;have HP:=Hz P;have HNL:=Hz hn;have HLL:=Hz hi;have HFG:=Hz (show ∀ j b,aq (fv j) b->b≠g from λj b hb' e=>by
  obtain ⟨c,hc⟩:=F j b hb'
  exact hc.ne hb (by decide) e)
 have hka:=(Kz w).alloc (.cells #[.slice (some ⟨ib,0,none⟩) L.length L.length] 23);have BB:=Hz (show ak (w.alloc (.cells #[.slice (some ⟨ib,0,none⟩) L.length L.length] 23)) w.heap.size _ 23 from ak.newAt _ rfl rfl);have KA:=Hz hka;clear hb hs hr F fi ok HI P hn hka hi;cases eh:is.getD i false
 ·rw [eh] at hc;have HE:=Hz eh;clear eh;go_enter Tryz.func108,Tryz.ntmps108;have SA:=Hz (HS.o.ab KA.o (λ_ _ h=>h));go_wp2_with (refine pd rfl 151 (.tmp 24) (.tmp 23) rfl rfl g o L.length nc i cs 151 (.int .i64 0) (.slice none 0 0) (.bool false) (.bool true) rfl rfl SA.o HLL.o (by kernel_rfl) (by intro v hv;simp at hv;rcases hv with rfl | rfl | rfl | rfl <;> rfl) ?_);intro w2 hs2 hk2 hz2;have T2:=Hz (eV.gone (t:=⟨(L.getD i Th.none).k,[],(L.getD i Th.none).aK,true⟩) SA.o (λj hj=>by
   have h:=HR.o j hj
   exact ⟨h.d,h.k,h.f,h.o,λhd=>(h.s hd).ab KA.o (λ_ _ h=>h),h.c⟩) HLL.o HFG.o rfl hs2 hk2)
  have K2:=Hz ((KA.o.mono (T:=λk=>aq (.slice (some ⟨g,o,none⟩) L.length nc) k\/aq (fv i) k) (λ_ _ h=>h.elim)).trans (hk2.mono (λk _ e=>by subst e;exact .inl rfl)));have F2:=Hz (show ∀ j b,aq ((λj=>if j=i then Value.slice none 0 0 else fv j) j) b->∃ c,ak w2 b c 77 from λj b hb=>by
   dsimp only at hb;split at hb
   ·exact absurd hb (by intro h;cases h)
   ·obtain ⟨c,hc⟩:=HF.o j b hb
    exact ⟨c,hk2.au (KA.o.au hc (λh=>h)) (HFG.o j b hb)⟩)
  clear hs2 hk2 hz2;go_wp2_with fail
  ((try simp only [Exit.inBlock,Exit.then]);refine bodyPost_ret (results_none rfl _ _ _) rfl ?_)
  refine ⟨rfl,_,?_,K2.o,F2.o,?_⟩
  ·have:mf is i (L.getD i Th.none)=⟨(L.getD i Th.none).k,[],(L.getD i Th.none).aK,true⟩:=by unfold mf;rw [HE.o];rfl
   rw [this];exact T2.o
  ·rw [HE.o];rfl
 ·rw [eh] at hc;have HE:=Hz eh;have hded:=HOK.o.d eh;have hvv:=HOK.o.v eh;have hvn:=HOK.o.n eh;have hvf:=HOK.o.f eh;have T1:=Hz (show eV w (.slice (some ⟨g,o,none⟩) L.length nc) fv L from ⟨cs,HS.o,HR.o⟩);obtain ⟨-,hfree,hrow⟩:=T1.o.row HLL.o;have t2:=hrow.o hded;have tf:=hfree (o+i*4+2);have T2:=Hz (T1.o.aK HLL.o HFG.o);have FS:=Hz (hrow.s hded);obtain ⟨fo,fc,efv,-,-,-⟩:=FS.o.rd;have HEF:=Hz efv;have HTG:Hd (∀ b,aq (.slice (some ⟨g,o,none⟩) L.length nc) b->¬ aq (fv i) b):=λb h1 h2=>by
   have e:g=b:=by simpa [aq,Value.ownBlock] using h1
   exact HFG.o i b h2 e.symm
  have HG:=Hz (show mf is i (L.getD i Th.none)=⟨(L.getD i Th.none).k,(L.getD i Th.none).fs.map (fY is (iK is (L.getD i Th.none))),true,false⟩ by unfold mf;rw [if_pos eh,hded]);have HBK:=Hz (show iK is (L.getD i Th.none)=decide ((L.getD i Th.none).k=4/\bY is ((L.getD i Th.none).fs.getD 0 (0,0))=false) from rfl);have HST:=Hz (show (L.getD i Th.none).dead=false from hded);have HL2:=Hz (show (L.set i { L.getD i Th.none with aK:=true }).length=L.length by simp);have HT2:=Hz (show (L.set i { L.getD i Th.none with aK:=true }).getD i Th.none={ L.getD i Th.none with aK:=true } by rw [AL HLL.o,if_pos rfl]);clear hrow hfree eh hded;obtain ⟨th,hth⟩:∃ t,L.getD i Th.none=t:=⟨_,rfl⟩;rw [hth] at hvv hvn hvf t2 FS HG HBK HST T2 efv HL2 HT2 HEF;have HTH:=Hz hth;clear hth efv;obtain ⟨kd,fs,od,dd⟩:=th;dsimp only at hvv hvn hvf t2 FS HG HBK HST T2 HL2 HT2 HEF;have HVV:=Hz hvv;have HVN:=Hz hvn;go_enter Tryz.func108,Tryz.ntmps108;go_upto_region 5 with fail
  have ka:=(Kz (w.setCell ⟨g,o+i*4+2,none⟩ (.bool true))).alloc (.cells #[.slice (some ⟨ib,0,none⟩) L.length L.length] 23);have T3:=Hz (T2.o.1.AM ka);have K3:=Hz (T2.o.2.trans (ka.mono (λ_ _ h=>h.elim)));have B3:=Hz (show ak ((w.setCell ⟨g,o+i*4+2,none⟩ (.bool true)).alloc (.cells #[.slice (some ⟨ib,0,none⟩) L.length L.length] 23)) w.heap.size _ 23 from ak.newAt _ (by simp) rfl);have I3:=Hz (K3.o.au HHI.o (λe=>HHI.o.ne HB.o (by decide) e));have FS3:=Hz (FS.o.ab K3.o (λb hb e=>HFG.o i b hb e));clear ka t2 tf p0 pl hc hil BB KA;generalize (w.setCell ⟨g,o+i*4+2,none⟩ (.bool true)).alloc (.cells #[.slice (some ⟨ib,0,none⟩) L.length L.length] 23)=w3 at *;generalize w.heap.size=bb at *;have hT3:=T3.o;rw [<-HL2.o] at hT3;obtain ⟨hg3,-,hrow⟩:=hT3.row (i:=i) (by rw [HL2.o];exact HLL.o);rw [HT2.o] at hrow;have t0:=hrow.k HST.o;have t1:=hrow.f HST.o;rw [HEF.o] at t1;dsimp only at t0 t1;clear hrow hT3;have b0:=B3.o.cell 0;have bl:=B3.o.lt;simp only [Lz] at b0;obtain ⟨bk,hbk⟩:∃ b,iK is ⟨kd,fs,od,dd⟩=b:=⟨_,rfl⟩;rw [hbk] at HG HBK;clear hbk;go_upto_region 6 with fail
  refine gT (λi=>Nat.blt 28 i && Nat.blt i 44 || Nat.beq i 8) (λs' wx=>s' 8=.bool bk/\aa (λ_=>False) w3 wx) ?_ ?_
  ·intro K' hK';by_cases h4:kd=4
   ·subst h4;have h0:0<fs.length:=hvf rfl;have rd3:Rd w3 fo (aH fs):=by
     have:=FS3.o;rw [HEF.o] at this;obtain ⟨_,_,e',rd,-,-⟩:=this.rd;cases e';exact rd
    obtain ⟨gf,of,rfl,hgf,v0,v1⟩:=rd3.fZ 0 h0;simp only [Nat.zero_mul,Nat.add_zero] at v0 v1;have hin:fs.getD 0 (0,0) ∈ fs:=by rw [Ld,Le h0];exact Ze h0
    have hbk2:(!bY is (fs.getD 0 (0,0)))=bk:=by rw [HBK.o];cases bY is (fs.getD 0 (0,0)) <;> simp
    have HD:=Hz (wP (fs.getD 0 (0,0)) B3.o I3.o HNL.o (by omega) (hvv _ hin));rw [hbk2] at HD;clear hvv hvn hvf rd3 hin hbk2;generalize fs.getD 0 (0,0)=v at *;have hlf:(0:Int)<fs.length:=by omega
    go_wp2_with (refine oK (by kernel_rfl) 77 (.tmp 40) rfl (by kernel_rfl) gf of rfl _ _ v0 v1 ?_);refine HD.o.mono ?_;rintro e w4 ⟨rfl,hk⟩;go_wp2_with fail;refine ⟨by kernel_rfl,?_⟩;exact ⟨rfl,hk⟩
   ·have k4:(kd == 4)=false:=by simpa using h4
    have hbk2:bk=false:=by rw [HBK.o];simp [h4]
    subst hbk2;clear h4 hvv hvn hvf;go_wp2_with fail;refine ⟨by kernel_rfl,?_⟩;exact ⟨rfl,aa.refl _ _⟩
  intro u1 wx hR;obtain ⟨e8,hkx⟩:=hR;have e8:u1 8=.bool bk:=e8;simp (maxSteps:=2000000) only [fI,overL,List.toList_toArray,Nat.blt,Nat.beq,Nat.ble,Nat.reduceAdd,Bool.or_false,Bool.false_or,Bool.or_true,Bool.true_or,Bool.and_true,Bool.true_and,Bool.and_false,Bool.false_and,cond_true,cond_false];rw [e8];clear e8 hvv hvn hvf t0 t1 hg3 b0 bl;rename_i Kc hKc;have TX:=Hz (T3.o.AM hkx);have BX:=Hz (hkx.au B3.o (λh=>h));have IX:=Hz (hkx.au I3.o (λh=>h));have FX:=Hz (FS3.o.ab hkx (λ_ _ h=>h));have KX:=Hz (K3.o.trans (hkx.mono (λ_ _ h=>h.elim)));clear T3 B3 I3 FS3 K3 hkx;have HTX:=Hz (show ∀ w',aa (aq (fv i)) wx w'->w'.cell? ⟨g,o+i*4+1,none⟩=some (.slice fo fs.length fc)/\g<w'.heap.size from λw' k=>by
   have hT:=TX.o;rw [<-HL2.o] at hT;obtain ⟨hg3,-,hrow⟩:=hT.row (i:=i) (by rw [HL2.o];exact HLL.o);rw [HT2.o] at hrow;have t1:=hrow.f HST.o;rw [HEF.o] at t1;refine ⟨?_,Zd hg3 k.size⟩;have:=k.block g hg3 (HTG.o g (by rfl));rw [<-t1]
   simp only [World.cell?,this])
  obtain ⟨t1,hg3⟩:=HTX.o wx (aa.refl _ _);have HMX:=Hz (show ∀ v ∈ fs,v.1=3->0<=v.2/\v.2<(L.length:Int) from HVV.o);go_wp2_with fail;go_loopw [49] (λu wr=>∃ q:Nat,q<=fs.length/\u=.int .i64 q/\Sl wr 77 2 (fv i) fs.length (aH ((fs.take q).map (fY is bk) ++ fs.drop q))/\aa (aq (fv i)) wx wr) (λu _=>fs.length-(intOf u).toNat)
  case atStart=>exact ⟨0,Zc _,rfl,by simpa using FX.o,aa.refl _ _⟩
  case round=>
   clear t1 hg3;obtain ⟨q,hq,rfl,hsl,hkr⟩:=hrel;have HSL:=Hz hsl;have HKR:=Hz hkr;clear hsl hkr;by_cases hlt:q<fs.length
   ·have rd3:Rd wr fo (aH ((fs.take q).map (fY is bk) ++ fs.drop q)):=by
     have:=HSL.o;rw [HEF.o] at this;obtain ⟨_,_,e',rd,-,-⟩:=this.rd;cases e';exact rd
    obtain ⟨gf,of,rfl,hgf,v0,v1⟩:=rd3.fZ q (by simp;omega);rw [Dn] at v0 v1;have hin:fs.getD q (0,0) ∈ fs:=by rw [Ld,Le hlt];exact Ze hlt
    have HV:=Hz (HMX.o _ hin);have MS:=Hz (Dp (f:=fY is bk) hlt);have MN:=Hz (λh=>Et (f:=fY is bk) hlt h);have HC:=Hz (show fY is bk (fs.getD q (0,0))=if (bk || !bY is (fs.getD q (0,0)))=true then (2,0) else fs.getD q (0,0) by
     unfold fY
     cases bk <;> cases bY is (fs.getD q (0,0)) <;> simp)
    clear rd3 hin;generalize fs.getD q (0,0)=v at *;obtain ⟨t1,hg3⟩:=HTX.o wr HKR.o;have hqi:(q:Int)<fs.length:=by omega
    have hvn:=HVN.o;go_upto_region 10 with (refine ct rfl 77 (.tmp 52) rfl (by kernel_rfl) gf (of+q*2) rfl _ _ v0 v1 ?_)
    have ka:=(Kz wr).alloc (.cells #[.int .i64 v.1, .int .i64 v.2] 77);have BV:=Hz (show ak (wr.alloc (.cells #[.int .i64 v.1, .int .i64 v.2] 77)) wr.heap.size _ 77 from ak.newAt _ rfl rfl);have KV:=Hz (HKR.o.trans (ka.mono (λ_ _ h=>h.elim)));have SV:=Hz (HSL.o.ab ka (λ_ _ h=>h));clear ka t1 hg3 v0 v1 hgf HSL HKR;generalize wr.alloc (.cells #[.int .i64 v.1, .int .i64 v.2] 77)=wv at *;generalize wr.heap.size=vb at *;have c0:=BV.o.cell 0;have c1:=BV.o.cell 1;have cl:=BV.o.lt;simp only [Lz,aB] at c0 c1;have nvf:∀ b,aq (fv i) b->∃ c,ak wx b c 77:=λb hb=>(FX.o.own hb).2;have DD:=Hz (wP v (KV.o.au BX.o (λh=>by obtain ⟨c,hc⟩:=nvf _ h;exact BX.o.ne hc (by decide) rfl)) (KV.o.au IX.o (λh=>by obtain ⟨c,hc⟩:=nvf _ h;exact IX.o.ne hc (by decide) rfl)) HNL.o (by omega) HV.o);refine gT (λi=>Nat.blt 53 i && Nat.blt i 60) (λs' wy=>s' 59=.bool (bk || !bY is v)/\aa (λ_=>False) wv wy) ?_ ?_
    ·intro K' hK';cases bk
     ·go_wp2_with (refine oK (by kernel_rfl) 77 (.tmp 10) rfl (by kernel_rfl) vb 0 rfl _ _ c0 c1 ?_);refine DD.o.mono ?_;rintro e w4 ⟨rfl,hk⟩;go_wp2_with fail;refine ⟨by kernel_rfl,?_⟩;exact ⟨rfl,hk⟩
     ·go_wp2_with fail;refine ⟨by kernel_rfl,?_⟩;exact ⟨rfl,aa.refl _ _⟩
    intro u2 wy hR;obtain ⟨e59,hky⟩:=hR;have e59:u2 59=.bool (bk || !bY is v):=e59;simp (maxSteps:=2000000) only [fI,overL,List.toList_toArray,Nat.blt,Nat.beq,Nat.ble,Nat.reduceAdd,Bool.or_false,Bool.false_or,Bool.or_true,Bool.true_or,Bool.and_true,Bool.true_and,Bool.and_false,Bool.false_and,cond_true,cond_false];rw [e59];rename_i Kd hKd;have KY:=Hz (KV.o.trans (hky.mono (λ_ _ h=>h.elim)));have SY:=Hz (SV.o.ab hky (λ_ _ h=>h));clear hky KV SV BV DD c0 c1 cl e59;obtain ⟨t1,hg3⟩:=HTX.o wy KY.o;generalize (bk || !bY is v)=cnd at *;cases cnd
    ·have ME:=Hz (MN.o (by rw [HC.o];rfl));go_wp2_with fail;go_roundw
     case rel=>exact ⟨q+1,hlt,by go_num,by rw [ME.o];exact SY.o,KY.o⟩
     case measure=>simp [intOf];omega
    ·have ME:=Hz (MS.o);rw [HC.o] at ME;rw [HEF.o] at SY;go_wp2_with (refine qh rfl 77 (.tmp 66) (.tmp 65) rfl rfl gf of fs.length fc q _ 77 (.int .i64 2) (.int .i64 0) rfl rfl SY.o hlt (by kernel_rfl) rfl rfl ?_);intro w5 hs5 hk5 hz5;have S5:=Hz (show Sl w5 77 2 (fv i) fs.length (aH ((fs.take (q+1)).map (fY is bk) ++ fs.drop (q+1))) from by
      rw [ME.o,HEF.o,im,List.map_take];exact hs5)
     have K5:=Hz (KY.o.trans (hk5.mono (T:=aq (fv i)) (λk _ e=>by rw [HEF.o];subst e;rfl)));clear hs5 hk5 hz5;go_wp2_with fail;go_roundw
     case rel=>exact ⟨q+1,hlt,by go_num,S5.o,K5.o⟩
     case measure=>simp [intOf];omega
   ·obtain rfl:q=fs.length:=by omega
    have SE:=HSL.o;rw [List.take_length,List.drop_length,List.append_nil] at SE;have SE:=Hz SE;go_wp2_with fail;go_end0;have hT:=TX.o;have hlen:(fs.map (fY is bk)).length=fs.length:=by simp
    have hT2:=eV.cK (L:=L.set i ⟨kd,fs,true,dd⟩) (i:=i) (fs:=fs.map (fY is bk)) hT (by rw [HL2.o];exact HLL.o) (by rw [HT2.o];exact HST.o) HKR.o (by rw [hlen];exact SE.o) HTG.o (λj b h1 h2=>HFI.o j i b h2 h1);rw [HT2.o,List.set_set] at hT2;have hd:dd=false:=HST.o;refine ⟨rfl,fv,?_,KX.o.mono (λk _ e=>by subst e;exact .inl rfl) |>.trans (HKR.o.mono (λk _ h=>.inr h)),λj b hb=>?_,?_⟩
    ·rw [HTH.o,HG.o];rw [hd] at hT2;exact hT2
    ·by_cases e:aq (fv i) b
     ·exact (SE.o.own e).2
     ·obtain ⟨c,hc⟩:=HF.o j b hb;exact ⟨c,HKR.o.au (KX.o.au hc (HFG.o j b hb)) e⟩
    ·rw [HE.o];rfl
end
end
section
open Go.RowKit
section
variable {w w':World} {h:dj} {W W':Wd}
theorem aR.r7 (H:aR w h W) {g o rc:Nat} (hrv:h.rv=.slice (some ⟨g,o,none⟩) W.roots.length rc) {k:Nat} (hk:k<12) {v:Vl} (hv:W.cI v)
  (hs:Sl w' 77 2 (.slice (some ⟨g,o,none⟩) W.roots.length rc) W.roots.length (((aH W.roots).set (k*2) (.int .i64 v.1)).set (k*2+1) (.int .i64 v.2))) (K:aa (·=g) w w'):aT w h w' (W.bF k v):=by
 have ho:aq h.rv g:=by rw [hrv];exact rfl
 obtain ⟨_,c,hc⟩:=H.hr.own ho;have ne:∀ {b:Nat} {c':List Value} {T:TypeId},ak w b c' T->T≠77->¬ b=g:=λhb hT e=>(hb.ne hc hT) e;have hl:(W.bF k v).roots.length=W.roots.length:=by simp [Wd.bF]
 have hset:(W.bF k v).roots=W.roots.set k v:=by simp [Wd.bF]
 refine ⟨h,⟨K.au H.hp (ne H.hp (by decide)),H.ht.ab K (λb hb=>?_) (λi b hb e=>(H.af i b hb).2.2 (e ▸ ho)),?_,H.hg.ab K (λb hb=>?_),H.hw.ab K (λb hb=>?_),H.ap,λi b hb=>?_,H.fi,H.fl,H.ok.bF hv k⟩,rfl,K.mono (λb _ e=>e ▸ .inr (.inr (.inl ho))),λb hb=>.inl hb⟩
 ·obtain ⟨cs,hs',_⟩:=H.ht;obtain ⟨_,c',hc'⟩:=hs'.own hb;exact ne hc' (by decide)
 ·rw [hl,hset,im,hrv];exact hs
 ·obtain ⟨_,c',hc'⟩:=H.hg.own hb;exact ne hc' (by decide)
 ·obtain ⟨_,c',hc'⟩:=H.hw.own hb;exact ne hc' (by decide)
 ·obtain ⟨h1,⟨c',h2⟩,h3⟩:=H.af i b hb;exact ⟨Zd h1 K.size,⟨c',K.au h2 (λe=>h3 (e ▸ ho))⟩,h3⟩
theorem aR.D6 (H:aR w h W) {i g:Nat} {fs:List Vl} (hl:W.live (i:Int)) (hlen:fs.length=(W.th (i:Int)).fs.length) (hv:∀ v ∈ fs,W.cI v) (hg:aq (h.fv i) g)
  (hs:Sl w' 77 2 (h.fv i) fs.length (aH fs)) (K:aa (·=g) w w'):aT w h w' (W.cK (i:Int) fs):=by
 obtain ⟨hlt,⟨c,hc⟩,hnr⟩:=H.af i g hg;have ne:∀ {b:Nat} {c':List Value} {T:TypeId},ak w b c' T->T≠77->¬ b=g:=λhb hT e=>(hb.ne hc hT) e;have hsum:=Wd.uc (W:=W) hl hlen;have hT:(W.cK (i:Int) fs).T.length=W.T.length:=by simp [Wd.cK]
 obtain ⟨cs,hcs,hrow⟩:=H.ht;refine ⟨h,⟨?_,⟨cs,?_,λj hj=>?_⟩,H.hr.ab K (λb hb e=>hnr (e ▸ hb)),H.hg.ab K (λb hb=>?_),H.hw.ab K (λb hb=>?_),H.ap,λj b hb=>?_,H.fi,λj b hb=>?_,H.ok.cK hl hlen hv⟩,rfl,K.mono (λb _ e=>e ▸ .inr (.inr (.inr (.inr (.inr ⟨i,hg⟩))))),λb hb=>.inl hb⟩
 ·rw [hsum.1,hsum.2];exact K.au H.hp (ne H.hp (by decide))
 ·rw [hT];exact hcs.ab K (λb hb=>by obtain ⟨_,c',hc'⟩:=hcs.own hb;exact ne hc' (by decide))
 ·rw [hT] at hj;have hr:=hrow j hj;have e0:(W.cK (i:Int) fs).T.getD j Th.none=(W.cK (i:Int) fs).th (j:Int):=(Wd.gQ _ j).symm;have e1:W.T.getD j Th.none=W.th (j:Int):=(Wd.gQ _ j).symm;rw [e0,Wd.gV (by omega) hl];rw [e1] at hr;by_cases e:(j:Int)=(i:Int)
  ·obtain rfl:j=i:=by omega
   rw [if_pos rfl];exact ⟨hr.d,hr.k,hr.f,hr.o,λhd=>hs,hr.c⟩
  ·rw [if_neg e];refine ⟨hr.d,hr.k,hr.f,hr.o,λhd=>(hr.s hd).ab K (λb hb e2=>e ?_),hr.c⟩;subst e2;have:=H.fi j i _ hb hg;omega
 ·obtain ⟨_,c',hc'⟩:=H.hg.own hb;exact ne hc' (by decide)
 ·obtain ⟨_,c',hc'⟩:=H.hw.own hb;exact ne hc' (by decide)
 ·obtain ⟨h1,⟨c',h2⟩,h3⟩:=H.af j b hb;by_cases e:b=g
  ·subst e;have e3:=H.fi j i _ hb hg;subst e3;obtain ⟨h4,c4,h5⟩:=hs.own hb;exact ⟨h4,⟨c4,h5⟩,h3⟩
  ·exact ⟨Zd h1 K.size,⟨c',K.au h2 e⟩,h3⟩
 ·rw [Wd.fq hl];exact H.fl j b hb
end
end
end Go.Proofs.YtjifdalflepcoadGreat
